import Derived.Test.YtlkpfnjdbgeifaaGreatFRowAll
set_option linter.unusedSimpArgs false
set_option linter.unusedVariables false
set_option maxRecDepth 100000
set_option maxHeartbeats 32000000
open List renaming getElem?_eq_getElem→ed,replicate→ek,take_succ_cons→fo,drop_succ_cons→gg,mem_of_getElem?→hX,take_zero→hZ,getElem?_eq_some_iff→iP,append_nil→jd,getElem?_set_self→js,getElem?_map→jt,drop_zero→jw,mem_append→kd,replicate_succ→kk,length_append→kr,ext_getElem?→lx,getElem?_replicate→l5,mem_filter→l8,length_filter_le→nr,mem_of_mem_take→o4,mem_cons_self→px,append_assoc→pz,getElem_mem→qa,mem_map→r4
open Go.Proofs.Tryz renaming underlying177→ej,underlying174→hO,prog→jm,underlying171→ps,underlying3→qc,underlying118→r2
open Go renaming Value→eD,World→hG,wpList_load_mid→jg,wpStill_nil→ly,TypeId→l4,Calls→pn,bodyPost_ret→py,maxLen→sT,wpList_plain→tm,wpList→tr,Addr→xa,Oper→y0
open Nat renaming le_refl→eX,mul_le_mul→kb,mul_le_mul_left→kn,zero_add→tl
open Go.Region renaming wanted→fj
open Bool renaming eq_false_iff→jI
namespace Go.Proofs.YtlkpfnjdbgeifaaGreat
open Go.Proofs.Tryz
open Go.RowKit
namespace dev
def fsl(b:List eD)(l:List Fd):List Sl:=b.zipIdx.map fun x=>⟨177,25,x.1,(ofL l x.2).length,(fds (ofL l x.2)).flatten⟩
theorem r5(b:List eD)(l:List Fd):(fsl b l).length=b.length:=by simp[fsl]
theorem ee{b:List eD}{l:List Fd}{j:Nat}{v:eD}(h:b[j]? =some v):(fsl b l)[j]? =some ⟨177,25,v,(ofL l j).length,(fds (ofL l j)).flatten⟩:=by
 unfold fsl;simp_all
theorem gT{b:List eD}{l:List Fd}{j:Nat}(h:b[j]? =none):(fsl b l)[j]? =none:=by
 rw[List.getElem?_eq_none_iff]at h⊢;rw[r5];exact h
theorem og(l:List Fd)(f:Fd)(j:Nat):ofL (l++[f]) j=ofL l j++(if f.e.l=(j:Int)then [f]else []):=by
 unfold ofL;grind
theorem CK{c:List eD}{l:List Fd}{f:Fd}(h:∀j:Nat,j<c.length→f.e.l≠(j:Int)):fsl c (l++[f])=fsl c l:=by
 refine lx fun j=> ?_;cases b:c[j]? with
 |none=>rw[gT b,gT b]
 |some v=>rw[ee b,ee b,og,if_neg (h j (iP.1 b).1),jd]
theorem F7{b:List eD}{l:List Fd}{f:Fd}{j:Nat}{v:eD}(h:b[j]? =some v)(k:f.e.l=(j:Int))(c:eD):(fsl b l).set j ⟨177,25,c,(ofL l j).length+1,(fds (ofL l j)).flatten++f.v⟩=fsl (b.set j c) (l++[f]):=by
 have m:=(iP.1 h).1;refine lx fun i=> ?_;by_cases e:j=i
 · subst e
   rw[js (by rw[r5];omega),ee (js m),og,if_pos k];simp[fds]
 · rw[List.getElem?_set_ne e]
   cases g:b[i]? with
   |none=>rw[gT g,gT (by simp_all)]
   |some u=>
    rw[ee g,ee (v:=u) (by simp_all),og,if_neg (by omega),jd]
theorem zB(K:Nat):fsl (ek K (.slice none 0 0)) []=ek K ⟨177,25,.slice none 0 0,0,[]⟩:=by
 refine lx fun i=> ?_;by_cases h:i<K
 · rw[ee (v:=.slice none 0 0) (by simp_all),l5,if_pos h]
   rfl
 · rw[gT (by simp_all),l5,if_neg h]
section
variable {da dv:l4→Bool}{base:Nat}{A B:hG→Prop}{w0 w:hG}{L:List Bk}{S:List Sl}
theorem xW(e:l4)(C:Nat)(b:da e=false):∀(K:Nat),Ms da dv base A B w0 w L S→Ms da dv base A B w0 w L (ek K ⟨e,C,.slice none 0 0,0,[]⟩++S)
 |0,h=>h
 |K+1,h=>by
  rw[kk,List.cons_append];exact(xW e C b K h).empty e C b
theorem Ms.Rq(h:Ms da dv base A B w0 w L S)(b:da 177 =false)(K:Nat):Ms da dv base A B w0 w L (fsl (ek K (.slice none 0 0)) []++S):=by
 rw[zB];exact xW _ _ b K h
end
end dev
theorem ybm{A:Prop}(h:A:=by
 go_wp2_with (refine ma ?_;try (clear hs;intro w hs));go_roundw
 case rel=>exact⟨q+1,_,by omega,by go_num,rfl,by rw[HS.out,show(fds [f]).flatten=f.v by simp[fds]];exact(hs.Pr HFl HSz).less (List.nil_sublist _) (List.Sublist.cons_cons _ (List.nil_sublist _))⟩
 case measure=>first|(simp[intOf];done)|(simp[intOf];omega)):A:=h
theorem ye5{A:Prop}(h:A:=by
 have q:some k=some x.1:=q;exact(List.pairwise_cons.1 h.srt).1 x hx (Option.some.inj q)):A:=h
namespace dev
def zfd:Fd:=⟨⟨0,0,0,an⟩,0,0,0,0,false,false⟩
theorem nh:(jm.info? 177).map (·.zero)=some (some (.agg zfd.v.toArray)):=by kernel_rfl
instance:TI jm 177 true (.agg zfd.v.toArray) 25 80:=⟨by kernel_rfl,by kernel_rfl⟩
theorem mY{l:List Fd}(h:∀x∈l,x.e.ok):∀r∈fds l,r.length=25:=fun r b=>by
 obtain⟨x,c,rfl⟩:=r4.1 b;exact fk (h x c)
theorem CW(l:List Fd)(x:Fd):(fds (l++[x])).flatten=(fds l).flatten++x.v:=by simp[fds]
theorem iS(o f:Fd)(r:List Fd):MI (o::r) f=if behind o f=true then [f]else if behind f o=true then o::r else o::r++[f]:=rfl
theorem _root_.Go.Proofs.YtlkpfnjdbgeifaaGreat.Ms.Pr{da dv:l4→Bool}{base:Nat}{A B:hG→Prop}{f w:hG}{L:List Bk}{S:List Sl}{k C:Nat}{row:List eD}{e:l4}(h:Ms da dv base A B f w ((k,row,e)::L) S)(g:row.length=C)(l:f.heap.size≤k):Ms da dv base A B f w L (⟨e,C,.slice (some ⟨k,0,none⟩) 1 1,1,row⟩::S):=by
 have i:=h.own _ (px ..);have b:=h.tail;refine⟨b.sub,b.own,b.srt,fun s c=> ?_,List.pairwise_cons.2 ⟨fun s c j hj q=> ?_,b.sps⟩,b.fr,b.le,b.sa,b.sb,b.a,b.b⟩
 · rcases List.mem_cons.1 c with rfl|c
   · refine⟨⟨by simp[g],.inr ⟨k,1,row.toArray,rfl,l,i.1,eX _,by unfold sT;omega,by simp[g],by simp[←g]⟩⟩,i.2.2.1,fun x hx q=> ?_⟩
     exact ye5
   · exact b.sls s c
 · have hj:some k=some j:=hj
   cases hj
   exact(h.sls s c).2.2 _ (px ..) q
section
variable {w0:hG}
theorem AL(l:List Fd)(P:∀x∈l,x.e.ok){A:Option xa}{n c:Nat}(E:Rds w0 w0.heap.size A 25 n (fds l))(hn:n≤1000000):pn jm 156 #[.slice A n c] w0 fun e Z=>∃v,e=.returned v∧Mr w0 Z [] [⟨177,25,v,(ON l).length,(fds (ON l)).flatten⟩]:=by
 have Q:l.length=n:=by have:=E.1;rwa [fds,List.length_map]at this
 have H:=qZ Q;have aa:=qZ E;have z:=qZ P;have HA:=qZ (uU l);have hs:=(Mr.start w0).empty 177 25 rfl;clear E P Q;go_enter func156, ntmps156;go_wp2_with fail;go_loopw [3,8] (fun ov I wr=>∃(q:Nat) (o:eD),q≤n∧I=.int .i64 (q:Int)∧o=ov∧Mr w0 wr [] [⟨177,25,o,(LZ l q).length,(fds (LZ l q)).flatten⟩]) (fun _ I _=>n-(intOf I).toNat)
 case atStart=>exact⟨0,_,by omega,rfl,rfl,hs⟩
 case round=>
  clear hs;obtain⟨q,o,hq,rfl,rfl,hs⟩:=hrel;by_cases R:q<n
  · have ad:(q:Int)<(n:Int):=by omega
    obtain⟨f,m⟩:∃f,l[q]? =some f:=⟨_,ed (by rw[H.out];exact R)⟩;have HFl:=qZ (fk (z f (hX m)));have S:=qZ (z f (hX m));have p:=qZ (sG m);have J:=qZ (show(LZ l q).length≤n by rw[←H.out];exact uT l q);have L:=qZ (mY (fun x (M:x∈LZ l q)=>z x (nz M)));obtain⟨bb,oo,rfl,ae,ab⟩:=aH (aa.below hs.out (eX _)) R (r:=f.v) (by rw[fds,jt,m];rfl);have hI:(jm.info? 177).map (·.size)=some f.v.length:=by rw[HFl.out];exact bB
    obtain⟨T,O⟩:∃T,T=LZ l q:=⟨_,rfl⟩;have U:=qZ (show∀x∈T,x.e.ok from fun x M=>z x (nz (by rw[←O];exact M)));rw[←O]at hs p J L;clear m O;go_wp2_with (first|(refine jg rfl 177 (.tmp 10) rfl bb (oo+q*25) rfl f.v _ ab ej rfl hI ?_)|(refine az hs 177 rfl rfl _ zfd.v nh rfl rfl ?_;clear hs;intro w hs)|(refine aJ hs 177 rfl rfl rfl rfl bB HFl rfl (fi _) ?_;clear hs;intro w hs));cases T with
    |nil=>
     have HS:=qZ (show LZ l (q+1)=[f]from p);obtain⟨A',c',i,-,-⟩:=hs.slice 0 rfl;have i:o=.slice A' 0 c':=i;subst i;refine bm 8 (by kernel_rfl) (by kernel_rfl) ?_;intro V g;replace hs:=hs.drew;rw[←g]at hs;clear g;simp only[fo,hZ,gg,jw];repeat (first|(refine wpStill_step (fun K hK=> ?_);go_simp;refine hK _ ?_;clear hK K))
     refine ly ?_;have HSz:=qZ hs.size;exact ybm
    |cons t0 j=>
     have W:=qZ (show(fds (t0::j))[0]? =some t0.v from rfl);obtain⟨gv,cv,i⟩:=hs.form 0 rfl (by show 0<(t0::j).length;simp);have i:o=.slice (some ⟨gv,0,none⟩) (t0::j).length cv:=i;subst i;obtain⟨N,B⟩:∃N,N=(t0::j).length:=⟨_,rfl⟩;have D:=qZ (show 0<N by rw[B];simp);have X:=qZ B;rw[←B]at hs J⊢;have af:=D.out;have ag:(0:Int)<(N:Int):=by have:=D.out;omega
     have ah:((N:Int)==0)=false:=by have:=D.out;simp;omega
     clear B;have ai:¬(N:Int)=0:=by have:=D.out;omega
     refine bm 8 (by kernel_rfl) (by kernel_rfl) ?_;intro V g;replace hs:=hs.drew;rw[←g]at hs;clear g;simp only[fo,hZ,gg,jw];repeat (first|(refine cU 0 hs rfl 177 (by first|rfl|(simp[fj];done)|(go_simp;done)) rfl rfl ej rfl bB HFl ?_)|(refine iF 0 (k:=0) hs rfl L 177 (by first|rfl|(simp[fj];done)|(go_simp;done)) rfl (by show Value.pointer _=_;rfl) ej rfl W bB ?_)|(refine wpStill_step (fun K hK=> ?_);go_simp;refine hK _ ?_;clear hK K))
     refine ly ?_;go_wp2_with fail;refine(pr t0 f (U t0 (by simp)) S _).mono ?_;rintro e w2 ⟨rfl,t⟩;replace hs:=hs.below t;clear t;cases b:behind t0 f with
     |true=>
      have HS:=qZ (show LZ l (q+1)=[f] by rw[p.out,iS,b];rfl);have HSz:=qZ hs.size;clear b;exact ybm
     |false=>
      have Y:=qZ b;clear b;go_upto_region 7 with fail
      refine bm 4 (by kernel_rfl) (by kernel_rfl) ?_;intro V g;replace hs:=hs.drew;rw[←g]at hs;clear g;simp only[fo,hZ,gg,jw];repeat (first|(refine cU 0 hs rfl 177 (by first|rfl|(simp[fj];done)|(go_simp;done)) rfl rfl ej rfl bB HFl ?_)|(refine iF 0 (k:=0) hs rfl L 177 (by first|rfl|(simp[fj];done)|(go_simp;done)) rfl (by show Value.pointer _=_;rfl) ej rfl W bB ?_)|(refine wpStill_step (fun K hK=> ?_);go_simp;refine hK _ ?_;clear hK K))
      refine ly ?_;go_wp2_with fail;refine(pr f t0 S (U t0 (by simp)) _).mono ?_;rintro e w3 ⟨rfl,t⟩;replace hs:=hs.below t;clear t;cases b:behind f t0 with
      |true=>
       have HS:=qZ (show LZ l (q+1)=t0::j by rw[p.out,iS,Y.out,b];rfl);clear b;go_wp2_with fail;go_roundw
       case rel=>exact⟨q+1,_,by omega,by go_num,rfl,by rw[HS.out,←X.out];exact hs.drop 1⟩
       case measure=>first|(simp[intOf];done)|(simp[intOf];omega)
      |false=>
       have HS:=qZ (show LZ l (q+1)=(t0::j)++[f] by rw[p.out,iS,Y.out,b];rfl);clear b;have aj:=J.out;go_wp2_with (first|(refine ma ?_;try (clear hs;intro w hs))|(at_builtin;(refine bT hs 174 rfl rfl hO gA rfl (by decide) HFl rfl rfl (fi _) (by unfold sT;omega) (by omega) ?_;clear hs;intro v w hs)));go_roundw
       case rel=>exact⟨q+1,_,by omega,by go_num,rfl,by rw[HS.out,CW,kr,←X.out];exact hs.drop 1⟩
       case measure=>first|(simp[intOf];done)|(simp[intOf];omega)
  · obtain rfl:q=n:=by omega
    go_wp2_with fail;go_ret;rw[←HA.out,H.out];exact⟨_,rfl,hs⟩
end
end dev
namespace fd
open rw
open dev (fds fk fi)
abbrev _root_.Go.Proofs.YtlkpfnjdbgeifaaGreat.dev.Fd.ok(x:dev.Fd):Prop:=x.e.ok
def RB:List eD:=dev.Fd.v ⟨⟨0,0,0,an⟩,0,0,0,0,false,false⟩
theorem C3:(jm.info? 177).map (fun i=>(i.zero,i.size,i.bytes))=some (some (.agg RB.toArray),25,80):=by rfl
theorem ew(w:hG):(zeroValue 177).run jm w=.ok (.agg RB.toArray) w:=by rfl
theorem Cs{x:dev.Fd}(h:x.ok):x.v.length=25:=fk h
theorem C4{x:dev.Fd}(h:x.ok):(jm.info? 177).map (·.size)=some x.v.length:=by rw[fk h];rfl
theorem one(x:dev.Fd):∀v∈x.v,v.oneCell'=true:=fi x
def zV:List eD:=RB
theorem BO:∀v∈zV.toArray.toList,v.oneCell'=true:=by rw[List.toList_toArray];exact fi ⟨⟨0,0,0,an⟩,0,0,0,0,false,false⟩
theorem nY(l:List dev.Fd):∀r∈fds l,∀u∈r,u.oneCell'=true:=by
 intro r b;obtain⟨x,_,rfl⟩:=r4.1 b;exact one x
theorem pi(b o n c B:Nat)(l:List dev.Fd)(w:hG)(i:Rds w B (some ⟨b,o,none⟩) 25 n (fds l))(j:B≤w.heap.size)(p:n≤1000000):pn jm 161 #[.slice (some ⟨b,o,none⟩) n c] w fun e f=>
 ∃v,e=.returned v∧OwnRows f w.heap.size 177 25 v n (fds l)∧Below w.heap.size w f:=by
 have q:=fun W:hG=>Lib.run_eql_slice_nil (P:= jm) W 174 177 (some ⟨b,o,none⟩) n c 0 0 hO
 have k:OwnRows (w.alloc (.cells #[] 177)) w.heap.size 177 25 (.slice (some ⟨w.heap.size,0,none⟩) 0 0) 0 []:=⟨World.ownsRow_made w #[] 0 (eX _) (by omega) rfl,rfl,by simp⟩;have g:Below w.heap.size w (w.alloc (.cells #[] 177)):=(Below.refl _ _).alloc (eX _) _;have m:Rds (w.alloc (.cells #[] 177)) B (some ⟨b,o,none⟩) 25 n (fds l):=i.below g j;go_enter func161, ntmps161;go_wp2_with (at_builtin;go_must (refine aN rfl (.tmp 5) (.tmp 6) 174 rfl 177 _ 25 80 hO C3 rfl (by decide) k g rfl rfl m (nY _) (by unfold sT;omega) (by omega) (by simp) (eX _) ?_));exact yff
theorem l9(A:Option xa)(n c B:Nat)(l:List dev.Fd)(w:hG)(hr:Rds w B A 25 n (fds l))(hB:B≤w.heap.size)(hn:n≤1000000)(hA:∀a,A=some a→a.spot=none):pn jm 161 #[.slice A n c] w fun e f=>
 ∃v,e=.returned v∧OwnRows f w.heap.size 177 25 v n (fds l)∧Below w.heap.size w f:=by
 cases A with
 |some a=>
  exact yfh
 |none=>
  have g:n=0:=by
   exact yb9
  subst g;have i:fds l=[]:=List.eq_nil_of_length_eq_zero hr.1;rw[i];have j:=fun W:hG=>Lib.run_eql_slice_nil (P:= jm) W 174 177 none 0 c 0 0 hO
  go_enter func161, ntmps161;exact ydm
section
variable {w:hG}{n c:Nat}{l:List dev.Fd}(fid:Nat)(cap:Array eD)(eg:∀args W,(callFunc fid args).run jm W= .ok (.enter fid args) W)(p:dev.Fd→Bool)
include eg in
theorem dB{A:Option xa}{B:Nat}(f:Rds w B A 25 n (fds l))(m:B≤w.heap.size)(o:∀x∈l,x.ok)(O:n≤1000000)(hp:∀x W,x∈l→Below w.heap.size w W→pn jm fid (#[.agg x.v.toArray]++cap) W fun e g=>e=.returned (.bool (p x))∧Below W.heap.size W g):
 pn jm 211 #[.slice A n c,.func (.func fid) #[] cap] w fun e g=>e=.returned (.int .i64 (MU p l))∧Below w.heap.size w g:=by
 have q:l.length=n:=by have:=f.1;simpa[fds]using this
 have G:=qZ f;have HL:=qZ q;have H:=qZ m;have I:=qZ hp;have J:=qZ o;clear f q m hp o;go_enter func211, ntmps211;go_wp2_with fail;go_loopw [8] (fun i wr=>∃k:Nat,k≤n∧i=.int .i64 k∧Below w.heap.size w wr∧∀(j:Nat) (x:dev.Fd),l[j]? =some x→j<k→p x=false) (fun i _=>n-(intOf i).toNat)
 case atStart=>exact⟨0,by omega,rfl,Below.refl _ _,fun _ _ _ h=>by omega⟩
 case round=>
  obtain⟨k,P,rfl,hb,t⟩:=hrel;have HA:=qZ t;clear t;by_cases u:k<n
  · have b:k<l.length:=by rw[HL.out];exact u
    have z:=G.out.below hb H;obtain⟨K,L,rfl,Q,C⟩:=aH z u (r:=l[k].v) (by rw[fds,jt,ed b];rfl);have R:(k:Int)<(n:Int):=by omega
    have HK:=qZ (show l[k]? =some l[k]from ed b);have D:=qZ (I l[k] wr (qa b) hb);have M:=C4 (J l[k] (qa b));clear z;generalize l[k]=x at*;go_wp2_with (first|(refine jg rfl 177 (.tmp 14) rfl K (L+k*25) rfl x.v _ C ej rfl M ?_));refine D.out.mono ?_;rintro e S ⟨rfl,E⟩;have hb3:=hb.trans (E.mono hb.size);clear hb E D C;cases hp:p x with
    |true=>
     have HI:=qZ (show MU p l=(k:Int) by
      unfold MU;obtain⟨N,e⟩:=iP.1 HK;rw[Hi N HA.out (by rw[e];exact hp)])
     exact ybx
    |false=>
     exact ybu
  · exact ya1
include eg in
theorem FI{base:Nat}{v:eD}(h:OwnRows w base 177 25 v l.length (fds l))(q:∀x∈l,x.ok)(L:l.length≤1000000)(hp:∀x W,x∈l→w.grownBy W v.ownBlock→pn jm fid (#[.agg x.v.toArray]++cap) W fun e f=>e=.returned (.bool (p x))∧Below W.heap.size W f):
 pn jm 160 #[v,.func (.func fid) #[] cap] w fun e f=>∃u,e=.returned u∧OwnRows f base 177 25 u (MA p l).length (fds (MA p l))∧u.ownBlock=v.ownBlock∧w.grownBy f v.ownBlock:=by
 have D:∀x W,x∈l→Below w.heap.size w W→pn jm fid (#[.agg x.v.toArray]++cap) W fun e f=>e=.returned (.bool (p x))∧Below W.heap.size W f:=fun x W i hb=>hp x W i (fG hb)
 cases m:l.findIdx? p with
 |none=>
  have HK:=qZ (qp m);have E:MU p l= -1:=by unfold MU;rw[m]
  obtain⟨A,c,rfl,-,-⟩:=h.slice;have C:=dB (c:=c) fid cap eg p h.rds (eX _) q L D;rw[E]at C;have HC:=qZ C;have HO:=qZ h;clear m E C h hp D q;go_enter func160, ntmps160;exact ydq
 |some t=>
  have hD:=Oa.start m;have E:MU p l=(t:Int):=by unfold MU;rw[m]
  have ae:t<l.length:=by have:=hD.le;omega
  obtain⟨g,c,rfl,au,V,af,ah⟩:=aS h.1 (by omega);have C:=dB (c:=c) fid cap eg p h.rds (eX _) q L D;rw[E]at C;have HC:=qZ C;have HO:=qZ h;have HP:=qZ (show∀x W,x∈l→w.grownBy W (some g)→pn jm fid (#[.agg x.v.toArray]++cap) W fun e f=>e=.returned (.bool (p x))∧Below W.heap.size W f from hp);have X:=qZ q;unfold sT at ah;obtain⟨N,M⟩:∃N,l.length=N:=⟨_,rfl⟩;have O:=qZ M;have HD:=qZ hD;have av:=qZ V;rw[M]at HO HC ae af L⊢;clear m E C h hD M V hp D q;go_enter func160, ntmps160;go_wp2_with fail;refine HC.mono ?_;rintro e w1 ⟨rfl,hb⟩;have Pr:=HO.out.below hb;have Y:=fG (b:=some g) hb;have ak:=hb.size;have ht:((t:Int)== -1)=false:=by simp
  clear hb;go_wp2_with fail;go_loopw [5,6,7] (fun al j _ wr=>∃(I J:Nat) (arr:List dev.Fd),al=.int .i64 I∧j=.int .i64 J∧Oa p l arr I J∧OwnRows wr base 177 25 (.slice (some ⟨g,0,none⟩) N c) N (fds arr)∧w.grownBy wr (some g)) (fun _ j _ _=>N-(intOf j).toNat)
  case atStart=>exact⟨t,t+1,l,rfl,by go_num,HD,Pr,Y⟩
  case round=>
   clear Pr Y ak;obtain⟨I,J,arr,rfl,rfl,hD,own,hb⟩:=hrel;have aw:=hD.lt;have an:=hD.le;rw[O.out]at an;have HDI:=qZ hD;by_cases ao:J<N
   · obtain⟨x,i⟩:∃x,l[J]? =some x:=⟨_,ed (by rw[O.out];omega)⟩
     have Z:=hD.at_.trans i;have HX:=qZ i;have G:=hX i;have B:=C4 (X x G);have Q:=qZ (Cs (X x G));obtain⟨bb,oo,eA,ax,R⟩:=aH own.rds ao (r:=x.v) (by rw[fds,jt,Z];rfl);cases eA
     rw[tl]at R;have ay:(J:Int)<(N:Int):=by omega
     have az:(I:Int)<(N:Int):=by omega
     have HM:=qZ G;clear hD i Z G;go_wp2_with (first|(refine jg rfl 177 (.tmp 24) rfl g (J*25) rfl x.v _ R ej rfl B ?_)|(refine ag rfl 177 (.tmp 7) (.tmp 25) rfl wr.heap.size x.v rfl rfl 177 _ (aj wr _ _ rfl) B (by rw[Q.out];rfl) (one _) ?_;intro w5 H;have S:=H.at_;have ab:=(own.alloc (.cells zV.toArray 177)).upd H (eC own);have T:=eW hb (H.below ((Below.refl _ _).alloc (eX _) _) (eX _));clear H R hb own)|(refine jg rfl 177 (.tmp 7) rfl wr.heap.size 0 rfl x.v _ (ai S) ej rfl B ?_));refine(HP x w5 HM T).mono ?_;rintro e w6 ⟨rfl,K⟩;have own6:=ab.below K;have aq:=aa S K;have hb6:=eW T K;clear K ab S T;cases hp:p x with
     |true=>
      exact yct
     |false=>
      have HI:=qZ (HDI.on HX hp);obtain⟨ad,hg6,-,-,-,hcl,hct⟩:=aT own6;have aA:0+I*25=I*25:=tl _;clear hp;go_wp2_with (first|(refine jg rfl 177 (.tmp 7) rfl wr.heap.size 0 rfl x.v _ (ai aq) ej rfl B ?_)|(refine bI rfl 177 (.tmp 33) (.tmp 32) rfl g (I*25) x.v rfl rfl 177 ad hg6 B (by rw[Q.out,hcl];omega) (one _) ?_;intro w7 U;have ar:=tq own6 hct hcl (show I<N by omega) Q.out U;have hb7:=et hb6 U;clear U));go_roundw
      case rel=>exact⟨I+1,J+1,arr.set I x,by go_num,by go_num,HI,by rw[fds,List.map_set];exact ar,hb7⟩
      case measure=>simp[intOf];omega
   · obtain rfl:J=N:=by omega
     have hDn:Oa p l arr I l.length:=by rw[O.out];exact hD
     obtain⟨f1,f2⟩:=hDn.done;obtain⟨ad,hg6,-,-,-,hcl,hct⟩:=aT own;obtain⟨w7,aB,zs,hzl,hU⟩:=pj (P:= jm) (n:=J-I) (c:=c-I) (o:=I*25) (z:=zV.toArray) (C:=25) hO ew BO rfl hg6 (by omega) (by omega);have hof:=qd (k:=I) own hct hcl (by omega) hzl hU;have hrd:=qZ (show OwnRows w7 base 177 25 (.slice (some ⟨g,0,none⟩) I c) I (fds (MA p l)) by rw[←f1,fds,List.map_take];exact hof);exact ybi
end
end fd
namespace dev
open JT (Nd JS)
open rw
theorem Bp{w:hG}{C c k n:Nat}{A:Option xa}{f:List (List eD)}(h:Rds w C A k n f)(j:C≤c):Rds w c A k n f:=⟨h.1,h.2.1,fun g=>by
 obtain⟨b,o,e,l,i⟩:=h.2.2 g;exact⟨b,o,e,by omega,i⟩⟩
theorem At: jm.built 177 []=some zfd.v.toArray:=by kernel_rfl
section
variable {w0:hG}{sg g gf K j n c:Nat}{vs:List eD}{l:List Fd}{A:Option xa}
theorem uX(D:w0.heap[sg]? =some (.cells #[.pointer (some ⟨g,0,none⟩),.slice (some ⟨gf,0,none⟩) K K] 173 (0,0)))(E:w0.heap[gf]? =some (.cells vs.toArray 174 (0,0)))(hj:j<K)(b:vs[j]? =some (.slice A n c))(m:∀x∈l,x.e.ok)(H:Rds w0 w0.heap.size A 25 n (fds (ofL l j)))(L:n≤1000000):pn jm 97 #[.pointer (some ⟨sg,0,none⟩),.int .i64 (j:Int)] w0 fun e M=>e=.returned (.tuple #[.agg ((K4 l j).getD zfd).v.toArray,.bool (K4 l j).isSome])∧Below w0.heap.size w0 M:=by
 have O:=qZ D;have P:=qZ E;have Q:=qZ b;have R:=qZ H;have S:=qZ (show∀x∈ofL l j,x.e.ok from fun x o=>m x (l8.1 o).1);have p:=qZ (show∀x∈ON (ofL l j),x.e.ok from fun x o=>m x (l8.1 (sF o)).1);have q:=qZ (show K4 l j=(ON (ofL l j)).head? from rfl);have Z:(j:Int)<(K:Int):=by omega
 have hs:=Mr.start w0;clear D E b H m;go_enter func97, ntmps97;go_upto_region 1 with(refine ma ?_;try (clear hs;intro w hs))
 have c1:w.cell? ⟨sg,1,none⟩=some (.slice (some ⟨gf,0,none⟩) K K):=by rw[ae (aa O.out hs.out)];rfl
 have c2:w.cell? ⟨gf,j,none⟩=some (.slice A n c):=by rw[ae (aa P.out hs.out),List.getElem?_toArray];exact Q
 have I:=qZ (AL (c:=c) (ofL l j) S (Bp (R.below hs.out (eX _)) hs.size) L);go_wp2_with fail;refine I.mono ?_;rintro e w2 ⟨u,rfl,r⟩;replace hs:=hs.join r r.out (fun _ _=>rfl);clear r I c1 c2;obtain⟨T,J⟩:∃T,T=ON (ofL l j):=⟨_,rfl⟩;rw[←J]at hs p q;clear J;have U:=qZ (mY p);cases T with
 |nil=>
  have t:=qZ (show K4 l j=none from q);have z:=qZ (show zfd.v.length=25 from rfl);obtain⟨V,W,b,-,-⟩:=hs.slice 0 rfl;have b:u=.slice V 0 W:=b;subst b;go_wp2_with (first|(refine ac rfl 177 _ rfl _ rfl _ At ?_)|(refine ma ?_;try (clear hs;intro w hs)));change bodyPost _ _ _ _ _ _;exact py (hs.Nn 0 rfl rfl _ rfl ej rfl bB rfl) rfl ⟨by rw[t.out];rfl,hs.out⟩
 |cons f i=>
  have t:=qZ (show K4 l j=some f from q);have z:=qZ (fk (p f (by simp)));have X:=qZ (show(fds (f::i))[0]? =some f.v from rfl);obtain⟨Y,cv,b⟩:=hs.form 0 rfl (by show 0<(f::i).length;simp);have b:u=.slice (some ⟨Y,0,none⟩) (f::i).length cv:=b;subst b;obtain⟨N,B⟩:∃N,N=(f::i).length:=⟨_,rfl⟩;have ab:0<N:=by rw[B];simp
  rw[←B]at hs⊢;clear B;have ad:(0:Int)<(N:Int):=by omega
  have af:¬(N:Int)=0:=by omega
  have ag:((N:Int)==0)=false:=by simp;omega
  go_wp2_with (first|(refine dO 0 (k:=0) hs rfl U 177 rfl rfl (by show Value.pointer _=_;rfl) ej rfl X bB ?_)|(refine aJ hs 177 rfl rfl rfl rfl bB z rfl (fi _) ?_;clear hs;intro w hs));change bodyPost _ _ _ _ _ _;exact py (hs.Nn 0 rfl rfl _ rfl ej rfl bB z) rfl ⟨by rw[t.out];rfl,hs.out⟩
end
open JT (Nd Blk)
open tal (Ty Sb)
open tab (Tb At6)
theorem tA(l:List Fd)(f:Fd)(x:Int):Lc (l++[f]) x=max (Lc l x) (f.e.s+1):=by
 unfold Lc;simp
end dev
section
section
variable {P:Program}{ops:Array y0}{Q:Exit→Act→hG→Prop}{rest:List y0}{o:y0}{a:Act}{da dv:l4→Bool}{base:Nat}{A B:hG→Prop}{w0 w:hG}{L:List Bk}{S:List Sl}
theorem lK(c:Ms da dv base A B w0 w L S)(t:l4){x:Operand}(f:o.guard=none)(g:o.op=.makeSlice t x x){n C bytes:Nat}{e:l4}{z:eD}{zc:List eD}(j:a.eval x=.int .i64 (n:Int))(k:P.underlying t=some (.slice e))(l:(P.info? e).map (fun i=>(i.zero,i.size,i.bytes))=some (some z,C,bytes))(m:z.cells=zc.toArray)(p:zc.length=C)(q:0<C)(r:bytes*n≤281474976710656)(u:n≤9223372036854775807)(D:da e=false)(h:∀b,Ms da dv base A B w0 b ((w.heap.size,(ek n zc).flatten,e)::L) S→tr P ops Q rest (a.put o.dst (.slice (some ⟨w.heap.size,0,none⟩) n n)) b):tr P ops Q (o::rest) a w:=by
 refine tm f fun K E=> ?_;unfold Oper.wp execOp;have G:=E _ _ (h _ (c.alloc (ek n zc).flatten e D));have H:=fe (P:=P) t e z zc C bytes k l m p q n r u w;simp only[g,j,Sem.run_bind,H,Result.andThen_ok,Sem.run_pure];exact G
end
end
namespace dev
open JT (Nd JS Ko)
open tab (Tb JZ LS)
def scT(t:l4):Bool:=Ko t ||t== 154
theorem ki{t:l4}(h:Ko t=true):scT t=true:=by unfold scT;grind
abbrev ScA(nb g m:Nat)(N:Nd)(b c e n:Nat)(T:Tb)(w:hG):Prop:=JS w nb g m N∧JZ w b c e n T
theorem qS{nb g m b c e n:Nat}{N:Nd}{T:Tb}:∀f h,Chg scT f h→ScA nb g m N b c e n T f→ScA nb g m N b c e n T h:=fun _ _ i a=>⟨JS.chg (fun _=>ki) a.1 i,JZ.chg rfl a.2 i⟩
abbrev Mc(nb g m:Nat)(N:Nd)(c e f n:Nat)(T:Tb)(b w:hG)(L:List Bk)(S:List Sl):Prop:=Ms scT scT b.heap.size (ScA nb g m N c e f n T) (fun _=>True) b w L S
section
variable {w w' w0:hG}{nb g m lg mb cb n n':Nat}{N:Nd}{T T':Tb}{L:List Bk}{S:List Sl}
theorem Mc.tab(c:Mc nb g m N lg mb cb n T w0 w L S)(e:w0.heap.size≤lg∧w0.heap.size≤mb∧w0.heap.size≤cb)(o:nb≤g∧g<mb∧g<cb)(h:JZ w' lg mb cb n' T')(b:Kj (LS lg mb cb) w w')(f:JS w' nb g m N):Mc nb g m N lg mb cb n' T' w0 w' L S:=by
 obtain⟨⟨p,m1,m2⟩,r,m3,m4⟩:=dE c.a.2;refine c.dev (A':=ScA nb g m N lg mb cb n' T') ⟨b.os,b.tape,b.output,b.size,fun k i f=>b.block k i fun j=>f ?_⟩ ⟨f,h⟩ qS;rcases j with rfl|rfl|rfl
 · exact⟨e.1,eS c.a.2.head rfl⟩
 · exact⟨e.2.1,fun⟨l,t,fr,q,_⟩=>by rw[m1]at q;cases q;cases m2⟩
 · exact⟨e.2.2,fun⟨l,t,fr,q,_⟩=>by rw[m3]at q;cases q;cases m4⟩
end
structure FpJ (M:hG→List Bk→List Sl→Prop) (x0 x1:Bk) (G0:List Bk) (G3:eD→List Bk) (S0:List Sl) (S2:eD→List Sl) (row:List eD) (ia ib ic il:Nat) (x:Nat×eD) (L:Nat→Bool) (w:hG):Prop where
 a:L ia=false→M w (x0::x1::G0) S0
 b:L ia=true→L ib=false→M w ((x.1,row, 177)::x0::x1::G0) S0
 c:L ib=true→L ic=false→M w ((x.1,row, 177)::x0::x1::G0) (S2 x.2)
 d:L ic=true→M w ((x.1,row, 177)::x0::x1::G3 x.2) (S2 x.2)
 e:L ib=true→L ia=true∧L il=true
 f:L ic=true→L ib=true
section
variable {M:hG→List Bk→List Sl→Prop}{x0 x1:Bk}{G0:List Bk}{G3:eD→List Bk}{S0:List Sl}{S2:eD→List Sl}{row:List eD}{ia ib ic il i:Nat}{x:Nat×eD}{L:Nat→Bool}{w:hG}
theorem FpJ.JW(h:FpJ M x0 x1 G0 G3 S0 S2 row ia ib ic il x L w)(e:JW L i ia=L ia)(f:JW L i ib=L ib)(g:JW L i ic=L ic):FpJ M x0 x1 G0 G3 S0 S2 row ia ib ic il x (JW L i) w:=
 ⟨fun q=>h.a (by simp_all),fun b c=>h.b (by simp_all) (by simp_all),fun b c=>h.c (by simp_all) (by simp_all),fun q=>h.d (by simp_all),fun q=>⟨bz (h.e (by simp_all)).1,bz (h.e (by simp_all)).2⟩,fun q=>bz (h.f (by simp_all))⟩
theorem FpJ.any(h:FpJ M x0 x1 G0 G3 S0 S2 row ia ib ic il x L w):∃f g j,M w (f++x0::x1::g) j:=by
 cases b:L ic with
 |true=>exact⟨[_],_,_,h.d b⟩
 |false=>
  cases c:L ib with
  |true=>exact⟨[_],_,_,h.c c b⟩
  |false=>
   cases e:L ia with
   |true=>exact⟨[_],_,_,h.b e c⟩
   |false=>exact⟨[],_,_,h.a e⟩
theorem FpJ.low(h:FpJ M x0 x1 G0 G3 S0 S2 row ia ib ic il x L w)(c:L il=false):∃e f,M w (e++x0::x1::G0) f:=by
 have g:L ib=false:=jI.2 fun q=>absurd (h.e q).2 (by simp[c])
 cases b:L ia with
 |true=>exact⟨[_],_,h.b b g⟩
 |false=>exact⟨[],_,h.a b⟩
end
end dev
theorem yc9{A:Prop}(h:A:=by
 obtain⟨L',R',S',hm⟩:=hJ.out.any;have q0:=hm.LM (k:=sb) (j:=1) (Cd _ _ _ _) (v:=.slice (some ⟨gf,0,none⟩) K K) rfl;exact cH):A:=h
theorem ydk{A:Prop}(h:A:=by
 obtain⟨L',R',S',hm⟩:=hJ.out.any;have q0:=hm.LM (k:=fb) (j:=0) (vE _ _ _) (v:=.int .i64 (j:Int)) HF0.out;exact cH):A:=h
namespace dev
open JT (Nd JS Ko)
open tab (Tb JZ LS)
open pick (i8)
def svV(t:Option xa)(b pg:Int):List eD:=[.pointer t,.slice none 0 0,.int .i64 0,.slice none 0 0,.int .i64 b,.int .i64 pg]
theorem kJ:(jm.info? 118).map (·.zero)=some (some (.agg (svV none 0 0).toArray)):=by kernel_rfl
instance:TI jm 118 true (.agg (svV none 0 0).toArray) 6 80:=⟨by kernel_rfl,by kernel_rfl⟩
theorem G4(b:Nat): jm.built 118 [(0,.pointer (some ⟨b,0,none⟩)),(4,.int .i64 1)]=some (svV (some ⟨b,0,none⟩) 1 0).toArray:=by kernel_rfl
theorem GA(g b K:Nat): jm.built 173 [(0,.pointer (some ⟨g,0,none⟩)),(1,.slice (some ⟨b,0,none⟩) K K)]=some ([.pointer (some ⟨g,0,none⟩),.slice (some ⟨b,0,none⟩) K K]:List eD).toArray:=by kernel_rfl
theorem G7:(jm.info? 174).map (fun i=>(i.zero,i.size,i.bytes))=some (some (.slice none 0 0),1,24):=by kernel_rfl
theorem G8:(jm.info? 174).map (·.size)=some 1:=by kernel_rfl
theorem lD(L:Nat→Bool)(i:Nat):Go.Proofs.YtlkpfnjdbgeifaaGreat.JW L i i=true:=by unfold Go.Proofs.YtlkpfnjdbgeifaaGreat.JW;simp
theorem CV(a b c:Int)(W:hG):(Instr.field 23 (.agg #[.int .i64 a,.int .i64 b,.int .i64 c]) 2).run jm W=.ok (.int .i64 c) W:=by kernel_rfl
theorem sR(v:eD):∀K:Nat,(ek K [v]).flatten=ek K v
 |0=>rfl
 |K+1=>by rw[kk,List.flatten_cons,sR v K,kk];rfl
theorem yy{b:Type}{l:List b}{i:Nat}{x:b}(h:l[i]? =some x):l.take (i+1)=l.take i++[x]:=by
 rw[List.take_add_one,h];rfl
theorem y9:(jm.info? 90).map (fun i=>(i.zero.isSome,i.size,i.bytes))=some (true,19,40):=by kernel_rfl
theorem E4:(jm.info? 43).map (·.size)=some 1:=by kernel_rfl
theorem yA{w e:hG}{nb g m f b c n:Nat}{N:Nd}{T:Tb}(h:ScA nb g m N f b c n T w)(i:g<b∧g<c)(j:Kj (LS f b c) w e):JS e nb g m N:=by
 obtain⟨⟨l,m1,m2⟩,o,m3,m4⟩:=dE h.2;refine h.1.keep j fun k q=> ?_;rcases q with rfl|rfl|rfl
 · exact .inl ⟨_,_,_,h.2.head,rfl⟩
 · exact .inr ⟨i.1,l,m1,m2⟩
 · exact .inr ⟨i.2,o,m3,m4⟩
theorem _root_.Go.Proofs.YtlkpfnjdbgeifaaGreat.PT{P:Program}{b:Array y0}{Q:Exit→Act→hG→Prop}{rest:List y0}{o:y0}{a:Act}{w:hG}(t:l4){s x:Operand}(g:o.guard=none)(j:o.op=.call {callee:=.builtin .append,args:= #[s,x],argTypes:= #[t,t]}){e:l4}{C bytes:Nat}(k:P.underlying t=some (.slice e))(c:(P.info? e).map (fun i=>(i.zero.isSome,i.size,i.bytes))=some (true,C,bytes))(l:a.eval s=.slice none 0 0)(m:a.eval x=.slice none 0 0)(h:tr P b Q rest (a.put o.dst (.slice none 0 0)) w):tr P b Q (o::rest) a w:=by
 refine tm g fun K n=> ?_;have p:=n _ _ h;cases f:P.info? e with
 |none=>rw[f]at c;cases c
 |some i=>
  have q:(Builtin.append_ #[t,t] o.type #[.slice none 0 0,.slice none 0 0]).run P w=.ok (.slice none 0 0) w:=by
   simp[Builtin.append_,run_underlying k,sizeOf,typeInfo,f,Builtin.lenOf,Builtin.firstCells,loadCells,loadCellsFrom]
  unfold Oper.wp execOp;simp only[j,resolve,invoke,builtin,Sem.run_bind,Sem.run_pure,Result.andThen_ok,List.map_toArray,List.map_cons,List.map_nil,l,m,q];exact p
section
variable {w0:hG}{nb g m:Nat}{N:Nd}
theorem sP(h:JS w0 nb g m N)(aw:N.off=false)(aT:nb≤g∧g<w0.heap.size)(K:Nat)(hK:K≤200)(aU:∀f∈Kc N,f.whole=true):pn jm 63 #[.pointer (some ⟨g,0,none⟩),.int .i64 (K:Int)] w0 fun e w'=>∃z E H nt,e=.returned (.tuple #[.agg (svV (some ⟨z,0,none⟩) (Lc (Kc N) 1) ((Kc N).length:Int)).toArray,.int .i64 0])∧nt≤600∧JZ w' z E H nt (Lm (Kc N) K K)∧w0.heap.size≤z∧w0.heap.size≤E∧w0.heap.size≤H∧Below w0.heap.size w0 w':=by
 have HN:=qZ h;have bD:=qZ aw;have HG:=qZ h.ok.geo;have bE:=qZ aT;have ay:=qZ (i6 h.ok);have ae:=qZ (fun(b r:Nat) (S:b<N.B) (Y:r<N.P)=>fun f hf=>vh (f:=f) h.ok S Y hf);have aA:=qZ (fun(b:Nat) (S:b≤N.B)=>q9 h.ok b S);have aB:=qZ (fun(b r:Nat) (S:b<N.B) (Y:r≤N.P)=>xn h.ok S r Y);have aW:=qZ aU
 have aX:=qZ (show∀b r i:Nat,b<N.B→r<N.P→(KA N b++Lk N b r++(KK N (b:Int) (r:Int)).take i).length≤6000 from fun b r i S Y=>by
  have q1:=ig N b;have q2:=kQ N b r;have q3:=kR N (b:Int) (r:Int);have q4:((KK N (b:Int) (r:Int)).take i).length≤(KK N (b:Int) (r:Int)).length:=List.length_take_le' _ _;obtain⟨g1,g2,g3,g4,g5,g6⟩:=HG.out;have m1:=kb (kb (kn 7 g2) g6) (show b≤16 by omega);have m2:=kb (kn 7 g2) (show r≤8 by omega);rw[kr,kr];omega)
 have aY:=qZ (JT.Ja h);have cd:=i8;have cf:=CV;have hs:Ms scT scT w0.heap.size (fun w=>JS w nb g m N) (fun _=>True) w0 w0 [] []:=Ms.start (fun _ h=>h) (eX _) (fun _ _ hk a=>JS.chg (fun _=>ki) a hk) (fun _ _ _ _=>trivial) h trivial;rw[aw]at aY;clear h aw aU aT;go_enter func63, ntmps63;go_upto_region 1 with(refine ma ?_;try (clear hs;intro w hs))
 have aC:=qZ (JT.Ja hs.a);rw[bD.out]at aC;go_wp2_with fail;refine aC.out.mono ?_;rintro e w1 ⟨rfl,rfl⟩;clear aY aC;go_wp2_with fail;have bF:=hs.size;have cg:(0:Int)≤(K:Int):=by omega
 refine(tab.mR _ K (by omega)).mono ?_;rintro e w2 ⟨z,E,H,rfl,a1,bG,bH,bI,aD⟩;have af:=qZ (show w0.heap.size≤z∧w0.heap.size≤E∧w0.heap.size≤H by omega);replace hs:Mc nb g m N z E H 0 ⟨K,[],1⟩ w0 w2 [(w0.heap.size,svV none 0 0, 118)] []:=(hs.below aD).dev (A':=ScA nb g m N z E H 0 ⟨K,[],1⟩) (Kj.refl _ _) ⟨(hs.below aD).a,a1⟩ qS;clear a1 bG bH bI aD bF;obtain⟨V,a2⟩:∃V,V=w2.heap.size:=⟨_,rfl⟩;go_upto_region 6 with(first|(refine ac rfl 118 _ rfl _ rfl _ (G4 z) ?_)|(refine az hs 118 rfl rfl _ (svV none 0 0) kJ rfl rfl ?_;clear hs;intro w hs)|(refine aJ hs 118 rfl rfl rfl rfl ei rfl rfl (by intro u hu;simp[svV]at hu;rcases hu with rfl|rfl|rfl|rfl|rfl|rfl<;>rfl) ?_;clear hs;intro w hs))
 simp only[←a2]at hs⊢;clear a2;have a3:min (K:Int) 65536=(K:Int):=by omega
 go_upto_region 7 with(first|(obtain⟨gf,a4⟩:∃gf,gf=w.heap.size:=⟨_,rfl⟩;refine lK hs 171 rfl rfl (n:=K) (by first|rfl|(show Value.int .i64 (min (K:Int) 65536)=Value.int .i64 (K:Int);rw[a3])) ps G7 rfl rfl (by decide) (by omega) (by omega) rfl ?_;clear hs;intro w hs;simp only[←a4]at hs⊢;clear a4)|(refine ac rfl 173 _ rfl _ rfl _ (GA g _ K) ?_)|(obtain⟨sb,a5⟩:∃sb,sb=w.heap.size:=⟨_,rfl⟩;refine aG hs 173 rfl rfl _ _ rfl rfl rfl ?_;clear hs;intro w hs;simp only[←a5]at hs⊢;clear a5))
 clear a3;rw[show(ek K [Value.slice none 0 0]).flatten=ek K (.slice none 0 0)from sR _ _]at hs;replace hs:=Ms.Rq hs rfl K;obtain⟨ao,aF⟩:∃ao,ao=ek K (Value.slice none 0 0):=⟨_,rfl⟩;have a6:=qZ (show ao.length=K by rw[aF];simp);rw[←aF,jd]at hs;clear aF;go_wp2_with fail;refine(eI hs.a.1).mono ?_;rintro e w3 ⟨rfl,a7⟩;replace hs:=hs.below a7;clear a7;go_wp2_with fail;go_loopw [38] (fun bv wr=>∃(b:Nat) (vs:List eD),b≤N.B∧bv=.int .i64 (b:Int)∧vs.length=K∧Mc nb g m N z E H 0 ⟨K,[],1⟩ w0 wr [(sb,[.pointer (some ⟨g,0,none⟩),.slice (some ⟨gf,0,none⟩) K K], 173),(gf,vs, 174),(V,svV (some ⟨z,0,none⟩) (Lc (KA N b) 1) ((KA N b).length:Int), 118),(w0.heap.size,svV none 0 0, 118)] (fsl vs (KA N b))) (fun bv _=>N.B-(intOf bv).toNat)
 case atStart=>exact⟨0,ao,by omega,rfl,a6.out,hs⟩
 case round=>
  clear hs a6;obtain⟨b,vs,S,rfl,I,hs⟩:=hrel;have ch:=HG.out;by_cases Z:b<N.B
  · have cj:(b:Int)<(N.B:Int):=by omega
    have a8:=qZ I;clear I;go_wp2_with fail;refine(eI hs.a.1).mono ?_;rintro e w4 ⟨rfl,a9⟩;replace hs:=hs.below a9;clear a9;go_wp2_with fail;go_loopw [44] (fun rv wr=>∃(r:Nat) (vs:List eD),r≤N.P∧rv=.int .i64 (r:Int)∧vs.length=K∧Mc nb g m N z E H 0 ⟨K,[],1⟩ w0 wr [(sb,[.pointer (some ⟨g,0,none⟩),.slice (some ⟨gf,0,none⟩) K K], 173),(gf,vs, 174),(V,svV (some ⟨z,0,none⟩) (Lc (KA N b++Lk N b r) 1) ((KA N b++Lk N b r).length:Int), 118),(w0.heap.size,svV none 0 0, 118)] (fsl vs (KA N b++Lk N b r))) (fun rv _=>N.P-(intOf rv).toNat)
    case atStart=>exact⟨0,vs,by omega,rfl,a8.out,by rw[show Lk N b 0=[]from rfl,jd];exact hs⟩
    case round=>
     clear hs a8 vs;obtain⟨r,vs,Y,rfl,I,hs⟩:=hrel;by_cases ag:r<N.P
     · have ck:(r:Int)<(N.P:Int):=by omega
       have ba:=qZ I;have bb:=qZ (nI hs.a.1 (b:Int) (r:Int) (bw (by omega) (by omega)) (bw (by omega) (by omega)));clear I;go_wp2_with fail;refine bb.out.mono ?_;rintro e w5 ⟨u,rfl,hm⟩;replace hs:=hs.join hm hm.out (fun s bc=>by simp at bc;subst bc;rfl);clear hm bb;obtain⟨Ar,cr,hu,-,-⟩:=hs.slice 0 rfl;have hu:u=.slice Ar (KK N (b:Int) (r:Int)).length cr:=hu;subst hu;obtain⟨D,aH⟩:∃D,D=(KK N (b:Int) (r:Int)).length:=⟨_,rfl⟩;have bd:=qZ aH;rw[←aH]at hs⊢;have cl:D≤42:=by have:=kR N (b:Int) (r:Int);omega
       clear aH;go_wp2_with fail;go_loopw [52] (fun iv wr=>∃(i:Nat) (vs:List eD),i≤D∧iv=.int .i64 (i:Int)∧vs.length=K∧Mc nb g m N z E H 0 ⟨K,[],1⟩ w0 wr [(sb,[.pointer (some ⟨g,0,none⟩),.slice (some ⟨gf,0,none⟩) K K], 173),(gf,vs, 174),(V,svV (some ⟨z,0,none⟩) (Lc (KA N b++Lk N b r++(KK N (b:Int) (r:Int)).take i) 1) ((KA N b++Lk N b r++(KK N (b:Int) (r:Int)).take i).length:Int), 118),(w0.heap.size,svV none 0 0, 118)] (⟨177,25,.slice Ar D cr,D,(fds (KK N (b:Int) (r:Int))).flatten⟩::fsl vs (KA N b++Lk N b r++(KK N (b:Int) (r:Int)).take i))) (fun iv _=>D-(intOf iv).toNat)
       case atStart=>exact⟨0,vs,by omega,rfl,ba.out,by rw[hZ,jd];exact hs⟩
       case round=>
        clear hs ba vs;obtain⟨i,vs,hi,rfl,I,hs⟩:=hrel;by_cases bJ:i<D
        · have cm:(i:Int)<(D:Int):=by omega
          obtain⟨f,hf⟩:∃f,(KK N (b:Int) (r:Int))[i]? =some f:=⟨_,ed (by rw[←bd.out];exact bJ)⟩;have M:=ae.out b r Z ag f (hX hf);have T:=qZ M;have ad:=qZ (fk M.e);have HC:=qZ (mY (fun x n=>(ae.out b r Z ag x n).e));have bK:=qZ (show(fds (KK N (b:Int) (r:Int)))[i]? =some f.v by rw[fds,jt,hf];rfl);have bL:=qZ (yy hf);have bf:=aX.out b r i Z ag
          have ah:=ix (N:=N) (KA N b++Lk N b r++(KK N (b:Int) (r:Int)).take i) 1 (fun x n=>by
           rcases kd.1 n with n|n
           · rcases kd.1 n with n|n
             · exact aA.out b S x n
             · exact aB.out b r Z Y x n
           · exact ae.out b r Z ag x (o4 n)) (by decide) (by decide)
          have ar:=qZ (show∀x∈KA N b++Lk N b r++(KK N (b:Int) (r:Int)).take i,x.e.ok from fun x n=>by
           rcases kd.1 n with n|n
           · rcases kd.1 n with n|n
             · exact(aA.out b S x n).e
             · exact(aB.out b r Z Y x n).e
           · exact(ae.out b r Z ag x (o4 n)).e)
          obtain⟨l,O⟩:∃l,l=KA N b++Lk N b r++(KK N (b:Int) (r:Int)).take i:=⟨_,rfl⟩;rw[←O]at hs bf ah ar;have bN:=qZ O;have cn:=M.s0;have cp:=M.s1;have cq:=qZ ah;have bO:=ah.1;have bP:=ah.2;have W:=qZ I;have HF0:=qZ (show f.v[0]? =some (.int .i64 f.e.l)from rfl);have ct:=qZ (show f.v[1]? =some (.int .i64 f.e.s)from rfl);obtain⟨gr,cu,bQ⟩:=hs.form 0 rfl (by show 0<D;omega);have bR:Ar=some ⟨gr,0,none⟩:=by injection bQ
          subst bR;clear hf M O I ah;go_upto_region 16 with(first|(refine dO 0 (k:=i) hs rfl HC.out 177 rfl rfl rfl ej rfl bK.out bB ?_)|(obtain⟨fb,bg⟩:∃fb,fb=wr.heap.size:=⟨_,rfl⟩;refine az hs 177 rfl rfl _ zfd.v nh rfl rfl ?_;clear hs;intro w hs;simp only[←bg]at hs⊢;clear bg)|(refine aJ hs 177 rfl rfl rfl rfl bB ad.out rfl (fi _) ?_;clear hs;intro w hs))
          obtain⟨U,aa⟩:∃U,U=Lc l 1:=⟨_,rfl⟩;rw[←aa]at hs bO bP;have aI:=qZ aa;clear aa;go_upto_region 18 with(refine ma ?_;try (clear hs;intro w hs))
          have bh:=qZ (show KA N b++Lk N b r++(KK N (b:Int) (r:Int)).take (i+1)=l++[f] by rw[bL.out,←pz,bN.out]);have bj:=qZ (show Lc (l++[f]) 1=max U (f.e.s+1) by rw[tA,aI.out]);have bk:=qZ (show(((l++[f]).length:Nat):Int)=(l.length:Int)+1 by simp);by_cases bl:f.e.l<(K:Int)
          · obtain⟨j,hj⟩:∃j:Nat,f.e.l=(j:Int):=⟨f.e.l.toNat,(Int.toNat_of_nonneg T.out.l0).symm⟩
            have bn:j<K:=by omega
            have cw:(j:Int)<(K:Int):=by omega
            obtain⟨v,hv⟩:∃v,vs[j]? =some v:=⟨_,ed (by rw[W.out];exact bn)⟩;have HV:=qZ hv;have bo:=qZ bn;have bT:=qZ hj;rw[hj]at HF0;have bp:=qZ (show(ofL l j).length≤6000 from Nat.le_trans (nr _ _) bf);clear hv hj bl;refine bm 8 (by kernel_rfl) (by kernel_rfl) ?_;intro wd aj;replace hs:=hs.drew;rw[←aj]at hs;clear aj;simp only[fo,hZ,gg,jw];repeat (first|(refine aq 0 hs rfl 3 (by first|rfl|(simp[fj];done)|(go_simp;done)) rfl rfl qc rfl HF0.out ?_)|(refine aq 1 hs rfl 171 (by first|rfl|(simp[fj];done)|(go_simp;done)) rfl rfl ps rfl rfl ?_)|(refine wpStill_step (fun K hK=> ?_);go_simp;refine hK _ ?_;clear hK K))
            refine ly ?_;go_upto_region 19 with fail
            refine dz (X:=Nat×eD) (fun ux=> [(some 77,.pointer (some ⟨sb,0,none⟩)),(some 78,.pointer (some ⟨sb,0,none⟩)),(some 79,.pointer (some ⟨sb,1,none⟩)),(some 80,.slice (some ⟨gf,0,none⟩) K K),(some 81,.pointer (some ⟨fb,0,none⟩)),(some 82,.pointer (some ⟨fb,0,none⟩)),(some 83,.int .i64 (j:Int)),(some 84,.pointer (some ⟨sb,0,none⟩)),(some 85,.pointer (some ⟨sb,0,none⟩)),(some 86,.pointer (some ⟨sb,1,none⟩)),(some 87,.slice (some ⟨gf,0,none⟩) K K),(some 88,.pointer (some ⟨fb,0,none⟩)),(some 89,.pointer (some ⟨fb,0,none⟩)),(some 90,.int .i64 (j:Int)),(some 91,.pointer (some ⟨gf,j,none⟩)),(some 92,v),(some 93,.agg f.v.toArray),(some 94,.slice (some ⟨ux.1,0,none⟩) 1 1),(some 95,ux.2),(some 96,.pointer (some ⟨gf,j,none⟩)),(none,undef)])
             (fun ux L w'=>FpJ (fun w L bU=>Mc nb g m N z E H 0 ⟨K,[],1⟩ w0 w L bU) (fb,f.v, 177) (sb,[.pointer (some ⟨g,0,none⟩),.slice (some ⟨gf,0,none⟩) K K], 173) [(gf,vs, 174),(V,svV (some ⟨z,0,none⟩) (max U (f.e.s+1)) ((l.length:Int)+1), 118),(w0.heap.size,svV none 0 0, 118)] (fun v'=> [(gf,vs.set j v', 174),(V,svV (some ⟨z,0,none⟩) (max U (f.e.s+1)) ((l.length:Int)+1), 118),(w0.heap.size,svV none 0 0, 118)]) (⟨177,25,(.slice (some ⟨gr,0,none⟩) D cr),D,(fds (KK N (b:Int) (r:Int))).flatten⟩::fsl vs l) (fun v'=>⟨177,25,(.slice (some ⟨gr,0,none⟩) D cr),D,(fds (KK N (b:Int) (r:Int))).flatten⟩::(fsl vs l).set j ⟨177,25,v',(ofL l j).length+1,(fds (ofL l j)).flatten++f.v⟩) f.v 17 18 20 15 ux L w') ⟨(0,undef),fun L hL=>⟨fun _=>hs.drew,fun q=>absurd (hL 17) (by simp[q]),fun q=>absurd (hL 18) (by simp[q]),fun q=>absurd (hL 20) (by simp[q]),fun q=>absurd (hL 18) (by simp[q]),fun q=>absurd (hL 20) (by simp[q])⟩⟩ ?_ ?_
            · refine⟨rr,rr,rr,?_,rr,rr,?_,rr,rr,rr,?_,rr,rr,?_,rr,?_,?_,?_,?_,rr,?_,trivial⟩
              all_goals
               intro ux L w' hL hpre hJ a ha he;simp[Region.binds]at hpre
              · exact yc9
              · exact ydk
              · exact yc9
              · exact ydk
              · obtain⟨L',S',hm⟩:=hJ.out.low hL
                have q0:=hm.LM (k:=gf) (j:=j) (List.mem_append_right _ (List.Mem.tail _ (List.Mem.tail _ (List.Mem.head _)))) (v:=v) HV.out;exact cH
              · refine Wn ?_
                obtain⟨L',R',S',hm⟩:=hJ.out.any;exact wp_load_mid 177 (.tmp 11) rfl fb 0 ev f.v _ (ai (hm.own _ (vE _ _ _)).1) ej rfl (by rw[ad.out];exact bB) ⟨ux,_,rfl,rfl,hJ.out.JW rfl rfl rfl⟩
              · refine Wn ?_
                have bV:=aZ 16;have hm:=hJ.out.a hL;have R:L 18=false:=jI.2 fun q=>absurd (hJ.out.e q).1 (by simp[hL])
                have ak:L 20=false:=jI.2 fun q=>absurd (hJ.out.f q) (by simp[R])
                refine iN hm 174 rfl bV rfl hO gA ad.out (by decide) (by decide) rfl fun bq hw=>⟨(w'.heap.size,ux.2),_,rfl,rfl,?_⟩
                exact⟨fun q=>(by rw[lD]at q;cases q),fun _ _=>hw,fun q _=>absurd q (by simp[JW,R]),fun q=>absurd q (by simp[JW,ak]),fun q=>absurd q (by simp[JW,R]),fun q=>absurd q (by simp[JW,ak])⟩
              · refine Wn ?_
                have al:L 17=true:=by simp[hpre]
                have bW:L 15=true:=by simp[hpre]
                have hm:=hJ.out.b al hL;have ak:L 20=false:=jI.2 fun q=>absurd (hJ.out.f q) (by simp[hL])
                have bX:=aZ 15;have bY:=aZ 17;obtain⟨rr,bZ,b0⟩:=tn (l:=fsl vs l) (ee HV.out);refine fP (hm.perm (.refl _) ((bZ.cons _).trans (List.Perm.swap _ _ _))) (List.Mem.head _) 174 rfl hO gA rfl (by decide) ad.out bX bY (fi _) (by have:=bp.out;unfold sT;omega) (by have:=bp.out;omega) fun v' bq hw=>⟨(ux.1,v'),_,rfl,rfl,?_⟩
                exact⟨fun q=>absurd q (by simp[JW,al]),fun _ q=>(by rw[lD]at q;cases q),fun _ _=>hw.perm (.refl _) ((List.Perm.swap _ _ _).trans ((b0 _).symm.cons _)),fun q=>absurd q (by simp[JW,ak]),fun _=>⟨bz al,bz bW⟩,fun q=>absurd q (by simp[JW,ak])⟩
              · refine Wn ?_
                have R:L 18=true:=by simp[hpre]
                have hm:=hJ.out.c R hL;have b1:=aZ 18;have b2:=aZ 19
                have b3:ux.2.oneCell'=true:=by
                 obtain⟨A9,c9,e9,-,-⟩:=hm.slice (j+1) (s:=⟨177,25,ux.2,(ofL l j).length+1,(fds (ofL l j)).flatten++f.v⟩) (by rw[List.getElem?_cons_succ,js (by rw[r5,W.out];exact bo.out)]);rw[show ux.2=.slice A9 _ c9 from e9];rfl
                refine eL (L':=[_,_]) hm 174 rfl b2 b1 G8 (by rw[W.out];exact bo.out) b3 fun bq hw=>⟨ux,undef,rfl,rfl,?_⟩
                have al:=(hJ.out.e R).1;exact⟨fun q=>(by rw[bz al]at q;cases q),fun _ q=>(by rw[bz R]at q;cases q),fun _ q=>(by rw[lD]at q;cases q),fun _=>hw,fun _=>⟨bz (hJ.out.e R).1,bz (hJ.out.e R).2⟩,fun _=>bz R⟩
            · intro ux L w' hL hJ
              have hs:=hJ.d (hL 20 (by decide));clear hJ hL;obtain⟨uk,uv⟩:=ux;simp only[List.foldl_cons,List.foldl_nil];go_simp;go_wp2_with fail;go_roundw
              case rel=>exact⟨i+1,vs.set j uv,by omega,by go_num,by rw[List.length_set];exact W.out,by
               rw[bh.out,bj.out,bk.out,←F7 HV.out bT.out uv];exact hs.drop 2⟩
              case measure=>first|(simp[intOf];done)|(simp[intOf];omega)
          · have cx:¬f.e.l<(K:Int):=bl
            refine bm 8 (by kernel_rfl) (by kernel_rfl) ?_;intro wd aj;replace hs:=hs.drew;rw[←aj]at hs;clear aj;simp only[fo,hZ,gg,jw];repeat (first|(refine aq 0 hs rfl 3 (by first|rfl|(simp[fj];done)|(go_simp;done)) rfl rfl qc rfl HF0.out ?_)|(refine aq 1 hs rfl 171 (by first|rfl|(simp[fj];done)|(go_simp;done)) rfl rfl ps rfl rfl ?_)|(refine wpStill_step (fun K hK=> ?_);go_simp;refine hK _ ?_;clear hK K))
            refine ly ?_;go_wp2_with fail;go_roundw
            case rel=>exact⟨i+1,vs,by omega,by go_num,W.out,by
             rw[bh.out,bj.out,bk.out,CK (fun j hj=>by rw[W.out]at hj;omega)];exact hs.drop 1⟩
            case measure=>first|(simp[intOf];done)|(simp[intOf];omega)
        · obtain rfl:i=D:=by omega
          have aL:=qZ (show KA N b++Lk N b (r+1)=KA N b++Lk N b r++(KK N (b:Int) (r:Int)).take i by rw[lN,bd.out,List.take_length,pz]);go_wp2_with fail;go_roundw
          case rel=>exact⟨r+1,vs,by omega,by go_num,I,by rw[aL.out];exact hs.O1⟩
          case measure=>first|(simp[intOf];done)|(simp[intOf];omega)
     · obtain rfl:r=N.P:=by omega
       have aL:=qZ (iL N b);go_wp2_with fail;go_roundw
       case rel=>exact⟨b+1,vs,by omega,by go_num,I,by rw[aL.out];exact hs⟩
       case measure=>first|(simp[intOf];done)|(simp[intOf];omega)
  · obtain rfl:b=N.B:=by omega
    rw[show KA N N.B=Kc N from rfl]at hs;obtain⟨l,O⟩:∃l,l=Kc N:=⟨_,rfl⟩;have W:=qZ I;have ar:=qZ (show∀x∈l,x.e.ok from fun x n=>(ay.out x (by rw[←O];exact n)).e);have ad:=qZ (show∀x∈l,FdB N x from fun x n=>ay.out x (by rw[←O];exact n));have b4:=qZ (show∀x∈l,x.whole=true from fun x n=>aW.out x (by rw[←O];exact n))
    have b5:=qZ (show l.length≤6000 by
     have q1:=ig N N.B;have q2:Kc N=KA N N.B:=rfl;obtain⟨g1,g2,g3,g4,g5,g6⟩:=HG.out;have m1:=kb (kb (kn 7 g2) g6) g4;rw[O,q2];omega)
    rw[←O]at hs;have br:=qZ O;obtain⟨U,aa⟩:∃U,U=Lc l 1:=⟨_,rfl⟩;obtain⟨pg,aM⟩:∃pg:Int,pg=(l.length:Int):=⟨_,rfl⟩;rw[←aa,←aM]at hs;have aI:=qZ aa;have b6:=qZ aM;clear O I aa aM aW ay ae aA aB aX;go_wp2_with (refine ma ?_;try (clear hs;intro w hs));go_loopw [12,105] (fun ov kv wr=>∃k ab:Nat,k≤K∧kv=.int .i64 (k:Int)∧ov=.slice none 0 0∧ab≤3*k∧Mc nb g m N z E H ab (Lm l K k) w0 wr [(sb,[.pointer (some ⟨g,0,none⟩),.slice (some ⟨gf,0,none⟩) K K], 173),(gf,vs, 174),(V,svV (some ⟨z,0,none⟩) U pg, 118),(w0.heap.size,svV none 0 0, 118)] (fsl vs l)) (fun _ kv _=>K-(intOf kv).toNat)
    case atStart=>exact⟨0,0,by omega,rfl,rfl,by omega,hs⟩
    case round=>
     clear hs;obtain⟨k,ab,hk,rfl,rfl,hn,hs⟩:=hrel;by_cases bs:k<K
     · have cy:(k:Int)<(K:Int):=by omega
       obtain⟨v,hv⟩:∃v,vs[k]? =some v:=⟨_,ed (by rw[W.out];exact bs)⟩;obtain⟨Av,cv,aN,-,-⟩:=hs.slice k (ee hv);have aN:v=.slice Av (ofL l k).length cv:=aN;subst aN;have b7:(ofL l k).length≤l.length:=nr _ _;have bt:=qZ (uX (l:=l) (hs.blk (i:=0) rfl) (hs.blk (i:=1) rfl) bs hv ar.out (hs.rds k (ee hv) (by simp[fds]) (mY fun x n=>ar.out x (l8.1 n).1)) (by have:=b5.out;omega));have au:=qZ (iT l K k);clear hv b7;go_wp2_with fail;refine bt.out.mono ?_;rintro e w6 ⟨rfl,bu⟩;replace hs:=hs.below bu;clear bu bt;cases an:K4 l k with
       |none=>
        have aQ:=qZ (show Lm l K (k+1)=Lm l K k by rw[au.out,an]);have bx:=qZ (show zfd.v.length=25 from rfl);clear an au;go_wp2_with (refine ma ?_;try (clear hs;intro w hs));go_roundw
        case rel=>exact⟨k+1,ab,by omega,by go_num,rfl,by omega,by rw[aQ.out];exact hs.drop 1⟩
        case measure=>first|(simp[intOf];done)|(simp[intOf];omega)
       |some f=>
        have aQ:=qZ (show Lm l K (k+1)=(Lm l K k).MH f.e.l f.e.s f.e.r f.b f.r f.s f.m by rw[au.out,an]);obtain⟨aR,b8⟩:=iU an;have M:=ad.out f aR;have T:=qZ M;have bx:=qZ (fk M.e);have cz:=qZ (show f.v[23]? =some (.bool true) by rw[oR f M.e 4];show some (Value.bool f.whole)=_;rw[b4.out f aR]);have b9:=qZ (show f.v[22]? =some (.int .i64 f.m)from oR f M.e 3);have bA:=qZ (show(enV f.e.l f.e.s f.e.r f.e.d).length=19 from ax M.e.1 _ _ _);clear an au aR b8 M;go_wp2_with (first|(refine az hs 177 rfl rfl _ zfd.v nh rfl rfl ?_;clear hs;intro w hs)|(refine aJ hs 177 rfl rfl rfl rfl bB bx.out rfl (fi _) ?_;clear hs;intro w hs)|(refine aK 3 hs rfl 84 rfl rfl rfl underlying84 rfl rfl ?_)|(refine bS 0 0 (c1:=[]) (c2:=enV f.e.l f.e.s f.e.r f.e.d) (c3:=[.int .i64 f.b,.int .i64 f.r,.int .i64 f.s,.int .i64 f.m,.bool f.whole,.bool f.mended]) hs rfl rfl 90 rfl rfl rfl underlying90 rfl aV bA.out ?_)|(refine bS 0 19 (c1:=enV f.e.l f.e.s f.e.r f.e.d) (c2:=[.int .i64 f.b,.int .i64 f.r,.int .i64 f.s]) (c3:=[.int .i64 f.m,.bool f.whole,.bool f.mended]) hs rfl bA.out 94 rfl rfl rfl underlying94 rfl nD rfl ?_)|(refine aK 0 hs rfl 3 rfl rfl rfl qc rfl b9.out ?_));have bC:=qZ hs.a.2;refine(tab.EG bC.out f.e.l f.e.s f.e.r f.b f.r f.s f.m f.e.d T.out.e.1 (bw (by have:=T.out.l0;omega) (by have:=T.out.l1;omega)) (bw (by have:=T.out.s0;omega) (by have:=T.out.s1;omega)) (bw (by have:=T.out.b0;omega) (by have:=T.out.b1;have:=HG.out.2.2.2.1;omega)) (by omega)).mono ?_;rintro e w7 ⟨rfl,ht,aS⟩;have ca:=bE.out;have cc:=af.out;replace hs:=Mc.tab hs af.out (by omega) ht aS (yA hs.a (by omega) aS);clear ht aS bC ca cc;go_wp2_with (refine ma ?_;try (clear hs;intro w hs));go_roundw
        case rel=>exact⟨k+1,ab+3,by omega,by go_num,rfl,by omega,by rw[aQ.out];exact hs.drop 1⟩
        case measure=>first|(simp[intOf];done)|(simp[intOf];omega)
     · obtain rfl:k=K:=by omega
       go_upto_region 38 with(first|(refine ma ?_;try (clear hs;intro w hs))|(refine PT 116 rfl rfl underlying116 y9 rfl rfl ?_))
       replace hs:=hs.empty 3 1 rfl;go_wp2_with (refine ma ?_;try (clear hs;intro w hs));refine(jP w0.heap.size _ [] _ (hs.sl (i:=0) rfl) (by decide)).mono ?_;rintro e w8 ⟨rfl,h1,h2⟩;replace hs:=hs.app (s:=⟨3,1,_,_,_⟩) h1 h2 (.inl rfl);clear h1 h2;go_wp2_with (refine ma ?_;try (clear hs;intro w hs));refine(mA w0.heap.size _ [] _ (hs.sl (i:=0) rfl) (by decide)).mono ?_;rintro e w9 ⟨v',rfl,h1,h2,h3⟩
       obtain rfl:v'=.slice none 0 0:=by
        rcases h1.2 with⟨q,-⟩|⟨g',cA,cB,rfl,-⟩
        · exact q
        · cases h3
       replace hs:=hs.app (s:=⟨3,1,_,_,_⟩) h1 h2 (.inl h3);clear h1 h2 h3;go_wp2_with (first|(refine aK 2 hs rfl 43 rfl rfl rfl underlying43 rfl rfl ?_)|(refine lH hs 43 rfl rfl rfl rfl E4 (by show 3<6;decide) rfl ?_;clear hs;intro w hs)|(refine bM 2 hs rfl 118 rfl rfl rfl r2 rfl ei rfl ?_)|(refine sk hs 118 rfl rfl rfl rfl ei rfl rfl (by intro u hu;simp[svV]at hu;rcases hu with rfl|rfl|rfl|rfl|rfl|rfl<;>rfl) ?_;clear hs;intro w hs));exact py (hs.Nn 3 rfl rfl _ rfl r2 rfl ei rfl) rfl ⟨z,E,H,ab,by rw[←br.out,←aI.out,←b6.out];rfl,by omega,by rw[←br.out];exact hs.a.2,af.out.1,af.out.2.1,af.out.2.2,hs.out⟩
end
end dev
end Go.Proofs.YtlkpfnjdbgeifaaGreat
