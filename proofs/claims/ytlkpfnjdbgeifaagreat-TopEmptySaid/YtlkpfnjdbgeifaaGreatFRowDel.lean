import Derived.Lib.SliceRun
import Derived.Test.YtlkpfnjdbgeifaaGreatFWeave1
set_option linter.unusedVariables false
set_option maxRecDepth 100000
set_option maxHeartbeats 8000000
open List renaming getElem?_eq_getElem→ed,getElem?_eq_some_iff→eD,findIdx?_eq_some_iff_getElem→eX,toList_toArray→fo,take_add_one→jg,getElem?_map→jt,getElem_mem→jw,length_set→jI
open Nat renaming mul_le_mul_right→ej,le_refl→ek,div_lt_iff_lt_mul→iP,eq_zero_or_pos→jd,succ_mul→jm,min_eq_left→kb,zero_add→kk,mod_lt→kn
open Go renaming wpList_load_mid→fj,Value→gg,splice→hG,World→hZ,Calls→js
open Go.RowKit renaming Below→hO
open Go.Builtin renaming zeroCells→hX,clear_→kd
namespace Go.Proofs.YtlkpfnjdbgeifaaGreat
open Go.Proofs.Tryz
open Go.RowKit
theorem ya1{A:Prop}(h:A:=by
 obtain rfl:k=n:=by omega
 have HI:=qZ (show MU p l= -1 by
  unfold MU;rw[Jl fun j x hx=>HA.out j x hx (by rw[←HL.out];exact(List.getElem?_eq_some_iff.1 hx).1)])
 go_wp2_with fail;go_ret;exact⟨by rw[HI.out];rfl,hb⟩):A:=h
theorem ybi{A:Prop}(h:A:=by
 have hb7:=et hb hU;have HF:=qZ f2;have hIc:¬c=I:=by omega
 have hIJ2:(I:Int)≤(J:Int):=by omega
 have hIJ3:I≤J:=by omega
 have hIc2:I≤c:=by omega
 clear hU hg6 hct hcl hD hDn f1 f2 hzl own hb hof;go_wp2_with fail;go_ret;exact⟨_,rfl,by rw[HF.out];exact hrd.out,rfl,hb7⟩):A:=h
theorem ybu{A:Prop}(h:A:=by
 have HPx:=qZ hp;clear hp;go_wp2_with fail;go_roundw
 case rel=>exact⟨k+1,by omega,by go_num,hb3,fun j y hy hj=>by
  by_cases e:j=k
  · subst e;rw[HK.out]at hy;cases hy;exact HPx
  · exact HA j y hy (by omega)⟩
 case measure=>simp[intOf];omega):A:=h
theorem ybx{A:Prop}(h:A:=by
 clear hp;go_wp2_with fail;go_ret;exact⟨by rw[HI.out];rfl,hb3⟩):A:=h
theorem yct{A:Prop}(h:A:=by
 have HI:=qZ (HDI.off HX hp);clear hp;go_wp2_with fail;go_roundw
 case rel=>exact⟨I,J+1,arr,rfl,by go_num,HI,own6,hb6⟩
 case measure=>simp[intOf];omega):A:=h
theorem ydq{A:Prop}(h:A:=by
 go_wp2_with fail;refine HC.mono ?_;rintro e w1 ⟨rfl,hb⟩;go_wp2_with fail;go_ret;exact⟨_,rfl,by rw[HK.out];exact HO.below hb,rfl,fG hb⟩):A:=h
theorem yei{A:Prop}(h:A:=by
 go_wp2_with fail;refine C.out.mono ?_;rintro e w' ⟨rfl,hb⟩;go_wp2_with fail;go_ret;exact⟨by rw[←HI.out];rfl,hb⟩):A:=h
theorem yfh{A:Prop}(h:A:=by
 obtain⟨b,o,s⟩:=a;obtain rfl:s=none:=hA _ rfl;exact pi b o n c B l w hr hB hn):A:=h
namespace rw
section
variable {α:Type}{p:α→Bool}{l arr:List α}
def MA(p:α→Bool)(l:List α):List α:=l.filter fun x=> !p x
def MU(p:α→Bool)(l:List α):Int:=match l.findIdx? p with|some i=>(i:Int)|none=> -1
theorem Hi{k:Nat}(b:k<l.length)(c:∀(j:Nat) (x:α),l[j]? =some x→j<k→p x=false)(e:p l[k]=true):l.findIdx? p=some k:=by
 rw[eX];grind
theorem Jl(hall:∀(j:Nat) (x:α),l[j]? =some x→p x=false):l.findIdx? p=none:=by
 exact yee
theorem qp(h:l.findIdx? p=none):MA p l=l:=by
 unfold MA;simp_all
structure Oa (p:α→Bool) (l arr:List α) (i j:Nat):Prop where
 len:arr.length=l.length
 lt:i<j
 le:j≤l.length
 front:arr.take i=MA p (l.take j)
 back:arr.drop j=l.drop j
theorem jy(p:α→Bool)(l:List α)(j:Nat)(x:α)(b:l[j]? =some x):MA p (l.take (j+1))=MA p (l.take j)++(if p x then []else [x]):=by
 rw[jg,b];unfold MA;grind
theorem Oa.start{i:Nat}(h:l.findIdx? p=some i):Oa p l l i (i+1):=by
 rw[eX]at h;obtain⟨b,c,e⟩:=h;refine⟨rfl,by omega,by omega,?_,rfl⟩;rw[jy p l i l[i] (ed b),c];simp only[if_true,List.append_nil];unfold MA;exact ye7
theorem Oa.at_{i j:Nat}(h:Oa p l arr i j):arr[j]? =l[j]? :=by
 have:=congrArg (·[0]?) h.back;simp_all
theorem Oa.off{i j:Nat}(h:Oa p l arr i j){x:α}(b:l[j]? =some x)(c:p x=true):Oa p l arr i (j+1):=by
 have hj:=(eD.1 b).1;refine⟨h.len,by have:=h.lt;omega,by omega,?_,?_⟩
 · rw[jy p l j x b,c,h.front];simp
 · exact yef
theorem Oa.on{i j:Nat}(h:Oa p l arr i j){x:α}(b:l[j]? =some x)(c:p x=false):Oa p l (arr.set i x) (i+1) (j+1):=by
 have hj:=(eD.1 b).1;have f:=h.lt;have e:i<arr.length:=by rw[h.len];omega
 refine⟨by simp[h.len],by omega,by omega,?_,?_⟩
 · rw[jy p l j x b,c,←h.front,jg,List.take_set_of_le (ek _)]
   simp[e]
 · rw[List.drop_set_of_lt (by omega)]
   exact yef
theorem Oa.done{i:Nat}(h:Oa p l arr i l.length):arr.take i=MA p l∧(MA p l).length=i:=by
 exact yen
end
section
variable {w w':hZ}{base g n c C:Nat}{e:TypeId}{rows:List (List gg)}
theorem aT(h:OwnRows w base e C (.slice (some ⟨g,0,none⟩) n c) n rows):∃cur:List gg,w.heap[g]? =some (.cells cur.toArray e (0,0))∧base≤g∧n≤c∧c≤maxLen∧cur.length=c*C∧cur.take (n*C)=rows.flatten:=by
 exact yd3
theorem zC{i:Nat}(l:∀r∈rows,r.length=C)(p:i<rows.length){r:List gg}(m:r.length=C):(rows.set i r).flatten=hG rows.flatten (i*C) r:=by
 have f:∀x∈rows.set i r,x.length=C:=fun x D=>by
  grind
 have q:rows.flatten.length=rows.length*C:=bx l;have E:(rows.set i r).flatten.length=rows.length*C:=by rw[bx f,jI]
 have t:i*C+r.length≤rows.flatten.length:=by
  rw[q,m];have:=ej C (show i+1≤rows.length from p);rw[jm]at this;exact this
 apply List.ext_getElem?;intro j;rw[du _ _ _ t];by_cases hj:j<rows.length*C
 · have b:0<C:=by rcases jd C with e|e;(subst e;simp at hj);exact e
   have u:j/C<rows.length:=by rw[iP b];exact hj
   have k:j%C<C:=kn _ b;have o:j/C*C+j%C=j:=by rw[Nat.mul_comm];exact Nat.div_add_mod j C
   have e1:=aW l (ed u) k;rw[o]at e1;by_cases z:j/C=i
   · have e2:=aW f (i:=j/C) (j:=j%C) (r:=r) (by simp_all) k
     grind
   · have e2:=aW f (i:=j/C) (j:=j%C) (r:=rows[j/C]) (by grind) k
     rw[o]at e2;rw[e2,←e1];by_cases B:j<i*C
     · simp_all
     · rw[if_neg B,m,if_neg ?_]
       intro G;apply z;have H:i≤j/C:=by rw[Nat.le_div_iff_mul_le b];omega
       have I:j/C<i+1:=by rw[iP b,jm];omega
       omega
 grind
theorem qM{L cs:List gg}{off k:Nat}(h:off+cs.length≤L.length)(b:off+cs.length≤k):(hG L off cs).take k=hG (L.take k) off cs:=by
 exact ya7
theorem tq{i:Nat}{b:List gg}(h:OwnRows w base e C (.slice (some ⟨g,0,none⟩) n c) n rows)(m:b.take (n*C)=rows.flatten)(o:b.length=c*C)(p:i<n){r:List gg}(f:r.length=C)(q:Upd g (.cells (hG b (i*C) r).toArray e (0,0)) w w'):OwnRows w' base e C (.slice (some ⟨g,0,none⟩) n c) n (rows.set i r):=by
 obtain⟨D,E,t,j,u,G,H⟩:=aT h;have z:rows.length=n:=h.2.1
 have k:∀x∈rows.set i r,x.length=C:=fun x A=>by
  rcases List.mem_or_eq_of_mem_set A with l|l
  · exact h.2.2 x l
  simp_all
 have I:i*C+C≤n*C:=by
  have:=ej C (show i+1≤n from p);rw[jm]at this;exact this
 have J:n*C≤c*C:=ej C j;have B:(rows.set i r).flatten.length=n*C:=by rw[bx k,jI,z]
 have K:(hG b (i*C) r).length=c*C:=by simp[hG,f];omega
 refine⟨⟨B,.inr ⟨g,c,_,rfl,t,q.at_,j,u,by omega,?_⟩⟩,by grind,k⟩;rw[zC h.2.2 (by omega) f,←m,fo,qM (by rw[f,o];omega) (by rw[f];omega)]
theorem qd{k:Nat}{b f:List gg}(h:OwnRows w base e C (.slice (some ⟨g,0,none⟩) n c) n rows)(l:b.take (n*C)=rows.flatten)(B:b.length=c*C)(i:k≤n)(m:f.length=(n-k)*C)(o:Upd g (.cells (hG b (k*C) f).toArray e (0,0)) w w'):OwnRows w' base e C (.slice (some ⟨g,0,none⟩) k c) k (rows.take k):=by
 obtain⟨D,E,p,q,r,G,H⟩:=aT h;have t:rows.length=n:=h.2.1;have j:∀x∈rows.take k,x.length=C:=fun x u=>h.2.2 x (List.mem_of_mem_take u)
 have z:(rows.take k).flatten.length=k*C:=by rw[bx j,List.length_take,t,kb i]
 have I:n*C≤c*C:=ej C q;have A:k*C≤n*C:=ej C i;have J:k*C+f.length=n*C:=by rw[m,←Nat.add_mul];congr 1;omega
 have K:(hG b (k*C) f).length=c*C:=by simp[hG];omega
 refine⟨⟨z,.inr ⟨g,c,_,rfl,p,o.at_,by omega,r,by omega,?_⟩⟩,by simp_all,j⟩;rw[fo]
 have e1:(hG b (k*C) f).take (k*C)=b.take (k*C):=by
  unfold hG;grind
 rw[e1];have e2:b.take (k*C)=rows.flatten.take (k*C):=by rw[←l,List.take_take,kb A]
 rw[e2];have e3:rows.flatten=(rows.take k).flatten++(rows.drop k).flatten:=by rw[←List.flatten_append,List.take_append_drop]
 simp_all
theorem pj{P:Program}{o:Nat}{st:TypeId}{z:Array gg}{f:List gg}(t:P.underlying st=some (.slice e))(u:∀w,(zeroValue e).run P w=.ok (.agg z) w)(B:∀v∈z.toList,v.oneCell'=true)(D:z.size=C)(k:w.heap[g]? =some (.cells f.toArray e (0,0)))(K:0<n)(L:o+n*C≤f.length):
 ∃w',(∀q,(kd #[st] q #[.slice (some ⟨g,o,none⟩) n c]).run P w=.ok (.tuple #[]) w')∧∃b:List gg,b.length=n*C∧Upd g (.cells (hG f o b).toArray e (0,0)) w w':=by
 generalize l:(hX (Value.agg z).cells n).toList=b;have E:b.length=n*C:=by rw[←l,←D];simp[hX,Value.cells]
 have G:∀v∈b,v.oneCell'=true:=by
  intro v p;rw[←l]at p;simp[hX,Value.cells]at p;obtain⟨i,H,rfl⟩:=p;have I:0<z.size:=by rcases jd z.size with e|e;(rw[e]at H;omega);exact e
  have J:=kn i I;rw[getElem!_pos z _ J];exact B _ (by simp)
 have r:=run_storeCells_cells (P:=P) g o b 0 w (fun j hj=>by
  rw[ae k,List.getElem?_toArray,ed (by omega)];rfl) (fun j hj=>ao k _) G
 simp only[Nat.add_zero]at r;refine⟨w.setCells g o b,fun q=> ?_,b,E,cA k (by omega)⟩;obtain⟨m,rfl⟩:∃m,n=m+1:=⟨n-1,by omega⟩;simp[kd,run_underlying t,l,r,u]
end
theorem fG{w c:hZ}{b:Option Nat}(h:hO w.heap.size w c):w.grownBy c b:=⟨h.os,h.tape,h.output,h.size,fun k e _=>h.block k e⟩
theorem mw{w e f:hZ}{b:Option Nat}(h:w.grownBy e b)(c:e.grownBy f b):w.grownBy f b:=
 ⟨c.os.trans h.os,c.tape.trans h.tape,c.output.trans h.output,Nat.le_trans h.size c.size,fun k g i=>(c.block k (Nat.lt_of_lt_of_le g h.size) i).trans (h.block k g i)⟩
theorem eW{w c e:hZ}{b:Option Nat}(h:w.grownBy c b)(f:hO c.heap.size c e):w.grownBy e b:=mw h (fG f)
theorem et{w w' c:hZ}{g:Nat}{o:Obj}(h:w.grownBy w' (some g))(b:Upd g o w' c):w.grownBy c (some g):=
 mw h ⟨b.os,b.tape,b.output,by rw[b.size];omega,fun k i f=>b.block k fun e=>f (by rw[e])⟩
theorem eC{w:hZ}{base C n:Nat}{e:TypeId}{v:gg}{b:List (List gg)}(h:OwnRows w base e C v n b):v.ownBlock≠some w.heap.size:=by
 intro c;have:=(h.1.lt _ c).2;omega
theorem _root_.Go.Proofs.YtlkpfnjdbgeifaaGreat.Rds.far{w c:hZ}{B C n:Nat}{A:Option Addr}{f:List (List gg)}{b:Option Nat}(h:Rds w B A C n f)(g:w.grownBy c b)(z:B≤w.heap.size)(l:∀a,A=some a→b≠some a.block):Rds c c.heap.size A C n f:=by
 refine⟨h.1,h.2.1,fun m=> ?_⟩;obtain⟨k,o,e,D,p⟩:=h.2.2 m;refine⟨k,o,e,by have:=g.size;omega,fun i r j u q t=> ?_⟩;have:=p i r j u q t;exact(World.cell?_of_block (g.block k (by omega) (fun e2=>l _ e e2.symm))).trans this
end rw
namespace en
open rw
theorem C3:(prog.info? 90).map (fun i=>(i.zero,i.size,i.bytes))=some (some (.agg (enV 0 0 0 an).toArray),19,40):=by rfl
theorem ew(w:hZ):(zeroValue 90).run prog w=.ok (.agg (enV 0 0 0 an).toArray) w:=by rfl
theorem Cs{x:En}(h:x.ok):x.v.length=19:=ax h.1 _ _ _
theorem C4{x:En}(h:x.ok):(prog.info? 90).map (·.size)=some x.v.length:=bo h.1 _ _ _
theorem one(x:En):∀v∈x.v,v.oneCell'=true:=aO _ _ _ _
def zV:List gg:=enV 0 0 0 an
theorem BO:∀v∈zV.toArray.toList,v.oneCell'=true:=by rw[fo];exact aO 0 0 0 an
theorem nY(l:List En):∀r∈ens l,∀u∈r,u.oneCell'=true:=by
 intro r b;obtain⟨x,_,rfl⟩:=List.mem_map.1 b;exact one x
theorem pi(b o n c B:Nat)(l:List En)(w:hZ)(i:Rds w B (some ⟨b,o,none⟩) 19 n (ens l))(j:B≤w.heap.size)(p:n≤1000000):js prog 147 #[.slice (some ⟨b,o,none⟩) n c] w fun e f=>
 ∃v,e=.returned v∧OwnRows f w.heap.size 90 19 v n (ens l)∧hO w.heap.size w f:=by
 have q:=fun W:hZ=>Lib.run_eql_slice_nil (P:= prog) W 116 90 (some ⟨b,o,none⟩) n c 0 0 underlying116
 have k:OwnRows (w.alloc (.cells #[] 90)) w.heap.size 90 19 (.slice (some ⟨w.heap.size,0,none⟩) 0 0) 0 []:=⟨World.ownsRow_made w #[] 0 (ek _) (by omega) rfl,rfl,by simp⟩;have g:hO w.heap.size w (w.alloc (.cells #[] 90)):=(Below.refl _ _).alloc (ek _) _;have m:Rds (w.alloc (.cells #[] 90)) B (some ⟨b,o,none⟩) 19 n (ens l):=i.below g j;go_enter func147, ntmps147;go_wp2_with (at_builtin;go_must (refine aN rfl (.tmp 5) (.tmp 6) 116 rfl 90 _ 19 40 underlying116 C3 rfl (by decide) k g rfl rfl m (nY _) (by unfold maxLen;omega) (by omega) (by simp) (ek _) ?_));exact yff
theorem l9(A:Option Addr)(n c B:Nat)(l:List En)(w:hZ)(hr:Rds w B A 19 n (ens l))(hB:B≤w.heap.size)(hn:n≤1000000)(hA:∀a,A=some a→a.spot=none):js prog 147 #[.slice A n c] w fun e f=>
 ∃v,e=.returned v∧OwnRows f w.heap.size 90 19 v n (ens l)∧hO w.heap.size w f:=by
 cases A with
 |some a=>
  exact yfh
 |none=>
  have g:n=0:=by
   exact yb9
  subst g;have i:ens l=[]:=List.eq_nil_of_length_eq_zero hr.1;rw[i];have j:=fun W:hZ=>Lib.run_eql_slice_nil (P:= prog) W 116 90 none 0 c 0 0 underlying116
  go_enter func147, ntmps147;exact ydm
section
variable {w:hZ}{n c:Nat}{l:List En}(fid:Nat)(cap:Array gg)(eg:∀args W,(callFunc fid args).run prog W= .ok (.enter fid args) W)(p:En→Bool)
include eg in
theorem dB{A:Option Addr}{B:Nat}(f:Rds w B A 19 n (ens l))(m:B≤w.heap.size)(o:∀x∈l,x.ok)(O:n≤1000000)(hp:∀x W,x∈l→hO w.heap.size w W→js prog fid (#[.agg x.v.toArray]++cap) W fun e g=>e=.returned (.bool (p x))∧hO W.heap.size W g):
 js prog 83 #[.slice A n c,.func (.func fid) #[] cap] w fun e g=>e=.returned (.int .i64 (MU p l))∧hO w.heap.size w g:=by
 have q:l.length=n:=by have:=f.1;simpa[ens]using this
 have G:=qZ f;have HL:=qZ q;have H:=qZ m;have I:=qZ hp;have J:=qZ o;clear f q m hp o;go_enter func83, ntmps83;go_wp2_with fail;go_loopw [8] (fun i wr=>∃k:Nat,k≤n∧i=.int .i64 k∧hO w.heap.size w wr∧∀(j:Nat) (x:En),l[j]? =some x→j<k→p x=false) (fun i _=>n-(intOf i).toNat)
 case atStart=>exact⟨0,by omega,rfl,Below.refl _ _,fun _ _ _ h=>by omega⟩
 case round=>
  obtain⟨k,P,rfl,hb,t⟩:=hrel;have HA:=qZ t;clear t;by_cases u:k<n
  · have b:k<l.length:=by rw[HL.out];exact u
    have z:=G.out.below hb H;obtain⟨K,L,rfl,Q,C⟩:=aH z u (r:=l[k].v) (by rw[ens,jt,ed b];rfl);have R:(k:Int)<(n:Int):=by omega
    have HK:=qZ (show l[k]? =some l[k]from ed b);have D:=qZ (I l[k] wr (jw b) hb);have M:=C4 (J l[k] (jw b));clear z;generalize l[k]=x at*;go_wp2_with (first|(refine fj rfl 90 (.tmp 14) rfl K (L+k*19) rfl x.v _ C underlying90 rfl M ?_));refine D.out.mono ?_;rintro e S ⟨rfl,E⟩;have hb3:=hb.trans (E.mono hb.size);clear hb E D C;cases hp:p x with
    |true=>
     have HI:=qZ (show MU p l=(k:Int) by
      unfold MU;obtain⟨N,e⟩:=eD.1 HK;rw[Hi N HA.out (by rw[e];exact hp)])
     exact ybx
    |false=>
     exact ybu
  · exact ya1
theorem vQ(q:En→Bool)(m:List En):decide (0≤MU q m)=m.any q:=by
 unfold MU;grind
include eg in
theorem gh{A:Option Addr}{B:Nat}(b:Rds w B A 19 n (ens l))(i:B≤w.heap.size)(f:∀x∈l,x.ok)(j:n≤1000000)(g:∀x W,x∈l→hO w.heap.size w W→js prog fid (#[.agg x.v.toArray]++cap) W fun e w'=>e=.returned (.bool (p x))∧hO W.heap.size W w'):
 js prog 153 #[.slice A n c,.func (.func fid) #[] cap] w fun e w'=>e=.returned (.bool (l.any p))∧hO w.heap.size w w':=by
 have C:=qZ (dB (c:=c) fid cap eg p b i f j g);have HI:=qZ (vQ p l);clear b f g;go_enter func153, ntmps153;exact yei
include eg in
theorem FI{base:Nat}{v:gg}(h:OwnRows w base 90 19 v l.length (ens l))(q:∀x∈l,x.ok)(L:l.length≤1000000)(hp:∀x W,x∈l→w.grownBy W v.ownBlock→js prog fid (#[.agg x.v.toArray]++cap) W fun e f=>e=.returned (.bool (p x))∧hO W.heap.size W f):
 js prog 145 #[v,.func (.func fid) #[] cap] w fun e f=>∃u,e=.returned u∧OwnRows f base 90 19 u (MA p l).length (ens (MA p l))∧u.ownBlock=v.ownBlock∧w.grownBy f v.ownBlock:=by
 have D:∀x W,x∈l→hO w.heap.size w W→js prog fid (#[.agg x.v.toArray]++cap) W fun e f=>e=.returned (.bool (p x))∧hO W.heap.size W f:=fun x W i hb=>hp x W i (fG hb)
 cases m:l.findIdx? p with
 |none=>
  have HK:=qZ (qp m);have E:MU p l= -1:=by unfold MU;rw[m]
  obtain⟨A,c,rfl,-,-⟩:=h.slice;have C:=dB (c:=c) fid cap eg p h.rds (ek _) q L D;rw[E]at C;have HC:=qZ C;have HO:=qZ h;clear m E C h hp D q;go_enter func145, ntmps145;exact ydq
 |some t=>
  have hD:=Oa.start m;have E:MU p l=(t:Int):=by unfold MU;rw[m]
  have ae:t<l.length:=by have:=hD.le;omega
  obtain⟨g,c,rfl,au,V,af,ah⟩:=aS h.1 (by omega);have C:=dB (c:=c) fid cap eg p h.rds (ek _) q L D;rw[E]at C;have HC:=qZ C;have HO:=qZ h;have HP:=qZ (show∀x W,x∈l→w.grownBy W (some g)→js prog fid (#[.agg x.v.toArray]++cap) W fun e f=>e=.returned (.bool (p x))∧hO W.heap.size W f from hp);have X:=qZ q;unfold maxLen at ah;obtain⟨N,M⟩:∃N,l.length=N:=⟨_,rfl⟩;have O:=qZ M;have HD:=qZ hD;have av:=qZ V;rw[M]at HO HC ae af L⊢;clear m E C h hD M V hp D q;go_enter func145, ntmps145;go_wp2_with fail;refine HC.mono ?_;rintro e w1 ⟨rfl,hb⟩;have Pr:=HO.out.below hb;have Y:=fG (b:=some g) hb;have ak:=hb.size;have ht:((t:Int)== -1)=false:=by simp
  clear hb;go_wp2_with fail;go_loopw [5,6,7] (fun al j _ wr=>∃(I J:Nat) (arr:List En),al=.int .i64 I∧j=.int .i64 J∧Oa p l arr I J∧OwnRows wr base 90 19 (.slice (some ⟨g,0,none⟩) N c) N (ens arr)∧w.grownBy wr (some g)) (fun _ j _ _=>N-(intOf j).toNat)
  case atStart=>exact⟨t,t+1,l,rfl,by go_num,HD,Pr,Y⟩
  case round=>
   clear Pr Y ak;obtain⟨I,J,arr,rfl,rfl,hD,own,hb⟩:=hrel;have aw:=hD.lt;have an:=hD.le;rw[O.out]at an;have HDI:=qZ hD;by_cases ao:J<N
   · obtain⟨x,i⟩:∃x,l[J]? =some x:=⟨_,ed (by rw[O.out];omega)⟩
     have Z:=hD.at_.trans i;have HX:=qZ i;have G:=List.mem_of_getElem? i;have B:=C4 (X x G);have Q:=qZ (Cs (X x G));obtain⟨bb,oo,eA,ax,R⟩:=aH own.rds ao (r:=x.v) (by rw[ens,jt,Z];rfl);cases eA
     rw[kk]at R;have ay:(J:Int)<(N:Int):=by omega
     have az:(I:Int)<(N:Int):=by omega
     have HM:=qZ G;clear hD i Z G;go_wp2_with (first|(refine fj rfl 90 (.tmp 24) rfl g (J*19) rfl x.v _ R underlying90 rfl B ?_)|(refine ag rfl 90 (.tmp 7) (.tmp 25) rfl wr.heap.size x.v rfl rfl 90 _ (aj wr _ _ rfl) B (by rw[Q.out];rfl) (one _) ?_;intro w5 H;have S:=H.at_;have ab:=(own.alloc (.cells zV.toArray 90)).upd H (eC own);have T:=eW hb (H.below ((Below.refl _ _).alloc (ek _) _) (ek _));clear H R hb own)|(refine fj rfl 90 (.tmp 7) rfl wr.heap.size 0 rfl x.v _ (ai S) underlying90 rfl B ?_));refine(HP x w5 HM T).mono ?_;rintro e w6 ⟨rfl,K⟩;have own6:=ab.below K;have aq:=aa S K;have hb6:=eW T K;clear K ab S T;cases hp:p x with
     |true=>
      exact yct
     |false=>
      have HI:=qZ (HDI.on HX hp);obtain⟨ad,hg6,-,-,-,hcl,hct⟩:=aT own6;have aA:0+I*19=I*19:=kk _;clear hp;go_wp2_with (first|(refine fj rfl 90 (.tmp 7) rfl wr.heap.size 0 rfl x.v _ (ai aq) underlying90 rfl B ?_)|(refine bI rfl 90 (.tmp 33) (.tmp 32) rfl g (I*19) x.v rfl rfl 90 ad hg6 B (by rw[Q.out,hcl];omega) (one _) ?_;intro w7 U;have ar:=tq own6 hct hcl (show I<N by omega) Q.out U;have hb7:=et hb6 U;clear U));go_roundw
      case rel=>exact⟨I+1,J+1,arr.set I x,by go_num,by go_num,HI,by rw[ens,List.map_set];exact ar,hb7⟩
      case measure=>simp[intOf];omega
   · obtain rfl:J=N:=by omega
     have hDn:Oa p l arr I l.length:=by rw[O.out];exact hD
     obtain⟨f1,f2⟩:=hDn.done;obtain⟨ad,hg6,-,-,-,hcl,hct⟩:=aT own;obtain⟨w7,aB,zs,hzl,hU⟩:=pj (P:= prog) (n:=J-I) (c:=c-I) (o:=I*19) (z:=zV.toArray) (C:=19) underlying116 ew BO rfl hg6 (by omega) (by omega);have hof:=qd (k:=I) own hct hcl (by omega) hzl hU;have hrd:=qZ (show OwnRows w7 base 90 19 (.slice (some ⟨g,0,none⟩) I c) I (ens (MA p l)) by rw[←f1,ens,List.map_take];exact hof);exact ybi
end
end en
end Go.Proofs.YtlkpfnjdbgeifaaGreat
