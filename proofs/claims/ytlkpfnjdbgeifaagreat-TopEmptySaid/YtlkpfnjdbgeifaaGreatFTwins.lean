import Derived.Test.YtlkpfnjdbgeifaaGreatFPg
import Derived.Test.YtlkpfnjdbgeifaaGreatFSortUse
set_option linter.unusedSimpArgs false
set_option linter.unusedVariables false
set_option maxRecDepth 100000
set_option maxHeartbeats 8000000
open List renaming getElem?_eq_getElem→ed,mem_cons→eX,mem_map→gg,getElem?_map→hO,getElem_mem→hX,range_succ→hZ,range→jg
open Go renaming Value→ej,World→fj
open Go.World renaming grownBy_alloc→ek,ownsRow_nil→hG
open Go.Proofs.Tryz renaming underlying55→eD,underlying346→iP,prog→jd
open Option.some renaming inj→fo
namespace Go.Proofs.YtlkpfnjdbgeifaaGreat
open Go.Proofs.Tryz
open Go.RowKit
namespace pg
def idxs(l:List (List Nat))(p:List Nat)(k:Nat):List Nat:=(jg k).filter fun j=>decide (l[j]? =some p)
theorem qs(l:List (List Nat))(p:List Nat)(k:Nat):idxs l p (k+1)=idxs l p k++(if l[k]? =some p then [k]else []):=by
 unfold idxs;rw[hZ,List.filter_append];grind
theorem tW(l:List (List Nat))(p:List Nat)(k:Nat):(idxs l p k).length≤k:=by
 unfold idxs;grind
structure Grp (w:fj) (base:Nat) (f:List (List Nat×ej)) (l:List (List Nat)) (k:Nat):Prop where
 keys:∀p,p∈f.map (·.1)↔idxs l p k≠ []
 rows:∀p v,(p,v)∈f→w.ownsRow base 3 1 v (idxs l p k).length (An .i64 (idxs l p k))
 apart:∀p v p' v',(p,v)∈f→(p',v')∈f→p≠p'→v.ownBlock≠v'.ownBlock
theorem Grp.start(w:fj)(base:Nat)(l:List (List Nat)):Grp w base [] l 0:=⟨by simp[idxs],by simp,by simp⟩
theorem Grp.grown{w b:fj}{base:Nat}{f:List (List Nat×ej)}{l:List (List Nat)}{k:Nat}{row:Option Nat}(h:Grp w base f l k)(e:w.grownBy b row)(g:∀p v,(p,v)∈f→v.ownBlock≠row):Grp b base f l k:=
 ⟨h.keys,fun p v c=>(h.rows p v c).kept e (.inr (g p v c)),h.apart⟩
theorem bG{w:fj}{base n:Nat}{e:TypeId}{v:ej}{b:List ej}(h:w.ownsRow base e 1 v n b)(f:0<n):∃g,v.ownBlock=some g∧base≤g∧g<w.heap.size:=by
 obtain⟨g,c,rfl,i,j,-,-⟩:=aS h f;exact⟨g,rfl,i,j⟩
theorem Grp.pos{w:fj}{base:Nat}{f:List (List Nat×ej)}{l:List (List Nat)}{k:Nat}(h:Grp w base f l k){p:List Nat}{v:ej}(b:(p,v)∈f):0<(idxs l p k).length:=
 List.length_pos_iff.2 ((h.keys p).1 (gg.2 ⟨(p,v),b,rfl⟩))
theorem Grp.at_{w:fj}{base:Nat}{f:List (List Nat×ej)}{l:List (List Nat)}{k:Nat}(h:Grp w base f l k)(g:(f.map (·.1)).Nodup)(p:List Nat):
 w.ownsRow base 3 1 (Lu f p (.slice none 0 0)) (idxs l p k).length (An .i64 (idxs l p k)):=by
 by_cases b:p∈f.map (·.1)
 · obtain⟨q,c,e⟩:=gg.1 b
   obtain⟨i,v⟩:=q;simp only at e;subst e;rw[o3 g c];exact h.rows _ _ c
 · rw[lj b]
   have:idxs l p k=[]:=by
    cases j:idxs l p k with
    |nil=>rfl
    |cons a r=>exact absurd ((h.keys p).2 (by simp_all)) b
   rw[this];exact hG _ _ _ _
theorem Grp.other{w:fj}{base:Nat}{f:List (List Nat×ej)}{l:List (List Nat)}{k:Nat}(h:Grp w base f l k)(j:(f.map (·.1)).Nodup){p q:List Nat}{v:ej}(b:(q,v)∈f)(m:q≠p):v.ownBlock≠(Lu f p (.slice none 0 0)).ownBlock:=by
 by_cases c:p∈f.map (·.1)
 · obtain⟨n,i,e⟩:=gg.1 c
   obtain⟨o,r⟩:=n;simp only at e;subst e;rw[o3 j i];exact h.apart _ _ _ _ b i m
 · rw[lj c]
   obtain⟨g,e,-⟩:=bG (h.rows _ _ b) (h.pos b);rw[e];simp[Value.ownBlock]
theorem Grp.next{w m:fj}{base:Nat}{f:List (List Nat×ej)}{l:List (List Nat)}{k:Nat}(h:Grp w base f l k)(n:(f.map (·.1)).Nodup){p:List Nat}(z:l[k]? =some p){i:ej}(A:w.grownBy m (Lu f p (.slice none 0 0)).ownBlock)(B:m.ownsRow base 3 1 i ((idxs l p k).length+1) (An .i64 (idxs l p k)++[.int .i64 (k:Int)]))(C:i.ownBlock=(Lu f p (.slice none 0 0)).ownBlock∨∃g,i.ownBlock=some g∧w.heap.size≤g):Grp m base (Oz f p i) l (k+1):=by
 have o:∀q,q≠p→idxs l q (k+1)=idxs l q k:=fun q H=>by
  rw[qs,if_neg (by grind),List.append_nil]
 have D:idxs l p (k+1)=idxs l p k++[k]:=by rw[qs,if_pos z]
 refine⟨fun q=> ?_,fun q v b=> ?_,fun q v I J b r E=> ?_⟩
 · show q∈p::(LX f p).map (·.1)↔_
   rw[bR];by_cases e:q=p
   · simp_all
   · rw[o q e,←h.keys q]
     simp[e]
 · rcases eX.1 b with e|b
   · simp at e
     obtain⟨rfl,rfl⟩:=e;rw[D];simpa[An]using B
   · obtain⟨c,j⟩:=bj.1 b
     rw[o q j];exact(h.rows q v c).kept A (.inr (h.other n c j))
 · have key:∀q v,(q,v)∈LX f p→v.ownBlock≠i.ownBlock:=by
    intro q v b;obtain⟨c,j⟩:=bj.1 b;obtain⟨g,e,-,K⟩:=bG (h.rows _ _ c) (h.pos c);rcases C with t|⟨L,t,M⟩
    · rw[t];exact h.other n c j
    · grind
   rcases eX.1 b with e|G
   · simp at e
     obtain⟨rfl,rfl⟩:=e;rcases eX.1 r with e2|u
     · simp_all
     grind
   · rcases eX.1 r with e2|u
     · grind
     · exact h.apart _ _ _ _ (bj.1 G).1 (bj.1 u).1 E
theorem Grp.off{w:fj}{base b:Nat}{f:List (List Nat×ej)}{l:List (List Nat)}{k:Nat}(h:Grp w base f l k)(g:b<base):∀q v,(q,v)∈f→v.ownBlock≠some b:=fun q v c=>by
 obtain⟨i,e,j,-⟩:=bG (h.rows _ _ c) (h.pos c);grind
theorem EP{w:fj}{base n:Nat}{e:TypeId}{v:ej}{b:List ej}(h:w.ownsRow base e 1 v n b):v.ownBlock=none∨v.ownBlock≠some w.heap.size:=by
 rcases h.2 with⟨rfl,-⟩|⟨c,f,g,rfl,i,j,-⟩
 · exact .inl rfl
 · refine .inr fun e=> ?_
   have:=fo e;simp_all
theorem EY{w:fj}{base n b N:Nat}{D:DataW ej}{e:TypeId}{v:ej}{c:List ej}(h:w.ownsMap jd 55 Ks b N D)(f:w.ownsRow base e 1 v n c):some b≠v.ownBlock:=by
 obtain⟨g,clock,i,-⟩:=h;rcases f.2 with⟨rfl,-⟩|⟨j,k,l,rfl,-,m,-⟩
 · simp[Value.ownBlock]
 · intro e
   have:=fo e;simp_all
theorem Bi{w:fj}{base b n m:Nat}{v o:ej}{c f:List ej}(h:w.ownsRow base 3 1 v n c)(i:0<n)(j:w.ownsRow b 43 1 o m f):v.ownBlock≠o.ownBlock:=by
 rcases j.2 with⟨rfl,-⟩|⟨l,p,q,rfl,-,k,-⟩
 · obtain⟨g,e,-⟩:=bG h i
   rw[e];simp[Value.ownBlock]
 · exact nQ h k (by decide)
def pgs(l:List (List Nat)):List (List ej):=l.map (An .u8)
theorem Hg:(jd.info? 3).map (fun i=>(i.zero,i.size,i.bytes))=some (some (.int .i64 0),1,8):=by rfl
theorem pF(w:fj):(zeroValue 43).run jd w=.ok (.slice none 0 0) w:=by rfl
def PM(l:List (List Nat))(j:Nat)(p:List Nat):Bool:=(idxs l p l.length).head? ==some j&&decide (1<(idxs l p l.length).length)
def L0(l:List (List Nat))(k:Nat):List (List Nat):=(jg k).filterMap fun j=>(l[j]?).bind fun p=>if PM l j p then some p else none
theorem uR(l:List (List Nat))(k:Nat)(p:List Nat)(b:l[k]? =some p):L0 l (k+1)=L0 l k++(if PM l k p then [p]else []):=by
 unfold L0;rw[hZ,List.filterMap_append];grind
theorem yo(l:List (List Nat))(k:Nat):(L0 l k).length≤k:=by
 unfold L0;grind
theorem C7{l:List (List Nat)}{p:List Nat}{k:Nat}(b:k<l.length)(c:l[k]? =some p):∃h r,idxs l p l.length=h::r:=by
 cases e:idxs l p l.length with
 |cons a r=>simp
 |nil=>
  have:k∈idxs l p l.length:=by unfold idxs;rw[List.mem_filter];exact⟨List.mem_range.2 b,by simp_all⟩
  simp_all
theorem GB:(jd.info? 43).map (fun i=>(i.zero,i.size,i.bytes))=some (some (.slice none 0 0),1,24):=by rfl
theorem Iv(A:Option Addr)(n aP ax:Nat)(l:List (List Nat))(w:fj)(hr:Rds w ax A 32 n (pgs l))(hB:ax≤w.heap.size)(ay:∀p∈l,wfP p)(hn:n≤1000):
 Calls jd 295 #[.slice A n aP] w fun e w'=>∃(v:ej) (f:List (List Nat×ej)),e=.returned v∧w'.ownsRow (w.heap.size+1) 43 1 v (L0 l l.length).length ((L0 l l.length).map fun p=>Lu f p (.slice none 0 0))∧
  (∀p,w'.ownsRow (w.heap.size+1) 3 1 (Lu f p (.slice none 0 0)) (idxs l p l.length).length (An .i64 (idxs l p l.length)))∧Below w.heap.size w w':=by
 have hl:l.length=n:=by have:=hr.1;simpa[pgs]using this
 have bk:= @run_makeMap jd;have az:=World.ownsMap_made (H:=ej) w jd 55 Ks;have aA:=(Below.refl _ w).alloc (Nat.le_refl _) (.map #[] 0);have HR:=qZ hr;have P:=qZ hl;have HB:=qZ hB;have aB:=qZ ay;clear hr hl hB ay;go_enter func295, ntmps295;go_wp2_with fail;go_loopw [13] (fun i wr=>∃(k:Nat) (f:List (List Nat×ej)) (D:DataW ej),k≤n∧i=.int .i64 k∧wr.ownsMap jd 55 Ks w.heap.size k D∧Rel D f∧Grp wr (w.heap.size+1) f l k∧Below w.heap.size w wr) (fun i _=>n-(intOf i).toNat)
 case atStart=>exact⟨0,[],_,by omega,rfl,az,Rel.nil,Grp.start _ _ _,aA⟩
 case round=>
  clear az aA;obtain⟨k,f,D,hk,rfl,z,W,c,g⟩:=hrel;by_cases K:k<n
  · have I:k<l.length:=by rw[P.out];exact K
    have Q:=HR.out.below g HB;obtain⟨bb,oo,rfl,aQ,R⟩:=aH Q K (r:=An .u8 l[k]) (by rw[pgs,hO,ed I];rfl);have B:=aB.out l[k] (hX I);have X:=qZ (show l[k]? =some l[k]from ed I);have aR:(k:Int)<(n:Int):=by omega
    clear Q;generalize l[k]=p at*;have C:=bf B.1;have Y:=qZ B;have HRl:=qZ W;have ab:=qZ B.1;have aT:=z.lt;clear B W;go_upto_region 5 with(first|(refine wpList_load_mid rfl 55 (.tmp 16) rfl bb (oo+k*32) rfl _ _ R eD rfl C ?_)|(refine ag rfl 55 (.tmp 5) (.tmp 17) rfl wr.heap.size (An .u8 p) rfl rfl 55 _ (aj wr _ _ rfl) C (by rw[ah,ab.out];rfl) (av _ _) ?_;intro E o;have aU:=o.at_;have G:=(z.alloc (.cells (An .u8 Kp).toArray 55)).kept o.grown (fun e=>by simp_all);have t:=(c.grown (ek wr (.cells (An .u8 Kp).toArray 55) none) (fun q v b=>by obtain⟨L,e,-⟩:=bG (c.rows _ _ b) (c.pos b);simp_all)).grown o.grown (fun q v b=>by obtain⟨L,e,-,K⟩:=bG (c.rows _ _ b) (c.pos b);grind);have J:=o.below (g.alloc g.size _) g.size;have aV:E.heap.size=wr.heap.size+1:=(by rw[o.size];simp);clear o R z c g))
    have aC:=G.alloc (.cells #[.int .i64 (k:Int)] 3);have S:=t.grown (ek E (.cells #[.int .i64 (k:Int)] 3) none) (fun q v b=>by obtain⟨L,e,-⟩:=bG (t.rows _ _ b) (t.pos b);simp_all);have ad:=J.alloc J.size (.cells #[.int .i64 (k:Int)] 3);have aW:(E.alloc (.cells #[.int .i64 (k:Int)] 3)).heap.size=E.heap.size+1:=by simp
    obtain⟨st,N,aX,Z,aD,aE⟩:=zI aC HRl Y iP pF (by unfold maxLen;omega);have T:=S.grown Z (S.off (by omega));have ae:=T.at_ HRl.nodup p;have ak:N.heap[E.heap.size]? =some (.cells #[.int .i64 (k:Int)] 3 (0,0)):=(Z.block _ (by omega) (fun e=>by grind)).trans (aj _ _ _ rfl);have aY:Rd N N.heap.size (some ⟨E.heap.size,0,none⟩) 1 [.int .i64 (k:Int)]:=gD (ai ak) rfl (af ak);have al:=ad.grown Z ad.size (fun j hj=>by simp_all);have aF:=tW l p k
    have aG:(Lu f p (.slice none 0 0)).ownBlock≠some w.heap.size:=by
     intro e;rcases ae.2 with⟨O,-⟩|⟨L,bl,bm,O,bn,-⟩
     · rw[O]at e;cases e
     · rw[O]at e
       have:=fo e;grind
    have aZ:=qZ T;have a0:w.heap.size<N.heap.size:=by omega
    have a1:w.heap.size+1≤N.heap.size:=by omega
    generalize aI:Lu f p (.slice none 0 0)=v0 at aX ae aG;have aJ:=qZ aI;have a2:=qZ aE;have bo:=qZ aD;clear G t J aC S ad T ak Z aI aE aW aD aV;go_wp2_with (first|(refine wpList_load_mid rfl 55 (.tmp 5) rfl wr.heap.size 0 rfl _ _ (ai aU) eD rfl C ?_)|(at_builtin;refine gy rfl (.tmp 20) (.tmp 22) 43 rfl 3 _ _ underlying43 Hg rfl ae al rfl rfl aY (fun bp hu=>by rw[List.mem_singleton.1 hu];rfl) (by unfold maxLen;omega) (by omega) a1 (by omega) ?_;intro v8 w8 a3 aK a4 bq;obtain⟨w9,br,a5,aL⟩:=a2 w8 v8 (a4.block _ a0 (fun e=>aG e.symm));have aM:=aZ.out.next HRl.nodup X (by rw[aJ.out];omega) a3 (by rw[aJ.out];omega);have a6:=aM.grown aL (aM.off (by omega));have a7:=aK.grown aL aK.size (fun j hj=>by simp_all)));go_roundw
    case rel=>exact⟨k+1,Oz f p v8,_,by omega,by go_num,a5,HRl.put Y v8,a6,a7⟩
    case measure=>simp[intOf];omega
  · obtain rfl:k=n:=by omega
    have HRl:=qZ W;clear W;have a8:=g.size;have a9:=z;have ba:=z.lt;have bs:=qZ (show idxs l=idxs l from rfl);rw[←P.out]at c;go_wp2_with fail;go_loopw [6,29] (fun bc i wr=>∃(j:Nat) (m:Nat),j≤k∧i=.int .i64 j∧wr.ownsMap jd 55 Ks w.heap.size k D∧Grp wr (w.heap.size+1) f l l.length∧wr.ownsRow (w.heap.size+1) 43 1 bc (L0 l j).length ((L0 l j).map fun p=>Lu f p (.slice none 0 0))∧Below w.heap.size w wr) (fun _ i _=>k-(intOf i).toNat)
    case atStart=>exact⟨0,0,by omega,rfl,z,c,hG _ _ _ _,g⟩
    case round=>
     clear z a9 c g a8 ba;obtain⟨j,m,hj,rfl,z,c,an,g⟩:=hrel;by_cases K:j<k
     · have I:j<l.length:=by rw[P.out];exact K
       have Q:=HR.out.below g HB;obtain⟨bb,oo,rfl,aQ,R⟩:=aH Q K (r:=An .u8 l[j]) (by rw[pgs,hO,ed I];rfl);have B:=aB.out l[j] (hX I);have X:=qZ (show l[j]? =some l[j]from ed I);have aR:(j:Int)<(k:Int):=by omega
       clear Q;generalize l[j]=p at*;have C:=bf B.1;have Y:=qZ B;have ab:=qZ B.1;have aT:=z.lt;clear B;go_upto_region 11 with(first|(refine wpList_load_mid rfl 55 (.tmp 32) rfl bb (oo+j*32) rfl _ _ R eD rfl C ?_)|(refine ag rfl 55 (.tmp 8) (.tmp 33) rfl wr.heap.size (An .u8 p) rfl rfl 55 _ (aj wr _ _ rfl) C (by rw[ah,ab.out];rfl) (av _ _) ?_;intro E o;have ao:=o.at_;have G:=(z.alloc (.cells (An .u8 Kp).toArray 55)).kept o.grown (fun e=>by simp_all);have t:=(c.grown (ek wr (.cells (An .u8 Kp).toArray 55) none) (fun q v b=>by obtain⟨L,e,-⟩:=bG (c.rows _ _ b) (c.pos b);simp_all)).grown o.grown (fun q v b=>by obtain⟨L,e,-,K⟩:=bG (c.rows _ _ b) (c.pos b);rw[e];intro e2;simp_all);have aa:=(an.alloc (.cells (An .u8 Kp).toArray 55)).kept o.grown (EP an);have J:=o.below (g.alloc g.size _) g.size;clear o R z c g an))
       have bd:=AC G HRl Y iP (pF _);have U:=t.at_ HRl.nodup p;obtain⟨u,bt,aq⟩:=C7 I X;have aN:0<(idxs l p l.length).length:=by rw[aq];simp
       obtain⟨g9,c9,e9,-,-,bu,bw⟩:=aS U aN;have bx:=qZ U;rw[e9]at bd U;obtain⟨b9,o9,eA,-,ar⟩:=(Rd.O4 U).at_ aN;cases eA
       have bz:E.cell? ⟨g9,0,none⟩=some (.int .i64 (u:Int)):=by rw[show(An .i64 (idxs l p l.length))[0]? =some (.int .i64 (u:Int)) by rw[aq];rfl]at ar;exact ar
       clear ar;have au:=qZ (show PM l j p=(u==j&&decide (1<(idxs l p l.length).length)) by unfold PM;simp_all);have aw:=qZ (uR l j p X);have bg:=qZ e9;have aF:=tW l p l.length;rw[P.out]at aF;generalize (idxs l p l.length).length=M at*;have bA:(0:Int)<(M:Int):=by omega
       clear U e9 aq;by_cases O:u=j
       · subst O
         by_cases e1:1<M
         · have V:=qZ (show L0 l (u+1)=L0 l u++[p] by rw[aw.out,au.out];simp[e1])
           have bh:(1:Int)<(M:Int):=by omega
           have bB:=yo l u;have bC:=aa.1;go_wp2_with (first|(refine wpList_load_mid rfl 55 (.tmp 8) rfl wr.heap.size 0 rfl _ _ (ai ao) eD rfl C ?_)|(at_builtin;refine dc rfl (.tmp 47) (.tmp 49) 44 rfl 43 _ _ underlying44 GB rfl aa J rfl rfl rfl (by unfold maxLen;omega) (by omega) (by have:=J.size;have:=G.lt;omega) (by omega) ?_;intro v7 N bD al aO bE));have bj:=(G.alloc (.cells #[.slice (some ⟨g9,0,none⟩) M c9] 43)).kept aO (EY G aa);have S:=t.grown (ek E (.cells #[.slice (some ⟨g9,0,none⟩) M c9] 43) none) (fun q v b=>by obtain⟨L,e,-⟩:=bG (t.rows _ _ b) (t.pos b);simp_all);have T:=S.grown aO (fun q v b=>Bi (t.rows _ _ b) (t.pos b) aa);go_roundw
           case rel=>exact⟨u+1,m,by omega,by go_num,bj,T,by rw[V.out,List.map_append,List.length_append,List.map_cons,bg.out];simp_all,al⟩
           case measure=>simp[intOf];omega
         · have V:=qZ (show L0 l (u+1)=L0 l u by rw[aw.out,au.out];simp[e1])
           have bh:¬(1:Int)<(M:Int):=by omega
           go_wp2_with (first|(refine wpList_load_mid rfl 55 (.tmp 8) rfl wr.heap.size 0 rfl _ _ (ai ao) eD rfl C ?_));go_roundw
           case rel=>exact⟨u+1,m,by omega,by go_num,G,t,by rw[V.out];omega,J⟩
           case measure=>simp[intOf];omega
       · have V:=qZ (show L0 l (j+1)=L0 l j by rw[aw.out,au.out];simp[O])
         have bF:((u:Int)==(j:Int))=false:=by simp;omega
         go_wp2_with (first|(refine wpList_load_mid rfl 55 (.tmp 8) rfl wr.heap.size 0 rfl _ _ (ai ao) eD rfl C ?_));go_roundw
         case rel=>exact⟨j+1,m,by omega,by go_num,G,t,by rw[V.out];omega,J⟩
         case measure=>simp[intOf];omega
     · obtain rfl:j=k:=by omega
       have bH:=P.out;go_wp2_with fail;go_ret;refine⟨_,f,rfl,?_,fun p=>c.at_ HRl.nodup p,g⟩;simp_all
end pg
end Go.Proofs.YtlkpfnjdbgeifaaGreat
