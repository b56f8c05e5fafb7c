import Derived.Deep.OwnRows
import Derived.Test.YtlkpfnjdbgeifaaGreatFNandProgram
set_option linter.unusedSimpArgs false
set_option linter.unusedVariables false
set_option maxRecDepth 100000
set_option maxHeartbeats 8000000
open Option.some renaming inj→ed
open And renaming intro→ej
open Go.Instr renaming lookup→ek,mapUpdate→hX
open Go.Proofs.Tryz renaming prog→eD,underlying151→kn,underlying23→qc,underlying96→r4
open List renaming filter_cons→eX,find?_cons_of_neg→gg,filter_eq_nil_iff→hG,map_cons→hO,nodup_cons→hZ,filter_eq_self→iP,replicate→jg,find?_cons_of_pos→jI,length_filter_le→kd,mem_cons→kk,find?_eq_none→kr,mem_map→lx,foldl_cons→nr,foldl_nil→py,range→sT
open Go renaming World→fj,Value→kb,madeCells→l4,wpList_load_mid→l8,maxLen→o4,TypeId→pn,Calls→ps,execOp→px,zeroValue→qa
open Go.RowKit.Below renaming refl→fo
open Go.RowKit renaming Below→jd,intOf→pz
open Array renaming getElem?_eq_some_iff→jm
open Go.World renaming ownsMap_made→js,ownsRow_nil→ly
open Nat renaming le_refl→jt,le_trans→jw,zero_le→l5,le_of_lt→r2
namespace Go.Proofs.YtlkpfnjdbgeifaaGreat
open Go.Proofs.Tryz
open Go.RowKit
theorem ydp{A:Prop}(h:A:=by
 rcases(e1 d b).1 hd with hd|hd
 · exact hd
 · exact absurd hd e):A:=h
theorem yel{A:Prop}(h:A:=by
 go_simp;exact HK _ _ ⟨y,_,rfl,rfl,jg'.out,jm'.out,js'.out,jx'.out,jd'.out,j6'.out,j7'.out,j8'.out,jb'.out⟩):A:=h
theorem yeu{A:Prop}(h:A:=by
 rcases(e1 d' b').1 hd' with hd|hd
 · exact hd
 · exact absurd hd e'):A:=h
namespace JT
def Qj(D c b e:Nat):Lay:=⟨c,0,b+1,b,0,[],.slice (some ⟨e,0,none⟩) D D,fun _ _=>0,fun _ _=> .slice none 0 0⟩
theorem wI(D B P b c e:Nat): eD.built 81 [(0,.agg ([.int .i64 (D:Int),.int .i64 (B:Int),.int .i64 (P:Int)]).toArray),(1,.map (some b)),(2,.pointer (some ⟨c+1,0,none⟩)),(3,.slice (some ⟨e,0,none⟩) D D)]=some ((Nd.new D B P).top (Qj D b c e)).toArray:=by kernel_rfl
theorem uA: eD.built 106 []=some (Blk.none.v (.slice none 0 0)).toArray:=by kernel_rfl
theorem aC(w:fj)(o:Obj):jd w.heap.size w (w.alloc o):=(fo _ w).alloc (jt _) o
theorem BI(w:fj){base D:Nat}(b:base≤w.heap.size)(e:D≤6):(w.alloc (.cells (l4 #[.bool false] D) 4)).ownsRow base 4 1 (.slice (some ⟨w.heap.size,0,none⟩) D D) D ((jg D false).map .bool):=by
 have c:l4 #[Value.bool false] D=((jg D false).map Value.bool).toArray:=by
  unfold l4;apply Array.ext';simp;apply List.ext_getElem
  · simp
  · intro a f g
    simp[Nat.mod_one]
 rw[c];refine⟨by simp,.inr ⟨w.heap.size,D,_,rfl,b,aj _ _ _ rfl,jt _,by unfold o4;omega,by simp,by simp⟩⟩
def dn(B i j d b:Nat):Prop:=(d<i∧b<B)∨(d=i∧b<j)
structure Part (w:fj) (base g:Nat) (Y:Lay) (D B P i j:Nat):Prop where
 head:w.heap[g]? =some (.cells ((Nd.new D B P).top Y).toArray 81 (0,0))
 Nv:base≤g∧Y.bp≤g∧Y.mb≤g
 map:∃M,w.ownsMap eD 52 Ks Y.mb Y.nm M∧Rel M Y.mf
 nm:Y.nm≤i*B+j
 has:∀d b:Nat,dn B i j d b→(key d b,.pointer (some ⟨Y.q d b,0,none⟩))∈Y.mf
 only:∀x∈Y.mf,∃d b:Nat,dn B i j d b∧x.1=key d b
 Kt:LY w 168 Y.gp Y.bp Y.np []
 np0:Y.np=0
 dead:w.ownsRow base 4 1 Y.dv D ((jg D false).map .bool)
 blk:∀d b:Nat,dn B i j d b→w.heap[Y.q d b]? =some (.cells (Blk.none.v (.slice none 0 0)).toArray 106 (0,0))∧base≤Y.q d b
 cv:∀d b:Nat,Y.cv d b=.slice none 0 0
 PF:∀d b d' b':Nat,dn B i j d b→dn B i j d' b'→Y.q d b=Y.q d' b'→d=d'∧b=b'
 apart:Y.mb≠Y.bp
 low:base≤Y.mb∧base≤Y.gp∧base≤Y.bp
section
variable {w w':fj}{base g D B P i j:Nat}{Y:Lay}
theorem Part.below(h:Part w base g Y D B P i j)(hb:jd w.heap.size w w'):Part w' base g Y D B P i j:=
 {h with
  head:=aa h.head hb
  map:=by obtain⟨M,h1,h2⟩:=h.map;exact⟨M,eF h1 hb,h2⟩
  Kt:=h.Kt.below hb
  dead:=eq h.dead hb
  blk:=fun d b hd=>⟨aa (h.blk d b hd).1 hb,(h.blk d b hd).2⟩}
theorem Part.drew(h:Part w base g Y D B P i j):Part w.drew base g Y D B P i j:=h.below (fo _ w).drew
theorem Part.qlt(h:Part w base g Y D B P i j){d b:Nat}(c:dn B i j d b):Y.q d b<w.heap.size:=af (h.blk d b c).1
theorem Part.row(h:Part w base g Y D B P i B):Part w base g Y D B P (i+1) 0:=by
 have e:∀d b,dn B i B d b↔dn B (i+1) 0 d b:=fun d b=>by unfold dn;omega
 exact{h with
  nm:=by have:=h.nm;rw[Nat.succ_mul];omega
  has:=fun d b c=>h.has d b ((e d b).2 c)
  only:=fun x l=>by obtain⟨d,b,c,m⟩:=h.only x l;exact⟨d,b,(e d b).1 c,m⟩
  blk:=fun d b c=>h.blk d b ((e d b).2 c)
  PF:=fun d b f k c n=>h.PF d b f k ((e d b).2 c) ((e f k).2 n)}
theorem Part.done(h:Part w base g Y D B P D 0)(ok:3≤D∧D≤6∧8≤B∧B≤16∧2≤P∧P≤8):JU w base g Y (Nd.new D B P):=by
 have e:∀d b,d<D→b<B→dn B D 0 d b:=fun d b l m=> .inl ⟨l,m⟩
 refine⟨Nd.PQ ok,h.head,h.Nv,⟨h.map,fun d b c f=>h.has d b (e d b c f),fun x t=> ?_,h.Kt,h.dead,fun d b c f=> ?_,fun d b c f=> ?_,fun d b n o l m p q=>h.PF d b n o (e d b l m) (e n o p q),fun d b n o l m p q z k r=> ?_,h.apart,h.low.1,h.low.2.1,h.low.2.2,fun d b c f=>(h.blk d b (e d b c f)).2⟩⟩
 · obtain⟨d,b,c,u⟩:=h.only x t
   unfold dn at c;exact⟨d,b,(show d<D by omega),(show b<B by omega),u⟩
 · rw[h.cv];exact(h.blk d b (e d b c f)).1
 · rw[h.cv];exact OwnRows.nil
 · rw[h.cv]at r;simp[Value.ownBlock]at r
theorem po{p:Addr}{v:kb}(h:w.cell? p=some v)(b:jd w.heap.size w w'):w'.cell? p=some v:=(b.cell (World.block_lt_of_cell? _ _ h)).trans h
theorem He{d b c f:Nat}(h:¬(d=c∧b=f)):key (d:Int) (b:Int)≠key (c:Int) (f:Int):=by
 intro e;have e1:((d:Int))=c:=congrArg Ad.d e;have e2:((b:Int))=f:=congrArg Ad.b e;exact h ⟨by omega,by omega⟩
theorem Part.put(h:Part w base g Y D B P i j)(X:i<D)(hj:j<B)(Z:D≤6∧B≤16){k:Nat}(I:w.heap[k]? =some (.cells (Blk.none.v (.slice none 0 0)).toArray 106 (0,0)))(J:base≤k)(z:∀d b,dn B i j d b→Y.q d b<k):
 ∃c,(hX 77 (.map (some Y.mb)) (.agg (key (i:Int) (j:Int)).v.toArray) (.pointer (some ⟨k,0,none⟩))).run eD w=.ok () c∧∃K,Part c base g K D B P i (j+1)∧c.cell? ⟨g,3,none⟩=some (.map (some Y.mb))∧(∀(a:Nat) (n:Array kb) (t:pn) (fr:Nat×Nat),w.heap[a]? =some (Obj.cells n t fr)→c.heap[a]? =some (Obj.cells n t fr))∧jd base w c:=by
 obtain⟨M,C,L⟩:=h.map;have E:(key (i:Int) (j:Int)).wf:=ro (by omega) (by omega);have N:keyOf eD 52 (.agg (key (i:Int) (j:Int)).v.toArray)=some (klA (key (i:Int) (j:Int))):=cy E
 have O:Y.nm+1≤o4:=by
  have p:=h.nm;have h2:i*B≤6*16:=Nat.mul_le_mul (by omega) (by omega);unfold o4;omega
 obtain⟨c,Q,R,m⟩:=C.update (val:=.pointer (some ⟨k,0,none⟩)) dm underlying77 O N (show Ks (.pointer (some ⟨k,0,none⟩))=some (.held (.pointer (some ⟨k,0,none⟩)),[])from rfl);obtain⟨om,r,S⟩:=di C
 have st:∀(a:Nat) (n:Array kb) (t:pn) (fr:Nat×Nat),w.heap[a]? =some (Obj.cells n t fr)→c.heap[a]? =some (Obj.cells n t fr):=fun a n t fr o=>
  (m.block a (af o) fun e=>by
   have e:=ed e;subst e;rw[o]at r;have:=ed r;subst this;simp[Kn]at S).trans o
 obtain⟨G,Dp,T,aa⟩:=h.Kt;obtain⟨op,U,ab⟩:=di T;have p:=st _ _ _ _ h.head;have e1:∀d b,dn B i (j+1) d b↔(dn B i j d b∨(d=i∧b=j)):=fun d b=>by unfold dn;omega
 have e2:∀d b,dn B i j d b→¬(d=i∧b=j):=fun d b hd=>by unfold dn at hd;omega
 have V:jd base w c:=⟨m.os,m.tape,m.output,m.size,fun a o=>m.block a (by have:=(h.low).1;have:=(jm.1 r).1;omega) fun e=>by have:=ed e;have:=h.low.1;omega⟩;refine⟨c,Q,{Y with nm:=Y.nm+1,mf:=Oz Y.mf (key (i:Int) (j:Int)) (.pointer (some ⟨k,0,none⟩)),q:=fun d b=>if d=i∧b=j then k else Y.q d b},?_,by rw[ae p];rfl,st,V⟩;refine⟨p,h.Nv,⟨_,R,L.put E _⟩,by have:=h.nm;simp only;omega,fun d b hd=> ?_,fun x u=> ?_,?_,h.np0,?_,fun d b hd=> ?_,h.cv,fun d b d' b' hd hd' f=> ?_,h.apart,h.low⟩
 · simp only
   by_cases e:d=i∧b=j
   · rw[if_pos e,e.1,e.2]
     exact List.mem_cons_self
   · rw[if_neg e]
     have l:dn B i j d b:=by
      exact ydp
     exact List.mem_cons_of_mem _ (bj.2 ⟨h.has d b l,He e⟩)
 · rcases Cc u with rfl|u
   · exact⟨i,j,(e1 i j).2 (.inr ⟨rfl,rfl⟩),rfl⟩
   · obtain⟨d,b,hd,f⟩:=h.only x u
     exact⟨d,b,(e1 d b).2 (.inl hd),f⟩
 · refine io h.Kt ((st _ _ _ _ G).trans G.symm) ?_
   refine m.block _ (jm.1 U).1 fun e=> ?_;exact h.apart (ed e).symm
 · exact dh h.dead fun a o=>by obtain⟨ad,H,-⟩:=aU h.dead o;exact(st _ _ _ _ H).trans H.symm
 · simp only
   by_cases e:d=i∧b=j
   · rw[if_pos e];exact⟨st _ _ _ _ I,J⟩
   · rw[if_neg e]
     have l:dn B i j d b:=by
      exact ydp
     exact⟨st _ _ _ _ (h.blk d b l).1,(h.blk d b l).2⟩
 · simp only at f
   by_cases e:d=i∧b=j
   · rw[if_pos e]at f
     by_cases e':d'=i∧b'=j
     · exact⟨e.1.trans e'.1.symm,e.2.trans e'.2.symm⟩
     · rw[if_neg e']at f
       have l:dn B i j d' b':=by
        exact yeu
       have:=z d' b' l;omega
   · rw[if_neg e]at f
     have l:dn B i j d b:=by
      exact ydp
     by_cases e':d'=i∧b'=j
     · rw[if_pos e']at f
       have:=z d b l;omega
     · rw[if_neg e']at f
       have W:dn B i j d' b':=by
        exact yeu
       exact h.PF d b d' b' l W f
end
theorem CI{w:fj}{k D B P:Nat}{t:pn}{fr:Nat×Nat}(h:w.heap[k]? =some (.cells ([.int .i64 (D:Int),.int .i64 (B:Int),.int .i64 (P:Int)]).toArray t fr)):w.cell? ⟨k,0,none⟩=some (.int .i64 (D:Int)):=by rw[ae h];rfl
theorem Hq{w:fj}{k D B P:Nat}{t:pn}{fr:Nat×Nat}(h:w.heap[k]? =some (.cells ([.int .i64 (D:Int),.int .i64 (B:Int),.int .i64 (P:Int)]).toArray t fr)):w.cell? ⟨k,1,none⟩=some (.int .i64 (B:Int)):=by rw[ae h];rfl
theorem mR(w:fj)(D B P:Nat)(ok:3≤D∧D≤6∧8≤B∧B≤16∧2≤P∧P≤8):
 ps eD 29 #[.agg ([.int .i64 (D:Int),.int .i64 (B:Int),.int .i64 (P:Int)]).toArray] w fun e w'=>∃g,e=.returned (.pointer (some ⟨g,0,none⟩))∧JS w' w.heap.size g 0 (Nd.new D B P)∧jd w.heap.size w w':=by
 have ao:=aC w (.cells ([.int .i64 (D:Int),.int .i64 (B:Int),.int .i64 (P:Int)]).toArray 23);have ha:=heap_alloc_new w (.cells ([.int .i64 (D:Int),.int .i64 (B:Int),.int .i64 (P:Int)]).toArray 23);have aq:Oc (D:Int) (B:Int) (P:Int)=true:=by simp[Oc,wiB];omega
 have U:=dW (D:Int) (B:Int) (P:Int);rw[aq]at U;have ar:(w.alloc (.cells ([.int .i64 (D:Int),.int .i64 (B:Int),.int .i64 (P:Int)]).toArray 23)).rangeAt w.heap.size 0 [.int .i64 (D:Int),.int .i64 (B:Int),.int .i64 (P:Int)]:=ai ha;have au:=qZ U;have av:=qZ ha;have V:=qZ ao;have I:=qZ ok;clear ha ao aq U;go_enter func29, ntmps29;go_wp2_with (first|(refine l8 rfl 23 (.tmp 1) rfl w.heap.size 0 rfl [.int .i64 (D:Int),.int .i64 (B:Int),.int .i64 (P:Int)] _ ar qc rfl cN ?_));refine(au _).mono ?_;rintro e ws ⟨rfl,f⟩;have HG:=qZ (aa av f);have HB:=qZ (V.trans (f.mono V.size));have HD:=qZ (show D≤6 by have:=I.out;omega);have aD:=qZ (run_make_row' (P:= eD) 79 4 (.bool false) 1 underlying79 (by kernel_rfl) rfl .i64 .i64 D (by have:=I.out;omega) (by have:=I.out;omega));clear ar f av V au;go_upto_region 3 with fail
 refine dq (by kernel_rfl) (by kernel_rfl) (X:=(Nat×Nat×Nat×Nat)×kb×kb) (fun y=> [(some 9,.agg ([.int .i64 (D:Int),.int .i64 (B:Int),.int .i64 (P:Int)]).toArray),(some 10,.map (some y.1.1)),(some 11,.pointer (some ⟨y.1.2.1+1,0,none⟩)),(some 12,.pointer (some ⟨w.heap.size,0,none⟩)),(some 13,.int .i64 (D:Int)),(some 14,.slice (some ⟨y.1.2.2.1,0,none⟩) D D),(some 15,y.2.1),(some 16,.pointer (some ⟨y.1.2.2.2,0,none⟩)),(some 3,y.2.2)])
  (fun y L w'=>w'.heap[w.heap.size]? =some (.cells ([.int .i64 (D:Int),.int .i64 (B:Int),.int .i64 (P:Int)]).toArray 23 (0,0))∧(L 1=true→w'.ownsMap eD 52 Ks y.1.1 0 (.map [])∧w.heap.size≤y.1.1)∧(L 2=true→LY w' 168 (y.1.2.1+1) y.1.2.1 0 []∧w.heap.size≤y.1.2.1)∧(L 1=true→L 2=true→y.1.1≠y.1.2.1)∧(L 5=true→w'.ownsRow w.heap.size 4 1 (.slice (some ⟨y.1.2.2.1,0,none⟩) D D) D ((jg D false).map .bool))∧(L 6=true→(L 1=true∧L 2=true∧L 5=true)∧y.2.1=.agg ((Nd.new D B P).top (Qj D y.1.1 y.1.2.1 y.1.2.2.1)).toArray)∧(L 7=true→L 6=true∧w'.heap[y.1.2.2.2]? =some (.cells ((Nd.new D B P).top (Qj D y.1.1 y.1.2.1 y.1.2.2.1)).toArray 81 (0,0))∧w.heap.size≤y.1.2.2.2∧y.1.2.1≤y.1.2.2.2∧y.1.1≤y.1.2.2.2)∧(L 8=true→L 7=true∧y.2.2=.pointer (some ⟨y.1.2.2.2,0,none⟩))∧jd w.heap.size w w') (fun _=>rfl) (by kernel_rfl) ⟨((0,0,0,0),undef,undef),fun L hL=>⟨HG,(by rw[hL 1];intro h;cases h),(by rw[hL 2];intro h;cases h),(by rw[hL 1];intro h;cases h),(by rw[hL 5];intro h;cases h),(by rw[hL 6];intro h;cases h),(by rw[hL 7];intro h;cases h),(by rw[hL 8];intro h;cases h),HB.drew⟩⟩ ?_ ?_
 · refine⟨?_,?_,?_,?_,?_,?_,?_,?_,?_,trivial⟩
   all_goals
    intro y L w' hL hpre hJ a ha;try simp[Region.binds]at hpre
   · obtain⟨j,r,q,u,k,j6,j7,j8,l⟩:=hJ
     refine Wn ?_;exact wp_load_mid 23 (.tmp 1) rfl w.heap.size 0 I1 ([.int .i64 (D:Int),.int .i64 (B:Int),.int .i64 (P:Int)]) _ (ai j) qc rfl cN ⟨y,_,rfl,rfl,j,r,q,u,k,j6,j7,j8,l⟩
   · obtain⟨j,r,q,u,k,j6,j7,j8,l⟩:=hJ
     refine Wn ?_;have jg':=qZ j;have jm':=qZ r;have js':=qZ q;have jx':=qZ u;have jd':=qZ k;have j6':=qZ j6;have j7':=qZ j7;have j8':=qZ j8;have jb':=qZ l;clear ha j r q u k j6 j7 j8 l;refine aP fun K HK=> ?_;unfold Oper.wp;simp only[px];go_simp;have f:=aC w' (.map #[] 0);exact HK _ _ ⟨((w'.heap.size,y.1.2),y.2),_,rfl,rfl,aa jg'.out f,fun _=>⟨js w' _ _ _,jb'.out.size⟩,fun h=>⟨(js'.out h).1.below f,(js'.out h).2⟩,fun _ h e=>absurd (js'.out h).1.lt.2 (by have e:w'.heap.size=y.1.2.1:=e;omega),fun h=>eq (jd'.out h) f,fun h=>absurd ((j6'.out h).1.1) (by simp[hL]),fun h=>absurd ((j6'.out (j7'.out h).1).1.1) (by simp[hL]),fun h=>absurd ((j6'.out (j7'.out (j8'.out h).1).1).1.1) (by simp[hL]),jb'.out.trans (f.mono jb'.out.size)⟩
   · obtain⟨j,r,q,u,k,j6,j7,j8,l⟩:=hJ
     refine Wn ?_;have jg':=qZ j;have jm':=qZ r;have js':=qZ q;have jx':=qZ u;have jd':=qZ k;have j6':=qZ j6;have j7':=qZ j7;have j8':=qZ j8;have jb':=qZ l;clear ha j r q u k j6 j7 j8 l;refine aP fun K HK=> ?_;unfold Oper.wp;simp only[px,resolve,List.map_toArray,List.map_nil];go_simp;refine(spotBool.new w').mono ?_;rintro e aE ⟨rfl,hS,f⟩;exact HK _ _ ⟨((y.1.1,w'.heap.size,y.1.2.2),y.2),_,rfl,rfl,aa jg'.out f,fun h=>⟨eF (jm'.out h).1 f,(jm'.out h).2⟩,fun _=>⟨hS,jb'.out.size⟩,fun h _ e=>absurd (jm'.out h).1.lt (by have e:y.1.1=w'.heap.size:=e;omega),fun h=>eq (jd'.out h) f,fun h=>absurd ((j6'.out h).1.2.1) (by simp[hL]),fun h=>absurd ((j6'.out (j7'.out h).1).1.2.1) (by simp[hL]),fun h=>absurd ((j6'.out (j7'.out (j8'.out h).1).1).1.2.1) (by simp[hL]),jb'.out.trans (f.mono jb'.out.size)⟩
   · obtain⟨j,r,q,u,k,j6,j7,j8,l⟩:=hJ
     refine Wn ?_;have e1:a.eval (.tmp 1)=.pointer (some ⟨w.heap.size,0,none⟩):=I1;clear ha;have jg':=qZ j;have jm':=qZ r;have js':=qZ q;have jx':=qZ u;have jd':=qZ k;have j6':=qZ j6;have j7':=qZ j7;have j8':=qZ j8;have jb':=qZ l;clear j r q u k j6 j7 j8 l;refine aP fun K HK=> ?_;unfold Oper.wp;simp only[px,e1];exact yel
   · obtain⟨j,r,q,u,k,j6,j7,j8,l⟩:=hJ
     refine Wn ?_;have aF:=aZ 3;clear ha;have cc:=CI j;have jg':=qZ j;have jm':=qZ r;have js':=qZ q;have jx':=qZ u;have jd':=qZ k;have j6':=qZ j6;have j7':=qZ j7;have j8':=qZ j8;have jb':=qZ l;clear j r q u k j6 j7 j8 l;refine aP fun K HK=> ?_;unfold Oper.wp;simp only[px,aF];exact yel
   · obtain⟨j,r,q,u,k,j6,j7,j8,l⟩:=hJ
     refine Wn ?_;have aG:=aZ 4;have jg':=qZ j;have jm':=qZ r;have js':=qZ q;have jx':=qZ u;have jd':=qZ k;have j6':=qZ j6;have j7':=qZ j7;have j8':=qZ j8;have jb':=qZ l;clear ha j r q u k j6 j7 j8 l;have a1:=aD.out w';refine aP fun K HK=> ?_;unfold Oper.wp;simp only[px,aG];go_simp;have f:=aC w' (.cells (l4 #[.bool false] D) 4);exact HK _ _ ⟨((y.1.1,y.1.2.1,w'.heap.size,y.1.2.2.2),y.2),_,rfl,rfl,aa jg'.out f,fun h=>⟨eF (jm'.out h).1 f,(jm'.out h).2⟩,fun h=>⟨(js'.out h).1.below f,(js'.out h).2⟩,jx'.out,fun _=>BI w' jb'.out.size HD,fun h=>absurd ((j6'.out h).1.2.2) (by simp[hL]),fun h=>absurd ((j6'.out (j7'.out h).1).1.2.2) (by simp[hL]),fun h=>absurd ((j6'.out (j7'.out (j8'.out h).1).1).1.2.2) (by simp[hL]),jb'.out.trans (f.mono jb'.out.size)⟩
   · obtain⟨j,r,q,u,k,j6,j7,j8,l⟩:=hJ
     refine Wn ?_;have e9:=aZ 0;have aH:=aZ 1;have aI:=aZ 2;have aJ:=aZ 5;exact ba 81 _ rfl _ (show [(0,a.eval (.tmp 9)),(1,a.eval (.tmp 10)),(2,a.eval (.tmp 11)),(3,a.eval (.tmp 14))]=_ by rw[e9,aH,aI,aJ]) _ (wI D B P y.1.1 y.1.2.1 y.1.2.2.1) ⟨(y.1,.agg ((Nd.new D B P).top (Qj D y.1.1 y.1.2.1 y.1.2.2.1)).toArray,y.2.2),_,rfl,rfl,j,r,q,u,k,fun _=>⟨show L 1=true∧L 2=true∧L 5=true from by simp[hpre],rfl⟩,fun h=>absurd (j7 h).1 (by simp[hL]),fun h=>absurd (j7 (j8 h).1).1 (by simp[hL]),l⟩
   · obtain⟨j,r,q,u,k,j6,j7,j8,l⟩:=hJ
     refine Wn ?_;have aw:=aZ 6;have O:L 6=true:=by simp[hpre]
     rw[(j6 O).2]at aw;have jg':=qZ j;have jm':=qZ r;have js':=qZ q;have jx':=qZ u;have jd':=qZ k;have j6':=qZ j6;have j7':=qZ j7;have j8':=qZ j8;have jb':=qZ l;clear ha j r q u k j6 j7 j8 l;refine aP fun K HK=> ?_;unfold Oper.wp;simp only[px,aw];go_simp;have f:=aC w' (.cells ((Nd.new D B P).top (Qj D y.1.1 y.1.2.1 y.1.2.2.1)).toArray 81);exact HK _ _ ⟨((y.1.1,y.1.2.1,y.1.2.2.1,w'.heap.size),y.2),_,rfl,rfl,aa jg'.out f,fun h=>⟨eF (jm'.out h).1 f,(jm'.out h).2⟩,fun h=>⟨(js'.out h).1.below f,(js'.out h).2⟩,jx'.out,fun h=>eq (jd'.out h) f,j6'.out,fun _=>⟨O,aj _ _ _ rfl,jb'.out.size,r2 (js'.out (j6'.out O).1.2.1).1.lt.2,r2 (jm'.out (j6'.out O).1.1).1.lt⟩,fun h=>absurd (j8'.out h).1 (by simp[hL]),jb'.out.trans (f.mono jb'.out.size)⟩
   · obtain⟨j,r,q,u,k,j6,j7,j8,l⟩:=hJ
     refine Wn ?_;have aK:=aZ 7;have h7:L 7=true:=by simp[hpre]
     exact cZ (.tmp 16) (.inr rfl) (.pointer (some ⟨y.1.2.2.2,0,none⟩)) aK ⟨(y.1,y.2.1,.pointer (some ⟨y.1.2.2.2,0,none⟩)),_,rfl,rfl,j,r,q,u,k,j6,j7,fun _=>⟨h7,rfl⟩,l⟩
 · intro y L w' hL hJ
   obtain⟨j,r,q,u,k,j6,j7,j8,l⟩:=hJ;have R:=r (hL 1 (by decide));have M:=q (hL 2 (by decide));have W:=u (hL 1 (by decide)) (hL 2 (by decide));have Z:=k (hL 5 (by decide));have S:=(j7 (hL 7 (by decide))).2;have ax:=(j8 (hL 8 (by decide))).2;clear hL r q u k j6 j7 j8;simp only[nr,py];rw[ax];clear ax;obtain⟨⟨mb,bp,ay,g⟩,a2,v3⟩:=y;simp only at R M W Z S⊢;go_simp
   have z:Part w' w.heap.size g (Qj D mb bp ay) D B P 0 0:=by
    have ab:∀d b,¬dn B 0 0 d b:=fun d b hd=>by unfold dn at hd;omega
    exact⟨S.1,S.2,⟨_,R.1,Rel.nil⟩,l5 _,fun d b hd=>absurd hd (ab d b),(fun x hx=>by cases hx),M.1,rfl,Z,fun d b hd=>absurd hd (ab d b),fun _ _=>rfl,fun d b d' b' hd=>absurd hd (ab d b),W,R.2,Nat.le_succ_of_le M.2,M.2⟩
   have aL:=qZ z;have aM:=qZ j;have aN:=qZ l;have cd:=CI j;clear R M W Z S z j l;generalize Qj D mb bp ay=Y0 at*;go_wp2_with fail;go_loopw [4,19] (fun _ i wr=>∃(n:Nat) (Y:Lay),n≤D∧i=.int .i64 n∧Part wr w.heap.size g Y D B P n 0∧wr.heap[w.heap.size]? =some (.cells ([.int .i64 (D:Int),.int .i64 (B:Int),.int .i64 (P:Int)]).toArray 23 (0,0))∧jd w.heap.size w wr) (fun _ i _=>D-(pz i).toNat)
   case atStart=>exact⟨0,Y0,l5 _,rfl,aL,aM,aN⟩
   case round=>
    clear cd;obtain⟨n,Y1,hn,rfl,z,E,f⟩:=hrel;by_cases aO:n<D
    · have a3:(n:Int)<(D:Int):=by omega
      have cb:=Hq E;have aQ:=qZ z;have aR:=qZ E;have aS:=qZ f;clear z E f;go_wp2_with fail;clear cb;go_loopw [5,24] (fun _ ad wx=>∃(m:Nat) (Y:Lay),m≤B∧ad=.int .i64 m∧Part wx w.heap.size g Y D B P n m∧wx.heap[w.heap.size]? =some (.cells ([.int .i64 (D:Int),.int .i64 (B:Int),.int .i64 (P:Int)]).toArray 23 (0,0))∧jd w.heap.size w wx) (fun _ ad _=>B-(pz ad).toNat)
      case atStart=>exact⟨0,Y1,l5 _,rfl,aQ,aR,aS⟩
      case round=>
       obtain⟨m,Y,hm,rfl,z,E,f⟩:=hrel;by_cases aT:m<B
       · have a4:(m:Int)<(B:Int):=by omega
         have az:=qZ z;have aU:=qZ E;have aV:=qZ f;have aW:=qZ f.size;have aX:=qZ (show wr.cell? ⟨g,3,none⟩=some (.map (some Y.mb)) by rw[ae z.head];rfl);have aA:=qZ (ej aO aT);have aY:=qZ (show D≤6∧B≤16 by have:=I.out;omega);clear z E f;go_upto_region 10 with fail
         refine dz (X:=Nat) (fun y=> [(some 27,g),(some 28,g),(some 29,.pointer (some ⟨g,3,none⟩)),(some 30,.map (some Y.mb)),(some 31,(n:Int)),(some 32,(m:Int)),(some 33,.agg (key (n:Int) (m:Int)).v.toArray),(some 34,.agg (Blk.none.v (.slice none 0 0)).toArray),(some 35,y),(none,undef)])
          (fun y L w'=>w'.heap[w.heap.size]? =some (.cells ([.int .i64 (D:Int),.int .i64 (B:Int),.int .i64 (P:Int)]).toArray 23 (0,0))∧w'.cell? ⟨g,3,none⟩=some (.map (some Y.mb))∧(L 9=false→Part w' w.heap.size g Y D B P n m)∧(L 8=true→w'.heap[y]? =some (.cells (Blk.none.v (.slice none 0 0)).toArray 106 (0,0))∧wr.heap.size≤y)∧(L 9=true→∃G,Part w' w.heap.size g G D B P n (m+1))∧wr.heap.size≤w'.heap.size∧jd w.heap.size w w') ⟨0,fun L hL=>⟨aU,aX,(fun _=>az.drew),(by rw[hL 8];intro h;cases h),(by rw[hL 9];intro h;cases h),(jt _),aV.drew⟩⟩ ?_ ?_
         · refine⟨rr,rr,rr,?_,rr,rr,?_,?_,?_,?_,trivial⟩
           all_goals
            intro ux L w' hL hpre hJ a ha he;try simp[Region.binds]at hpre
           · exact yfg
           · refine dM ?_
             intro K HK;refine(fY (n:Int) (m:Int) w').mono ?_;rintro e aE ⟨rfl,f⟩;exact HK _ _ ⟨ux,_,rfl,rfl,aa hJ.out.1 f,po hJ.out.2.1 f,fun h=>(hJ.out.2.2.1 h).below f,fun h=>⟨aa (hJ.out.2.2.2.1 h).1 f,(hJ.out.2.2.2.1 h).2⟩,fun h=>(hJ.out.2.2.2.2.1 h).elim fun G af=>⟨G,af.below f⟩,jw hJ.out.2.2.2.2.2.1 f.size,hJ.out.2.2.2.2.2.2.trans (f.mono hJ.out.2.2.2.2.2.2.size)⟩
           · obtain⟨j,jc,jp,j8,k,q,l⟩:=hJ.out
             refine Wn ?_;exact ba 106 _ rfl _ rfl _ uA ⟨ux,_,rfl,rfl,j,jc,jp,j8,k,q,l⟩
           · refine dM ?_
             intro K HK;have f:=aC w' (.cells (Blk.none.v (.slice none 0 0)).toArray 106);exact HK _ _ ⟨w'.heap.size,_,rfl,rfl,aa hJ.out.1 f,po hJ.out.2.1 f,fun h=>(hJ.out.2.2.1 h).below f,fun _=>⟨aj _ _ _ rfl,hJ.out.2.2.2.2.2.1⟩,fun h=>(hJ.out.2.2.2.2.1 h).elim fun G af=>⟨G,af.below f⟩,jw hJ.out.2.2.2.2.2.1 f.size,hJ.out.2.2.2.2.2.2.trans (f.mono hJ.out.2.2.2.2.2.2.size)⟩
           · have h8:L 8=true:=by simp[hpre]
             obtain⟨k8,T⟩:=hJ.out.2.2.2.1 h8;obtain⟨w2,a5,G,N,aB,ag,ah⟩:=(hJ.out.2.2.1 hL).put aA.1 aA.2 aY k8 (jw aW T) (fun d b hd=>Nat.lt_of_lt_of_le (az.qlt hd) T);have H:=qZ (ej N (ej aB (ej (ag _ _ _ _ k8) (ej (ag _ _ _ _ hJ.out.1) (ej (hJ.out.2.2.2.2.2.2.trans ah) (ej T (jw hJ.out.2.2.2.2.2.1 ah.size)))))));clear N aB ah ag k8 T;refine dM ?_;intro K HK;exact HK _ _ ⟨ux,_,rfl,rfl,H.2.2.2.1,H.2.1,(fun h=>by simp[JW]at h),fun _=>⟨H.2.2.1,H.2.2.2.2.2.1⟩,fun _=>⟨G,H.1⟩,H.2.2.2.2.2.2,H.2.2.2.2.1⟩
         · intro y L w' hL hJ
           obtain⟨j,jc,jp,j8,k,q,l⟩:=hJ;obtain⟨G,N⟩:=k (hL 9 (by decide));clear hL jc jp j8 k q;simp only[nr,py];go_simp;have ak:=qZ N;have al:=qZ j;have an:=qZ l;clear N j l;go_wp2_with fail;go_roundw
           case rel=>exact⟨m+1,G,by omega,by go_num,ak,al,an⟩
           case measure=>simp[pz];omega
       · obtain rfl:m=B:=by omega
         have ak:=qZ z.row;have al:=qZ E;have an:=qZ f;clear z E f;go_wp2_with fail;go_roundw
         case rel=>exact⟨n+1,Y,by omega,by go_num,ak,al,an⟩
         case measure=>simp[pz];omega
    · obtain rfl:n=D:=by omega
      have HZ:=qZ (ej z f);clear z E f;go_wp2_with fail;go_ret;exact⟨g,rfl,⟨Y1,by rw[HZ.out.1.np0];exact jt _,HZ.1.done I⟩,HZ.2⟩
end JT
theorem yew{A:Prop}(h:A:=by
 obtain⟨D,c,h1,h2,h3⟩:=h.cnt;have:=qk h1 h2 hb underlying152 (rT w) false;rw[this,h3];rfl):A:=h
theorem yfe{A:Prop}(h:A:=by
 obtain⟨D,h1,-⟩:=h.at_;obtain⟨D2,c,h2,-⟩:=h.cnt;exact⟨af h.head,h1.lt,h2.lt⟩):A:=h
namespace tab
open JT (Kn cB aC)
structure At6 where
 (b r s m q o:Int)
def At6.v(a:At6):List kb:=[.int .i64 a.b,.int .i64 a.r,.int .i64 a.s,.int .i64 a.m,.int .i64 a.q,.int .i64 a.o]
def At6.zero:At6:=⟨0,0,0,0,0,0⟩
abbrev Mg:=List (Int×At6)
def MR(f:Mg):List (Int×kb):=f.map fun p=>(p.1,.agg p.2.v.toArray)
def Kh(f:Mg)(k:Int):Option At6:=(f.find? fun p=>decide (p.1=k)).map (·.2)
def MQ(f:Mg)(k:Int):Mg:=f.filter fun p=>decide (p.1≠k)
def M3(f:Mg)(k:Int)(a:At6):Mg:=(k,a)::MQ f k
def Kw(f:Mg)(b:Int):Nat:=(f.filter fun p=>decide (p.2.b=b)).length
structure Tb where
 logical:Nat
 f:Mg
 next:Int
structure Tb.ok (T:Tb):Prop where
 log:T.logical≤65536
 keys:∀p∈T.f,0≤p.1∧p.1<(T.logical:Int)
 nodup:(T.f.map (·.1)).Nodup
 bwf:∀p∈T.f,wfI p.2.b
theorem sB(f:Mg):(MR f).map (·.1)=f.map (·.1):=by simp[MR]
theorem zj(f:Mg)(k:Int)(z:kb):Nt (MR f) k z=(match Kh f k with|some a=> .agg a.v.toArray|none=>z):=by
 unfold Nt Kh MR;rw[List.find?_map];simp only[Function.comp_def];cases f.find? (fun p=>decide (p.1=k))<;>rfl
theorem CE(f:Mg)(k:Int):Pf (MR f) k=(Kh f k).isSome:=by
 unfold Pf Kh;rw[sB,Bool.eq_iff_iff];simp
theorem Bu(f:Mg)(k:Int)(a:At6):Ql (MR f) k (.agg a.v.toArray)=MR (M3 f k a):=by
 unfold Ql M3 OU MQ MR;rw[hO,List.filter_map];rfl
theorem xT{f:Mg}{k:Int}{a:At6}(h:Kh f k=some a):(k,a)∈f:=by
 unfold Kh at h;obtain⟨p,b,rfl⟩:=Option.map_eq_some_iff.1 h;have e:=List.mem_of_find?_eq_some b;have c:=List.find?_some b;simp at c;rw[←c];exact e
theorem vR:∀{f:Mg} {k:Int} {a:At6},(f.map (·.1)).Nodup→(k,a)∈f→Kh f k=some a
 |[],_,_,_,h=>by simp at h
 |p::f,k,a,b,h=>by
  rw[hO,hZ]at b;rcases kk.1 h with e|h
  · rw[←e];simp[Kh]
  · have:p.1≠k:=fun e=>b.1 (by rw[e];exact lx.2 ⟨(k,a),h,rfl⟩)
    have c:=vR b.2 h;unfold Kh at c⊢;rw[gg (by simpa using this)];exact c
theorem tZ{f:Mg}{k:Int}(h:Kh f k=none):∀a,(k,a)∉f:=by
 intro a b;unfold Kh at h;rw[Option.map_eq_none_iff,kr]at h;have:=h _ b;simp at this
theorem ot{f:Mg}{k:Int}{p:Int×At6}:p∈MQ f k↔p∈f∧p.1≠k:=by simp[MQ]
theorem Ft(f:Mg)(k:Int)(a:At6):Kh (M3 f k a) k=some a:=by simp[Kh,M3]
theorem DS{f:Mg}{k j:Int}(h:j≠k)(a:At6):Kh (M3 f k a) j=Kh f j:=by
 unfold Kh M3;rw[gg (by simpa using fun e=>h e.symm)];unfold MQ;rw[List.find?_filter];congr 2;funext p;by_cases e:p.1=j
 · simp[e,h]
 · simp[e]
theorem rD{f:Mg}{k:Int}(h:Kh f k=none):MQ f k=f:=by
 unfold MQ;refine iP.2 fun p b=> ?_;simp;intro e;exact tZ h p.2 (by rw[←e];exact b)
theorem kH:∀{f:Mg} {k:Int} {a:At6},(f.map (·.1)).Nodup→Kh f k=some a→∀b,Kw (MQ f k) b+(if a.b=b then 1 else 0)=Kw f b
 |[],_,_,_,h,_=>by simp[Kh]at h
 |p::f,k,a,g,h,b=>by
  rw[hO,hZ]at g;by_cases e:p.1=k
  · have i:p.2=a:=by
     unfold Kh at h;rw[jI (by simpa using e)]at h;simpa using h
    have j:MQ (p::f) k=f:=by
     unfold MQ;rw[List.filter_cons_of_neg (by simpa using e)];refine iP.2 fun q m=> ?_;simp;intro e2;exact g.1 (by rw[e,←e2];exact lx.2 ⟨q,m,rfl⟩)
    rw[j];unfold Kw;rw[eX,i];by_cases c:a.b=b<;>simp[c]
  · have i:Kh f k=some a:=by
     unfold Kh at h⊢;rwa [gg (by simpa using e)]at h
    have l:=kH g.2 i b;have j:MQ (p::f) k=p::MQ f k:=by unfold MQ;rw[List.filter_cons_of_pos (by simpa using e)]
    rw[j];unfold Kw at l⊢;rw[eX,eX];by_cases c:p.2.b=b
    · simp[c]at l⊢;omega
    · simp[c]at l⊢;omega
theorem FN(f:Mg)(k:Int)(a:At6)(b:Int):Kw (M3 f k a) b=Kw (MQ f k) b+(if a.b=b then 1 else 0):=by
 unfold Kw M3;rw[eX];by_cases c:a.b=b<;>simp[c]
def LS(g b c k:Nat):Prop:=k=g∨k=b∨k=c
structure JZ (w:fj) (g mb cb n:Nat) (T:Tb):Prop where
 ok:T.ok
 head:w.heap[g]? =some (.cells #[(T.logical:Int),.map (some mb),.map (some cb),T.next] 154 (0,0))
 at_:∃D,w.ownsMap eD 3 Ks mb n D∧NP D (MR T.f)
 cnt:∃D c,w.ownsMap eD 3 Ks cb n D∧NP D c∧∀b,Nt c b (.int .i64 0)=.int .i64 (Kw T.f b:Int)
 ne:mb≠cb
theorem cX{w c:fj}{b n:Nat}{D:DataW kb}(h:w.ownsMap eD 3 Ks b n D)(e:c.heap[b]? =w.heap[b]?):c.ownsMap eD 3 Ks b n D:=by
 obtain⟨f,clock,g,i⟩:=h;exact⟨f,clock,e.trans g,i⟩
theorem dY{w:fj}{b n g:Nat}{D:DataW kb}{f:Array kb}{t:pn}{fr:Nat×Nat}(h:w.ownsMap eD 3 Ks b n D)(c:w.heap[g]? =some (.cells f t fr)):g≠b:=by
 obtain⟨j,clock,i,-⟩:=h;intro e;rw[e,i]at c;cases c
section
variable {w w':fj}{g mb cb n:Nat}{T:Tb}
theorem JZ.lt(h:JZ w g mb cb n T):g<w.heap.size∧mb<w.heap.size∧cb<w.heap.size:=by
 exact yfe
theorem JZ.same(h:JZ w g mb cb n T)(b:∀k,LS g mb cb k→w'.heap[k]? =w.heap[k]?):JZ w' g mb cb n T:=
 ⟨h.ok,(b g (.inl rfl)).trans h.head,by obtain⟨D,e,f⟩:=h.at_;exact⟨D,cX e (b _ (.inr (.inl rfl))),f⟩,by obtain⟨D,c,e,f⟩:=h.cnt;exact⟨D,c,cX e (b _ (.inr (.inr rfl))),f⟩,h.ne⟩
theorem JZ.below(h:JZ w g mb cb n T)(hb:jd w.heap.size w w'):JZ w' g mb cb n T:=h.same fun k hk=>hb.block k (by have:=h.lt;rcases hk with rfl|rfl|rfl<;>omega)
theorem JZ.keep{S:Nat→Prop}(h:JZ w g mb cb n T)(c:Kj S w w')(e:∀k,LS g mb cb k→¬S k):JZ w' g mb cb n T:=h.same fun k b=>c.block k (by have:=h.lt;rcases b with rfl|rfl|rfl<;>omega) (e k b)
theorem JZ.drew(h:JZ w g mb cb n T):JZ w.drew g mb cb n T:=h.below (fo _ w).drew
theorem JZ.drewN(h:JZ w g mb cb n T)(k:Nat):JZ (w.drewN k) g mb cb n T:=h.below (aF (fo _ w) k)
theorem JZ.mono(h:JZ w g mb cb n T){f:Nat}(i:n≤f):JZ w g mb cb f T:=
 ⟨h.ok,h.head,by obtain⟨D,b,e⟩:=h.at_;exact⟨D,b.mono i,e⟩,by obtain⟨D,c,b,e⟩:=h.cnt;exact⟨D,c,b.mono i,e⟩,h.ne⟩
theorem JZ.c0(h:JZ w g mb cb n T):w.cell? ⟨g,0,none⟩=some (.int .i64 (T.logical:Int)):=by rw[ae h.head];rfl
theorem JZ.c1(h:JZ w g mb cb n T):w.cell? ⟨g,1,none⟩=some (.map (some mb)):=by rw[ae h.head];rfl
theorem JZ.c2(h:JZ w g mb cb n T):w.cell? ⟨g,2,none⟩=some (.map (some cb)):=by rw[ae h.head];rfl
theorem JZ.c3(h:JZ w g mb cb n T):w.cell? ⟨g,3,none⟩=some (.int .i64 T.next):=by rw[ae h.head];rfl
end
theorem qW: eD.underlying 84 =some (.pointer (eD.pointee 84)):=by kernel_rfl
theorem JY(x:Addr)(w:fj):(binOp .eql 84 (.pointer (some x)) (.pointer none)).run eD w=.ok (.bool false) w:=run_eql_pointer_nil w 84 (some x) qW
theorem DX(w:fj):(qa 96).run eD w=.ok (.agg At6.zero.v.toArray) w:=by kernel_rfl
theorem rT(w:fj):(qa 3).run eD w=.ok (.int .i64 0) w:=by kernel_rfl
def At6.of:Option At6→At6
 |some a=>a
 |none=> .zero
section
variable {w:fj}{g mb cb n:Nat}{T:Tb}
theorem JZ.PH(h:JZ w g mb cb n T){k:Int}(b:wfI k):(ek 151 (.map (some mb)) (.int .i64 k) true).run eD w=.ok (.tuple #[.agg (At6.of (Kh T.f k)).v.toArray,.bool (Kh T.f k).isSome]) w:=by
 obtain⟨D,c,e⟩:=h.at_;have:=qk c e b kn (DX w) true;rw[this,zj,CE];cases Kh T.f k<;>rfl
theorem JZ.QZ(h:JZ w g mb cb n T){b:Int}(hb:wfI b):(ek 152 (.map (some cb)) (.int .i64 b) false).run eD w=.ok (.int .i64 (Kw T.f b:Int)) w:=by
 exact yew
theorem cE(h:JZ w g mb cb n T)(b:Int)(f:wfI b):ps eD 114 #[g,b] w fun e i=>e=.returned (.int .i64 (Kw T.f b:Int))∧w=i:=by
 have j:=JY;have c:=h.c2;have k:=h.QZ f;clear h;go_enter func114, ntmps114;exact nj
theorem rh(h:JZ w g mb cb n T):ps eD 259 #[g] w fun e i=>e=.returned (.int .i64 (T.f.length:Int))∧w=i:=by
 have l:=JY;have c:=h.c1;obtain⟨D,b,f⟩:=h.at_;have j:=fun k=>b.len kn k
 rw[f.size,show(MR T.f).length=T.f.length by simp[MR]]at j;clear h b f;go_enter func259, ntmps259;exact nj
theorem t8(h:JZ w g mb cb n T):ps eD 275 #[g] w fun e b=>e=.returned T.next∧w=b:=by
 have f:=JY;have c:=h.c3;clear h;go_enter func275, ntmps275;exact nj
end
end tab
theorem yfn{A:Prop}(h:A:=by
 rw[List.range_succ,List.filter_append];congr 1;simp only[List.filter_cons,List.filter_nil]):A:=h
namespace tab
open JT (Kn cB aC)
theorem jG:(eD.info? 96).map (·.size)=some 6:=by kernel_rfl
theorem nZ(a:At6):∀u∈a.v,u.oneCell'=true:=by
 intro u b;simp[At6.v]at b;rcases b with rfl|rfl|rfl|rfl|rfl|rfl<;>rfl
section
variable {w:fj}{g mb cb n:Nat}{T:Tb}
theorem Fy(h:JZ w g mb cb n T)(k:Int)(t:wfI k):ps eD 50 #[.pointer (some ⟨g,0,none⟩),.int .i64 k] w fun e u=>e=.returned (.tuple #[.agg (At6.of (Kh T.f k)).v.toArray,.bool (Kh T.f k).isSome])∧jd w.heap.size w u:=by
 have J:=JY;have j:=aC w (.cells At6.zero.v.toArray 96);have b:=h.below j;have z:=b.PH t;have c:=b.c1;have q:=aj w (.cells At6.zero.v.toArray 96) _ rfl;have K:=b.lt;generalize At6.of (Kh T.f k)=a at*;generalize (Kh T.f k).isSome=s at*;have l:=qZ j;have m:=qZ q;clear h b j q;go_enter func50, ntmps50;go_upto_region 3 with fail
 change Code.wp _ _ _ _ (w.alloc (.cells At6.zero.v.toArray 96));generalize w.alloc (.cells At6.zero.v.toArray 96)=f at*;obtain⟨o,r⟩:∃x,x=w.heap.size:=⟨_,rfl⟩;rw[←r]at m⊢;have A:=qZ (show w.heap.size≤o by omega);have B:o≠f.heap.size:=Nat.ne_of_lt (af m);clear r;go_wp2_with (first|(refine ag rfl 96 (.tmp 6) (.tmp 18) rfl f.heap.size a.v rfl rfl 96 _ (aj f _ _ rfl) jG rfl (nZ a) ?_;intro L i;have C:=i.at_;have D:=i.old (am m _) B;have E:=i.below (l.alloc l.size _) l.size;have G:=ai C;clear i z c)|(refine l8 rfl 96 (.tmp 6) rfl f.heap.size 0 rfl a.v _ G r4 rfl jG ?_)|(refine ag rfl 96 (.tmp 4) (.tmp 20) rfl o a.v rfl rfl 96 _ D jG rfl (nZ a) ?_;intro M p;have H:=p.at_;have I:=p.below E A;clear p));refine bodyPost_ret (v:=.tuple #[.agg a.v.toArray,.bool s]) ?_ rfl ⟨rfl,I⟩;rw[aD rfl _ _ _ _ _ _ _ rfl H r4 rfl jG];rfl
def Nc(f:Mg)(b:Int)(k:Nat):List Nat:=(sT k).filter fun j=>(Kh f (j:Int)).any fun a=>decide (a.b=b)
theorem zw(f:Mg)(b:Int)(k:Nat):Nc f b (k+1)=Nc f b k++(if(Kh f (k:Int)).any (fun a=>decide (a.b=b))then [k]else []):=by
 unfold Nc;exact yfn
theorem kX{w:fj}{B m C:Nat}{e:pn}{v:kb}{b:List kb}(h:w.ownsRow B e C v m b):v.ownBlock≠some w.heap.size:=by
 intro c;obtain⟨i,f,-⟩:=JT.aU h c;have:=af f;omega
theorem C5(f:Mg)(b:Int)(k:Nat):(Nc f b k).length≤k:=by
 have:=kd (fun j=>(Kh f ((j:Nat):Int)).any fun a=>decide (a.b=b)) (sT k);simpa[Nc]using this
theorem zv{f:Mg}{b:Int}(h:Kw f b=0)(k:Nat):Nc f b k=[]:=by
 unfold Nc;rw[hG];intro j _ hj;cases c:Kh f (j:Int)with
 |none=>rw[c]at hj;simp at hj
 |some a=>
  rw[c]at hj;have e:a.b=b:=by simpa using hj
  have i:=xT c;unfold Kw at h;rw[List.length_eq_zero_iff,hG]at h;exact h _ i (by simpa using e)
def Tb.inL(T:Tb)(b:Int):List Nat:=Nc T.f b T.logical
theorem dN(h:JZ w g mb cb n T)(b:Int)(W:wfI b):ps eD 183 #[.pointer (some ⟨g,0,none⟩),.int .i64 b] w fun e L=>∃v,e=.returned v∧L.ownsRow w.heap.size 3 1 v (T.inL b).length (An .i64 (T.inL b))∧jd w.heap.size w L:=by
 have E:=qZ (cE h b W);have M:=h.c0;have X:=h.ok.log;by_cases z:Kw T.f b=0
 · have Y:=qZ (show T.inL b=[]from zv z _)
   rw[z]at E;clear h M z;go_enter func183, ntmps183;go_wp2_with fail;refine E.mono ?_;rintro e Z ⟨rfl,rfl⟩;go_wp2_with fail;go_ret;exact⟨_,rfl,by rw[Y.out];exact ly _ _ _ _,fo _ _⟩
 · have aa:((Kw T.f b:Int)==0)=false:=by simpa using z
   obtain⟨O,P⟩:∃O,O=Kw T.f b:=⟨_,rfl⟩;rw[←P]at E aa;have HT:=qZ h;obtain⟨N,H⟩:∃N,N=T.logical:=⟨_,rfl⟩;have ab:=qZ (show T.inL b=Nc T.f b N by rw[H];rfl);rw[←H]at M X;clear h z P H;go_enter func183, ntmps183;go_wp2_with fail;refine E.mono ?_;rintro e Z ⟨rfl,rfl⟩;go_wp2_with fail;go_loopw [5,17] (fun v i wr=>∃k:Nat,k≤N∧i=.int .i64 k∧wr.ownsRow w.heap.size 3 1 v (Nc T.f b k).length (An .i64 (Nc T.f b k))∧jd w.heap.size w wr) (fun _ i _=>N-(pz i).toNat)
   case atStart=>exact⟨0,by omega,rfl,ly _ _ _ _,fo _ _⟩
   case round=>
    obtain⟨k,hk,rfl,q,j⟩:=hrel;by_cases al:k<N
    · have an:(k:Int)<(N:Int):=by omega
      have A:=HT.out.below j;have ad:wfI (k:Int):=by unfold wfI;simp[Lit.wf,IntKind.min,IntKind.max,IntKind.bits,IntKind.signed];omega
      have l:=A.PH ad;have c:=A.c1;have o:=zw T.f b k;have af:=C5 T.f b k;obtain⟨m,B⟩:∃m,m=(Nc T.f b k).length:=⟨_,rfl⟩;rw[←B]at q af;have I:=qZ B;have p:=qZ q;have Q:=qZ j;have J:w.heap.size≤wr.heap.size:=j.size;have K:=(j.alloc j.size (.cells At6.zero.v.toArray 96));cases C:Kh T.f (k:Int)with
      |none=>
       rw[C]at l o;have D:=qZ o;have l:(ek 151 (.map (some mb)) (.int .i64 (k:Int)) true).run eD wr=.ok (.tuple #[.agg At6.zero.v.toArray,.bool false]) wr:=l;clear o C B q j A;go_wp2_with (first|(refine ag rfl 96 (.tmp 7) (.tmp 27) rfl wr.heap.size At6.zero.v rfl rfl 96 _ (aj wr _ _ rfl) jG rfl (nZ _) ?_;intro G f;have r:=f.below K J;have t:=qZ (f.own (p.alloc _) (kX p));clear f l c));go_roundw
       case rel=>exact⟨k+1,by omega,by go_num,by rw[D.out];simp only[Option.any_none,Bool.false_eq_true,if_false,List.append_nil];rw[←I.out];exact t.out,r⟩
       case measure=>simp[pz];omega
      |some a=>
       rw[C]at l o;have l:(ek 151 (.map (some mb)) (.int .i64 (k:Int)) true).run eD wr=.ok (.tuple #[.agg a.v.toArray,.bool true]) wr:=l;by_cases u:a.b=b
       · have D:=qZ (show Nc T.f b (k+1)=Nc T.f b k++[k] by rw[o];simp[u])
         have hq:(a.b==b)=true:=by simpa using u
         clear o C B q j A u;go_wp2_with (first|(refine ag rfl 96 (.tmp 7) (.tmp 27) rfl wr.heap.size a.v rfl rfl 96 _ (aj wr _ _ rfl) jG rfl (nZ _) ?_;intro G f;have r:=f.below K J;have R:G.cell? ⟨wr.heap.size,0,none⟩=some (.int .i64 a.b):=(by rw[ae f.at_];rfl);have t:=f.own (p.alloc _) (kX p);have S:=r.size;clear f l c)|(at_builtin;go_must (refine dc rfl (.tmp 37) (.tmp 39) 43 rfl 3 _ _ underlying43 xP rfl t r rfl rfl rfl (by unfold o4;omega) (by omega) S (jt _) ?_)));intro v8 w8 U V ah _;have ai:=qZ (show w8.ownsRow w.heap.size 3 1 v8 (m+1) (An .i64 (Nc T.f b k++[k])) by have:=U;rw[show An .i64 (Nc T.f b k++[k])=An .i64 (Nc T.f b k)++[.int .i64 (k:Int)] by simp[An]];exact this);have ak:=qZ V;clear U V ah r t R S;go_wp2_with fail;go_roundw
         case rel=>exact⟨k+1,by omega,by go_num,by rw[D.out,List.length_append,←I.out];exact ai,ak⟩
         case measure=>simp[pz];omega
       · have D:=qZ (show Nc T.f b (k+1)=Nc T.f b k by rw[o];simp[u])
         have hq:(a.b==b)=false:=by simpa using u
         clear o C B q j A u;go_wp2_with (first|(refine ag rfl 96 (.tmp 7) (.tmp 27) rfl wr.heap.size a.v rfl rfl 96 _ (aj wr _ _ rfl) jG rfl (nZ _) ?_;intro G f;have r:=f.below K J;have R:G.cell? ⟨wr.heap.size,0,none⟩=some (.int .i64 a.b):=(by rw[ae f.at_];rfl);have t:=qZ (f.own (p.alloc _) (kX p));clear f l c));go_roundw
         case rel=>exact⟨k+1,by omega,by go_num,by rw[D.out,←I.out];exact t.out,r⟩
         case measure=>simp[pz];omega
    · obtain rfl:k=N:=by omega
      have p:=qZ q;have Q:=qZ j;clear q j;go_wp2_with fail;go_ret;exact⟨_,rfl,by rw[ab.out];exact p,Q⟩
end
end tab
theorem ycx{A:Prop}(h:A:=by
 go_quiet (fail)
 go_wp2_with fail;go_meet
 exact⟨rfl,_,rfl⟩):A:=h
theorem ydu{A:Prop}(h:A:=by
 go_quiet (fail)
 go_wp2_with fail;go_ret;exact NO.out hf.out _):A:=h
theorem yfm{A:Prop}(h:A:=by
 go_wp2_with fail;go_meet
 exact⟨rfl,rfl⟩):A:=h
namespace tab
open Go.Maps (Keyed)
open JT (Kn cB aC)
def MP(r:Int):Bool:=r==1 ||r==2 ||r==4
def Tb.NN(T:Tb)(l s r:Int):Bool:=decide (0≤l∧l<(T.logical:Int))&&MP r&& !(Kh T.f l).any (fun a=>decide (s<a.q))
def Pv(x s:Int):Int:=if x≤s then wrap64 (s+1)else x
def Tb.MH(T:Tb)(l s r:Int)(b row slot m:Int):Tb:=if T.NN l s r then{T with f:=M3 T.f l ⟨b,row,slot,m,s,r⟩,next:=Pv T.next s}else T
theorem mR(w:fj)(N:Nat)(c:N≤65536):ps eD 95 #[.int .i64 (N:Int)] w fun e f=>∃g h i,e=.returned (.pointer (some ⟨g,0,none⟩))∧JZ f g h i 0 ⟨N,[],1⟩∧w.heap.size≤g∧w.heap.size≤h∧w.heap.size≤i∧jd w.heap.size w f:=by
 have k:= @run_makeMap eD;have l:min (N:Int) 65536=(N:Int):=by omega
 have ok:Tb.ok ⟨N,[],1⟩:=⟨c,by simp,by simp,by simp⟩;have j:=qZ ok;clear ok c;go_enter func95, ntmps95;go_wp2_with fail;go_ret;refine⟨w.heap.size+2,w.heap.size,w.heap.size+1,rfl,⟨j.out,?_,?_,?_,by omega⟩,by omega,by omega,by omega,?_⟩
 · exact aj _ _ _ (by simp)
 · refine⟨.map [],?_,NP.nil⟩
   exact((js w _ _ _).alloc _).alloc _
 · refine⟨.map [],[],?_,NP.nil,fun b=>rfl⟩
   have:=(js (w.alloc (.map #[] 0)) eD 3 Ks).alloc (.cells #[(N:Int),.map (some w.heap.size),.map (some (w.heap.size+1)),.int .i64 1] 154);rw[show(w.alloc (.map #[] 0)).heap.size=w.heap.size+1 by simp]at this;exact this
 · exact ij w _ _ _
structure LK (w:fj) (g mb cb n N:Nat) (f:Mg) (nx:Int) (cf:Int→Int):Prop where
 head:w.heap[g]? =some (.cells #[(N:Int),.map (some mb),.map (some cb),nx] 154 (0,0))
 at_:∃D,w.ownsMap eD 3 Ks mb n D∧NP D (MR f)
 cnt:∃D c,w.ownsMap eD 3 Ks cb n D∧NP D c∧∀b,Nt c b (.int .i64 0)=.int .i64 (cf b)
 ne:mb≠cb
section
variable {w w':fj}{g mb cb n N:Nat}{f:Mg}{nx:Int}{cf:Int→Int}{T:Tb}
theorem JZ.toC(h:JZ w g mb cb n T):LK w g mb cb n T.logical T.f T.next (fun b=>(Kw T.f b:Int)):=⟨h.head,h.at_,h.cnt,h.ne⟩
theorem LK.lt(h:LK w g mb cb n N f nx cf):g<w.heap.size∧mb<w.heap.size∧cb<w.heap.size:=by
 exact yfe
theorem LK.mono(h:LK w g mb cb n N f nx cf){i:Nat}(j:n≤i):LK w g mb cb i N f nx cf:=
 ⟨h.head,by obtain⟨D,b,e⟩:=h.at_;exact⟨D,b.mono j,e⟩,by obtain⟨D,c,b,e,k⟩:=h.cnt;exact⟨D,c,b.mono j,e,k⟩,h.ne⟩
theorem JZ.PW(h:JZ w g mb cb n T):T.f.length≤n:=by
 obtain⟨D,b,c⟩:=h.at_;have:=b.size_le;rw[c.size]at this;simpa[MR]using this
theorem LK.Rt(h:LK w g mb cb n N f nx cf){b:Int→Int}(c:∀x,cf x=b x):LK w g mb cb n N f nx b:=by rwa [←funext c]
theorem LK.below(h:LK w g mb cb n N f nx cf)(hb:jd w.heap.size w w'):LK w' g mb cb n N f nx cf:=by
 have hl:=h.lt;refine⟨aa h.head hb,?_,?_,h.ne⟩
 · obtain⟨D,h1,h2⟩:=h.at_;exact⟨D,cX h1 (hb.block _ hl.2.1),h2⟩
 · obtain⟨D,c,h1,h2⟩:=h.cnt;exact⟨D,c,cX h1 (hb.block _ hl.2.2),h2⟩
theorem LK.drew(h:LK w g mb cb n N f nx cf):LK w.drew g mb cb n N f nx cf:=h.below (fo _ w).drew
theorem LK.drewN(h:LK w g mb cb n N f nx cf)(k:Nat):LK (w.drewN k) g mb cb n N f nx cf:=h.below (aF (fo _ w) k)
theorem LK.c1(h:LK w g mb cb n N f nx cf):w.cell? ⟨g,1,none⟩=some (.map (some mb)):=by rw[ae h.head];rfl
theorem LK.c2(h:LK w g mb cb n N f nx cf):w.cell? ⟨g,2,none⟩=some (.map (some cb)):=by rw[ae h.head];rfl
theorem LK.c3(h:LK w g mb cb n N f nx cf):w.cell? ⟨g,3,none⟩=some (.int .i64 nx):=by rw[ae h.head];rfl
theorem LK.Q9(h:LK w g mb cb n N f nx cf){b:Int}(hb:wfI b):(ek 152 (.map (some cb)) (.int .i64 b) false).run eD w=.ok (.int .i64 (cf b)) w:=by
 exact yew
theorem LK.bump(h:LK w g mb cb n N f nx cf){b:Int}(v:Int)(k:wfI b)(z:n≤2000000000000000):∃i,(hX 152 (.map (some cb)) (.int .i64 b) (.int .i64 v)).run eD w.drew=.ok () i∧LK i g mb cb (n+1) N f nx (fun x=>if x=b then v else cf x)∧w.grownBy i (some cb):=by
 obtain⟨D,c,l,m,o⟩:=h.cnt;obtain⟨i,p,q,j⟩:=l.drew.update (val:=.int .i64 v) oB underlying152 (by unfold o4;omega) (lm k) (show Ks (.int .i64 v)=some (.held (.int .i64 v),[])from rfl);have j:=cC j;have r:=h.lt;refine⟨i,p,⟨aR h.head j (fun e=>dY l h.head (ed e)),?_,⟨_,_,q,m.put k _,fun x=> ?_⟩,h.ne⟩,j⟩
 · obtain⟨D1,t,u⟩:=h.at_
   exact⟨D1,(cX t (j.block _ r.2.1 (fun e=>h.ne (ed e)))).mono (by omega),u⟩
 · by_cases e:x=b
   · subst e;rw[oz,if_pos rfl]
   · rw[mG e,if_neg e,o]
theorem LK.place(h:LK w g mb cb n N f nx cf){l:Int}(a:At6)(j:wfI l)(z:n≤2000000000000000):∃b,(hX 151 (.map (some mb)) (.int .i64 l) (.agg a.v.toArray)).run eD w.drew=.ok () b∧LK b g mb cb (n+1) N (M3 f l a) nx cf∧w.grownBy b (some mb):=by
 obtain⟨D,k,m⟩:=h.at_;obtain⟨b,o,p,i⟩:=k.drew.update (val:=.agg a.v.toArray) oB kn (by unfold o4;omega) (lm j) (show Ks (.agg a.v.toArray)=some (.held (.agg a.v.toArray),[])from rfl);have i:=cC i;have q:=h.lt;refine⟨b,o,⟨aR h.head i (fun e=>dY k h.head (ed e)),⟨_,p,?_⟩,?_,h.ne⟩,i⟩
 · have:=m.put j (.agg a.v.toArray)
   rwa [Bu]at this
 · obtain⟨D1,c,r,t,u⟩:=h.cnt
   exact⟨D1,c,(cX r (i.block _ q.2.2 (fun e=>h.ne (ed e).symm))).mono (by omega),t,u⟩
theorem LK.next(h:LK w g mb cb n N f nx cf)(v:Int):LK (w.setCell ⟨g,3,none⟩ (.int .i64 v)) g mb cb n N f v cf∧Kj (LS g mb cb) w (w.setCell ⟨g,3,none⟩ (.int .i64 v)):=by
 have e:=ar (i:=3) (cs:=[.int .i64 (N:Int),.map (some mb),.map (some cb),.int .i64 nx]) h.head (.int .i64 v);refine⟨⟨e.at_,?_,?_,h.ne⟩,e.keep (.inl rfl)⟩
 · obtain⟨D,b,j⟩:=h.at_
   exact⟨D,cX b (e.block _ (dY b h.head).symm),j⟩
 · obtain⟨D,c,b,j⟩:=h.cnt
   exact⟨D,c,cX b (e.block _ (dY b h.head).symm),j⟩
theorem LK.of(h:LK w g mb cb n T.logical T.f T.next cf)(ok:T.ok)(e:∀b,cf b=(Kw T.f b:Int)):JZ w g mb cb n T:=
 ⟨ok,h.head,h.at_,by obtain⟨D,c,i,j,k⟩:=h.cnt;exact⟨D,c,i,j,fun b=>by rw[k,e]⟩,h.ne⟩
end
theorem GN{T:Tb}(h:T.ok){l s r b row slot m:Int}(g:0≤l∧l<(T.logical:Int))(i:wfI b)(j:Int):Tb.ok {T with f:=M3 T.f l ⟨b,row,slot,m,s,r⟩,next:=j}:=by
 refine⟨h.log,fun p c=> ?_,?_,fun p c=> ?_⟩
 · rcases kk.1 c with rfl|c
   · exact g
   · exact h.keys p (ot.1 c).1
 · show((l,_)::MQ T.f l).map (·.1) |>.Nodup
   rw[hO,hZ];refine⟨?_,?_⟩
   · intro k
     obtain⟨p,c,e⟩:=lx.1 k;exact(ot.1 c).2 e
   · exact h.nodup.sublist (List.Sublist.map _ List.filter_sublist)
 · rcases kk.1 c with rfl|c
   · exact i
   · exact h.bwf p (ot.1 c).1
theorem gj(f:Mg)(b:Int):Kw f b≤f.length:=kd _ _
section
variable {w:fj}{g mb cb n:Nat}{T:Tb}
theorem EG(h:JZ w g mb cb n T)(l s r b row slot m:Int)(d:List Nat)(hd:d.length=16)(hl:wfI l)(hs:wfI s)(hb:wfI b)(hn:n≤1000000000000000):ps eD 98 #[g,.agg (enV l s r d).toArray,.agg #[b,row,slot],m] w fun e w'=>e=.returned (.bool (T.NN l s r))∧JZ w' g mb cb (n+3) (T.MH l s r b row slot m)∧Kj (LS g mb cb) w w':=by
 have bf:=JY;have af:=cG w (.cells (enV l s r d).toArray 90) (.cells #[b,row,slot] 94);have he:=bu w (.cells (enV l s r d).toArray 90) (.cells #[b,row,slot] 94);have hp:=aj (w.alloc (.cells (enV l s r d).toArray 90)) (.cells #[b,row,slot] 94) (w.heap.size+1) (by simp);have c:=h.below af;have a5:=qZ af;have HT:=qZ c;have ay:=qZ (Kj.Mj (S:=LS g mb cb) af);clear af;go_enter func98, ntmps98;go_upto_region 1 with fail
 change Code.wp _ _ _ _ ((w.alloc (.cells (enV l s r d).toArray 90)).alloc (.cells #[b,row,slot] 94));generalize (w.alloc (.cells (enV l s r d).toArray 90)).alloc (.cells #[b,row,slot] 94)=G at*;have Q:G.cell? ⟨w.heap.size,0,none⟩=some (.int .i64 l):=by rw[ae he];rfl
 have e2:G.cell? ⟨w.heap.size,2,none⟩=some (.int .i64 r):=by rw[ae he];rfl
 have c0:=c.c0;have HE:=qZ he;have HP:=qZ hp;have HW:=qZ h;obtain⟨N,R⟩:∃N,N=T.logical:=⟨_,rfl⟩;rw[←R]at c0;have Z:=qZ R
 have no:T.NN l s r=false→∀k,(Ending.returned (.bool false)=.returned (.bool (T.NN l s r))∧JZ (G.drewN k) g mb cb (n+3) (T.MH l s r b row slot m)∧Kj (LS g mb cb) w (G.drewN k)):=by
  intro hf k;unfold Tb.MH;rw[hf];exact⟨rfl,(HT.out.drewN k).mono (by omega),ay.out.drewN k⟩
 have NO:=qZ no;clear no he hp c h R;by_cases a1:l<0
 · have hf:=qZ (show T.NN l s r=false by unfold Tb.NN;simp;omega)
   exact ydu
 · by_cases a2:(N:Int)≤l
   · have hf:=qZ (show T.NN l s r=false by unfold Tb.NN;rw[←Z.out];simp;omega)
     exact ydu
   · cases o:MP r with
     |false=>
      have hf:=qZ (show T.NN l s r=false by unfold Tb.NN;simp[o]);unfold MP at o;simp only[Bool.or_eq_false_iff]at o;obtain⟨⟨B,H⟩,r3⟩:=o;have f:(r !=(1:Int))=true:=by simpa using B
      have C:(r !=(2:Int))=true:=by simpa using H
      have I:(r !=(4:Int))=true:=by simpa using r3
      clear B H r3;exact ydu
     |true=>
      have HR:=qZ o;go_cut [41] (fun v p=>v=.bool false∧∃k,p=G.drewN k)
      case first=>
       unfold MP at o;by_cases B:r=1
       · have f:(r !=(1:Int))=false:=by simp[B]
         clear B o;exact ycx
       · have f:(r !=(1:Int))=true:=by simpa using B
         by_cases H:r=2
         · have C:(r !=(2:Int))=false:=by simp[H]
           clear B H o;exact ycx
         · have C:(r !=(2:Int))=true:=by simpa using H
           have I:(r !=(4:Int))=false:=by simp[B,H]at o;simp[o]
           clear B H o;exact ycx
      case rest=>
       obtain⟨rfl,k0,rfl⟩:=hcut;have L:=qZ (HT.out.drewN k0);have ag:(G.drewN k0).heap[w.heap.size]? =some (.cells (enV l s r d).toArray 90 (0,0)):=HE.out;have aF:(G.drewN k0).heap[w.heap.size+1]? =some (.cells #[b,row,slot] 94 (0,0)):=HP.out;have az:=qZ (ay.out.drewN k0);generalize G.drewN k0=wa at*;have Q:wa.cell? ⟨w.heap.size,0,none⟩=some (.int .i64 l):=by rw[ae ag];rfl
       have c1:=L.out.c1;have ah:=L.out.drew.PH hl;have ai:=(L.out.below (aC wa (.cells At6.zero.v.toArray 96))).drew.PH hl;have aG:=qZ ag;have aH:=qZ aF;obtain⟨a,ha⟩:∃a,a=At6.of (Kh T.f l):=⟨_,rfl⟩;obtain⟨s0,U⟩:∃s0,s0=(Kh T.f l).isSome:=⟨_,rfl⟩;rw[←ha,←U]at ah ai;have HA:=qZ ha;have HS:=qZ U;clear ha U;replace ah:(ek 151 (.map (some mb)) (.int .i64 l) true).run eD wa.drew=.ok (.tuple #[.agg #[a.b,a.r,a.s,a.m,a.q,a.o],s0]) wa.drew:=ah;replace ai:(ek 151 (.map (some mb)) (.int .i64 l) true).run eD (wa.alloc (.cells #[.int .i64 0,.int .i64 0,.int .i64 0,.int .i64 0,.int .i64 0,.int .i64 0] 96)).drew=.ok (.tuple #[.agg #[a.b,a.r,a.s,a.m,a.q,a.o],s0]) (wa.alloc (.cells #[.int .i64 0,.int .i64 0,.int .i64 0,.int .i64 0,.int .i64 0,.int .i64 0] 96)).drew:=ai;have a6:(wa.alloc (.cells #[.int .i64 0,.int .i64 0,.int .i64 0,.int .i64 0,.int .i64 0,.int .i64 0] 96)).cell? ⟨w.heap.size,0,none⟩=some (.int .i64 l):=by rw[ae (am ag _)];rfl
       have a7:=(L.out.below (aC wa (.cells #[.int .i64 0,.int .i64 0,.int .i64 0,.int .i64 0,.int .i64 0,.int .i64 0] 96))).c1;clear ag aF HT HE HP ay a5 e2 c0;go_upto_region 3 with fail
       go_cut [9,10] (fun a8 v p=>a8=.pointer (some ⟨wa.heap.size,0,none⟩)∧v=.bool s0∧p=(wa.alloc (.cells a.v.toArray 96)).drew)
       case first=>
        go_region;all_goals go_wp2_with fail
        all_goals go_meet
        all_goals exact⟨rfl,rfl,rfl⟩
       case rest=>
       obtain⟨rfl,rfl,rfl⟩:=hcut;clear ah ai a6 a7;go_upto_region 4 with fail
       have a9:=L.out.lt;have ba:=az.out.size;obtain⟨xA,ak⟩:∃x,x=wa.heap.size:=⟨_,rfl⟩;have hA:=(show(wa.alloc (.cells a.v.toArray 96)).drew.heap[xA]? =some (.cells a.v.toArray 96 (0,0))from by rw[ak];exact aj wa _ _ rfl);have V:=(aC wa (.cells a.v.toArray 96)).drew;have M:=qZ (L.out.below V);have hE:=aa aG.out V;have hP:=aa aH.out V;have al:=qZ (az.out.trans (Kj.Mj (S:=LS g mb cb) V) (fun _ h=>h) (fun _ _ h=>h));rw[←ak]at V;simp only[←ak];generalize (wa.alloc (.cells a.v.toArray 96)).drew=wc at*;clear ak L aG aH az V a9 ba Q c1;have e1:wc.cell? ⟨w.heap.size,1,none⟩=some (.int .i64 s):=by rw[ae hE];rfl
       have a4:wc.cell? ⟨xA,4,none⟩=some (.int .i64 a.q):=by rw[ae hA];rfl
       by_cases an:s0=true∧s<a.q
       · obtain⟨U,aI⟩:=an
         have hf:=qZ (show T.NN l s r=false from by
          have i:=HA.out;have c:=HS.out;unfold Tb.NN;cases j:Kh T.f l with
          |none=>rw[j,U]at c;simp at c
          |some a'=>rw[j]at i;simp only[At6.of]at i;subst i;simp[aI])
         have aJ:=qZ (show Kj (LS g mb cb) w wc∧JZ wc g mb cb n T from⟨al.out,M.out⟩);subst U;clear hE hP hA M al;go_wp2_with fail;go_ret;unfold Tb.MH;rw[hf.out];exact⟨rfl,aJ.out.2.mono (by omega),aJ.out.1⟩
       · have aA:=qZ (show T.NN l s r=true from by
          have i:=HA.out;have c:=HS.out;have W:=Z.out;unfold Tb.NN;rw[HR.out,←W];cases j:Kh T.f l with
          |none=>simp;omega
          |some a'=>
           rw[j]at i c;simp only[At6.of,Option.isSome]at i c;subst i;simp[c]at an⊢;omega)
         go_cut [59] (fun v p=>v=.bool false∧p=wc)
         case first=>
          cases s0 with
          |false=>
           exact yfm
          |true=>
           have aI:¬s<a.q:=by simpa using an
           exact yfm
         case rest=>
          obtain⟨rfl,rfl⟩:=hcut;clear e1 a4 an;have aK:=qZ hE;have aL:=qZ hP;have aM:=qZ hA;clear hE hP hA
          have aq:∀b,Kw T.f b≤1000000000000000:=fun b=>by
           have i:=gj T.f b;have c:=M.out.PW;omega
          have J:=M.out.toC;rw[←Z.out]at J
          have bb:=qZ (show s0=true→wfI a.b from fun e=>by
           have i:=HA.out;have c:=HS.out;cases j:Kh T.f l with
           |none=>rw[j,e]at c;simp at c
           |some a'=>
            rw[j]at i;simp only[At6.of]at i;subst i;exact M.out.ok.bwf _ (xT j))
          have aN:=qZ M.out.ok;clear M;have D:=aK.out;have t:=aL.out;have ar:=aM.out;have O:=al.out;go_upto_if 60 with fail
          go_cut [] (fun p=>LK p g mb cb (n+1) N T.f T.next (fun x=>if s0=true∧x=a.b then(Kw T.f x:Int)-1 else(Kw T.f x:Int))∧p.heap[w.heap.size]? =some (.cells (enV l s r d).toArray 90 (0,0))∧p.heap[w.heap.size+1]? =some (.cells #[b,row,slot] 94 (0,0))∧Kj (LS g mb cb) w p)
          case first=>
           cases s0 with
           |false=>
            have HC:=qZ (ej J (ej D (ej t O)));clear J D t ar O;go_wp2_with fail;go_meet
            obtain⟨f,C,I,u⟩:=HC.out;exact⟨by have:=f.mono (show n≤n+1 by omega);simpa using this,C,I,u⟩
           |true=>
            have aO:wfI a.b:=bb.out rfl;have c2:=J.c2;have a0:wc.cell? ⟨xA,0,none⟩=some (.int .i64 a.b):=by rw[ae ar];rfl
            obtain⟨q,E⟩:∃q,q=Kw T.f a.b:=⟨_,rfl⟩;have aP:(ek 152 (.map (some cb)) (.int .i64 a.b) false).run eD wc.drew=.ok (.int .i64 (q:Int)) wc.drew:=by rw[E];exact J.drew.Q9 aO
            have aB:q≤1000000000000000:=by rw[E];exact aq _
            obtain⟨K,aQ,z,ab⟩:=J.bump ((q:Int)-1) aO (by omega);have HQ:=qZ E;have au:=qZ z;have av:=qZ (ej D (ej t (ej O ab)))
            have X:=qZ (show w.heap.size≠cb∧w.heap.size+1≠cb from by
             obtain⟨aS,bc,f,-⟩:=J.cnt;exact⟨dY f D,dY f t⟩)
            clear E z ab D t ar O J aq;go_upto_region 7 with fail
            go_region;go_wp2_with fail;go_meet
            obtain⟨f,C,I,u⟩:=av.out;refine⟨?_,aR f u (fun e=>X.out.1 (ed e)),aR C u (fun e=>X.out.2 (ed e)),I.trans (Kj.Ll u) (fun _ h=>h) (fun aT _ e=> .inr (.inr (ed e)))⟩;have:=au.out;rw[HQ.out]at this;refine this.Rt fun x=> ?_;by_cases e:x=a.b
            · simp[e]
            · simp[e]
          case rest=>
           obtain⟨hT,D,t,O⟩:=hcut;clear al aK aL aM;clear ar;obtain⟨q,E⟩:∃q,q=(if s0=true∧b=a.b then(Kw T.f b:Int)-1 else(Kw T.f b:Int)):=⟨_,rfl⟩
           have aB: -1≤q∧q≤1000000000000000:=by
            have:=aq b;rw[E];split<;>omega
           obtain⟨aB,bg⟩:=aB;have c2:=hT.c2;have Q:wc.cell? ⟨w.heap.size+1,0,none⟩=some (.int .i64 b):=by rw[ae t];rfl
           have aP:(ek 152 (.map (some cb)) (.int .i64 b) false).run eD wc.drew=.ok (.int .i64 q) wc.drew:=by rw[E];exact hT.drew.Q9 hb
           obtain⟨K,aQ,z,ab⟩:=hT.bump (q+1) hb (by omega);have HQ:=qZ E;have au:=qZ z;have av:=qZ (ej D (ej t (ej O ab)))
           have X:=qZ (show w.heap.size≠cb∧w.heap.size+1≠cb from by
            obtain⟨aS,bc,f,-⟩:=hT.cnt;exact⟨dY f D,dY f t⟩)
           clear E z ab D t O hT aq;go_upto_region 8 with fail
           go_region;go_upto_region 9 with fail
           obtain⟨f,C,I,u⟩:=av.out;have Y:=aR f u (fun e=>X.out.1 (ed e));have aw:=aR C u (fun e=>X.out.2 (ed e));have aU:=I.trans (Kj.Ll u) (fun _ h=>h) (fun aT _ e=> .inr (.inr (ed e)));have z:=au.out;clear au av X f C I u aP aQ c2 Q;have c1:=z.c1;have Q:K.cell? ⟨w.heap.size,0,none⟩=some (.int .i64 l):=by rw[ae Y];rfl
           have e1:K.cell? ⟨w.heap.size,1,none⟩=some (.int .i64 s):=by rw[ae Y];rfl
           have e2:K.cell? ⟨w.heap.size,2,none⟩=some (.int .i64 r):=by rw[ae Y];rfl
           have p0:K.cell? ⟨w.heap.size+1,0,none⟩=some (.int .i64 b):=by rw[ae aw];rfl
           have p1:K.cell? ⟨w.heap.size+1,1,none⟩=some (.int .i64 row):=by rw[ae aw];rfl
           have p2:K.cell? ⟨w.heap.size+1,2,none⟩=some (.int .i64 slot):=by rw[ae aw];rfl
           obtain⟨w4,aD,aV,aE⟩:=z.place ⟨b,row,slot,m,s,r⟩ hl (by omega)
           have aW:=aR Y aE (fun e=>by
            obtain⟨aS,f,-⟩:=z.at_;exact dY f Y (ed e))
           have aX:=qZ (aU.trans (Kj.Ll aE) (fun _ h=>h) (fun aT _ e=> .inr (.inl (ed e))));have ax:=qZ aV;have bd:=qZ aW;replace aD:(hX 151 (.map (some mb)) (.int .i64 l) (.agg #[b,row,slot,m,s,r])).run eD K.drew=.ok () w4:=aD;clear Y aw aU z aV aE aW;go_region;clear aD c1 Q e1 e2 p0 p1 p2;go_upto_region 10 with fail
           have e1:w4.cell? ⟨w.heap.size,1,none⟩=some (.int .i64 s):=by rw[ae bd.out];rfl
           have c3:=ax.out.c3
           have aY:∀x,(if x=b then q+1 else if s0=true∧x=a.b then(Kw T.f x:Int)-1 else(Kw T.f x:Int))=(Kw (M3 T.f l ⟨b,row,slot,m,s,r⟩) x:Int):=by
            intro x;have i:=HA.out;have c:=HS.out;have W:=HQ.out;have P:=FN T.f l ⟨b,row,slot,m,s,r⟩ x;cases j:Kh T.f l with
            |none=>
             rw[j]at c;have h5:s0=false:=c;rw[rD j]at P;subst h5;by_cases e:x=b
             · subst e;simp at W P⊢;omega
             · have e':b≠x:=fun k=>e k.symm
               simp[e,e']at W P⊢;omega
            |some a'=>
             rw[j]at i c;have h5:s0=true:=c;have h6:a=a':=i;subst h5 h6;have h7:=kH aN.out.nodup j x;by_cases e:x=b
             · subst e
               by_cases e2:x=a.b
               · simp[e2]at W P h7⊢;omega
               · have e3:a.b≠x:=fun k=>e2 k.symm
                 simp[e2,e3]at W P h7⊢;omega
             · have e':b≠x:=fun k=>e k.symm
               by_cases e2:x=a.b
               · subst e2
                 simp[e,e']at P h7⊢;omega
               · have e3:a.b≠x:=fun k=>e2 k.symm
                 simp[e,e',e2,e3]at P h7⊢;omega
           have aZ:∀nx wz,nx=Pv T.next s→LK wz g mb cb (n+3) N (M3 T.f l ⟨b,row,slot,m,s,r⟩) nx (fun x=>if x=b then q+1 else if s0=true∧x=a.b then(Kw T.f x:Int)-1 else(Kw T.f x:Int))→JZ wz g mb cb (n+3) (T.MH l s r b row slot m):=by
            intro nx wz ad hz;unfold Tb.MH;rw[aA.out,if_pos rfl,←ad];refine LK.of ?_ (GN aN.out ?_ hb nx) aY
            · rw[←Z.out];exact hz
            · have:=Z.out;omega
           have HF:=qZ aZ;clear aY aZ;by_cases a3:T.next≤s
           · have ad:=qZ (show Pv T.next s=wrap64 (s+1) by unfold Pv;rw[if_pos a3])
             go_quiet (fail)
             have bh:=ao ax.out.head 3;go_wp2_with fail;go_ret;have R:=(ax.out.drewN nq).next (wrap64 (s+1));refine⟨by rw[aA.out];rfl,HF.out _ _ ad.out.symm R.1,(aX.out.drewN nq).trans R.2 (fun _ h=>h) (fun _ _ h=>h)⟩
           · have ad:=qZ (show Pv T.next s=T.next by unfold Pv;rw[if_neg a3])
             go_quiet (fail)
             go_wp2_with fail;go_ret;refine⟨by rw[aA.out];rfl,?_,(aX.out.drewN _)⟩;exact HF.out _ _ ad.out.symm (ax.out.drewN _)
end
theorem oQ{b:Type}(p q r:b→Bool)(c:∀a,p a=(q a ||r a))(e:∀a,¬(q a=true∧r a=true)):∀l:List b,(l.filter p).length=(l.filter q).length+(l.filter r).length
 |[]=>rfl
 |a::l=>by
  have f:=oQ p q r c e l;grind
theorem x8(P:At6→Bool)(k:Int):∀{f:Mg},(f.map (·.1)).Nodup→(f.filter fun p=>P p.2&&decide (p.1=k)).length=if(Kh f k).any P then 1 else 0
 |[],_=>rfl
 |p::f,b=>by
  rw[hO,hZ]at b;have g:=x8 P k b.2;rw[eX];by_cases e:p.1=k
  · have i:Kh f k=none:=by
     unfold Kh;rw[Option.map_eq_none_iff,kr];intro q j h;simp at h;exact b.1 (by grind)
    have c:Kh (p::f) k=some p.2:=by unfold Kh;rw[jI (by simp_all)];rfl
    grind
  · have c:Kh (p::f) k=Kh f k:=by unfold Kh;simp_all
    simp_all
theorem Cw{f:Mg}(b:(f.map (·.1)).Nodup)(c:∀p∈f,0≤p.1):∀k:Nat,(f.filter fun p=>decide (p.1<(k:Int))).length≤k
 |0=>by
  have:(f.filter fun p=>decide (p.1<((0:Nat):Int)))=[]:=by
   rw[hG];intro p e;have:=c p e;simp;omega
  grind
 |k+1=>by
  have g:=Cw b c k;rw[oQ (fun p:Int×At6=>decide (p.1<((k+1:Nat):Int))) (fun p=>decide (p.1<(k:Int))) (fun p=>true&&decide (p.1=(k:Int))) ?_ ?_]
  · have:=x8 (fun _=>true) (k:Int) b
    grind
  · grind
  grind
theorem Tb.ok.PW{T:Tb}(h:T.ok):T.f.length≤T.logical:=by
 have:=Cw h.nodup (fun p b=>(h.keys p b).1) T.logical;rwa [iP.2 fun p b=>by simpa using(h.keys p b).2]at this
theorem xQ{T:Tb}{b:Int}{x:Nat}(h:x∈T.inL b):x<T.logical∧∃a,Kh T.f (x:Int)=some a∧a.b=b:=by
 unfold Tb.inL Nc at h;obtain⟨c,f⟩:=List.mem_filter.1 h;refine⟨List.mem_range.1 c,?_⟩;cases e:Kh T.f (x:Int)with
 |none=>simp_all
 |some a=>simp_all
end tab
namespace tableRoles
open Go.Maps (Keyed)
theorem rT(w:fj):(qa 3).run eD w=.ok (.int .i64 0) w:=by kernel_rfl
end tableRoles
end Go.Proofs.YtlkpfnjdbgeifaaGreat
