import Derived.Test.YtlkpfnjdbgeifaaGreatFAllMem
import Derived.Test.YtlkpfnjdbgeifaaGreatFDelAd
import Derived.Test.YtlkpfnjdbgeifaaGreatFBack
set_option linter.unusedSimpArgs false
set_option linter.unusedVariables false
set_option maxRecDepth 100000
set_option maxHeartbeats 8000000
open Option.some renaming inj→ed
open Go renaming World→ej,Value→eD,bodyPost_ret→jd,wp_load_mid→jt,TypeId→kb,run_neq_pointer_nil→kr,heap_alloc_new→l4,DataW→l5
open List renaming getElem?_eq_getElem→ek,foldl_cons→hG,foldl_nil→hO,getD_eq_getElem?_getD→js,getElem?_map→jI,replicate→kk,mem_append→ly
open Int renaming eq_ofNat_of_zero_le→eX,toNat_natCast→jw,toNat_of_nonneg→lx
open Nat renaming le_refl→fj,lt_of_lt_of_le→jm,le_trans→kd
open Array renaming getElem?_eq_some_iff→fo
open Go.Region renaming binds→gg
open Go.RowKit renaming Below→hX
open Go.RowKit.Below renaming refl→hZ
open Go.World renaming block_lt_of_cell?→iP,cell?_of_block→kn
open Go.Instr renaming lookup→jg
namespace Go.Proofs.YtlkpfnjdbgeifaaGreat
open Go.Proofs.Tryz
open Go.RowKit
theorem yeg{A:Prop}(h:A:=by
 have:=Option.some.inj h5;injection this with _ e2
 subst e2;revert h6
 decide):A:=h
namespace JT
def Kn:Obj→Option kb
 | .cells _ t _=>some t
 |_=>none
def Ko(t:kb):Bool:=t== 81 ||t== 106 ||t== 112 ||t== 4 ||t== 168
structure Fr (base g:Nat) (w w':ej):Prop where
 os:w'.os=w.os
 tape:w'.tape=w.tape
 output:w'.output=w.output
 size:w.heap.size≤w'.heap.size
 block:∀k,k<w.heap.size→(k<base∨∃cs t fr,w.heap[k]? =some (.cells cs t fr)∧Ko t=false)→w'.heap[k]? =w.heap[k]?
 maps:∀k,k<w.heap.size→g<k→(∃o,w.heap[k]? =some o∧Kn o=none)→w'.heap[k]? =w.heap[k]?
section
variable {base g:Nat}{w w' w'':ej}
theorem Fr.refl(base g:Nat)(w:ej):Fr base g w w:=⟨rfl,rfl,rfl,fj _,fun _ _ _=>rfl,fun _ _ _ _=>rfl⟩
theorem Fr.trans(h:Fr base g w w')(b:Fr base g w' w''):Fr base g w w'':=
 ⟨b.os.trans h.os,b.tape.trans h.tape,b.output.trans h.output,kd h.size b.size,fun k c l=>(by
  have e:=h.block k c l;refine(b.block k (jm c h.size) ?_).trans e;simp_all),fun k c f ⟨o,i,j⟩=>
  (b.maps k (jm c h.size) f ⟨o,(h.maps k c f ⟨o,i,j⟩).trans i,j⟩).trans (h.maps k c f ⟨o,i,j⟩)⟩
theorem Fr.KZ(h:hX w.heap.size w w'):Fr base g w w':=⟨h.os,h.tape,h.output,h.size,fun k b _=>h.block k b,fun k b _ _=>h.block k b⟩
theorem Fr.Ll{k:Nat}{o:Obj}(h:w.grownBy w' (some k))(hk:w.heap[k]? =some o)(hb:base≤k)(ho:∀t,Kn o=some t→Ko t=true)(hm:Kn o=none→k≤g:=by intro e;cases e):Fr base g w w':=
 ⟨h.os,h.tape,h.output,h.size,fun j hj hc=>h.block j hj (fun e=>by
  have e:=Option.some.inj e;subst e;rcases hc with hc|⟨cs,t,fr,h1,h2⟩
  · omega
  · rw[hk]at h1
    have:=Option.some.inj h1;subst this;have:=ho t rfl;simp_all),fun j hj hg ⟨o',h1,h2⟩=>h.block j hj (fun e=>by
  grind)⟩
theorem Fr.PA(h:w.grownBy w' none):Fr base g w w':=⟨h.os,h.tape,h.output,h.size,fun j hj _=>h.block j hj (by simp),fun j hj _ _=>h.block j hj (by simp)⟩
theorem Fr.below{D:Nat}{w0:ej}(h:Fr base g w w')(hb:hX D w0 w)(hD:D≤base)(hs:D≤w0.heap.size):hX D w0 w':=
 hb.trans ⟨h.os,h.tape,h.output,h.size,fun k hk=>h.block k (by have:=hb.size;omega) (.inl (by omega))⟩
theorem Fr.blk{k:Nat}{b:Array eD}{t:kb}{fr:Nat×Nat}(h:Fr base g w w')(c:w.heap[k]? =some (.cells b t fr))(e:Ko t=false):w'.heap[k]? =some (.cells b t fr):=
 (h.block k (af c) (.inr ⟨b,t,fr,c,e⟩)).trans c
theorem Fr.drew(h:Fr base g w w'):Fr base g w w'.drew:=⟨h.os,h.tape,h.output,h.size,h.block,h.maps⟩
theorem Fr.map(h:Fr base g w w'){k:Nat}{o:Obj}(b:w.heap[k]? =some o)(c:Kn o=none)(e:g<k):w'.heap[k]? =some o:=
 (h.maps k (fo.1 b).1 e ⟨o,b,c⟩).trans b
end
theorem cB{w:ej}{a b:Nat}{o c:Obj}(f:w.heap[a]? =some o)(g:w.heap[b]? =some c)(h:Kn o≠Kn c):a≠b:=fun e=>by
 simp_all
theorem aU{w:ej}{base n C:Nat}{e:kb}{v:eD}{b:List eD}(h:w.ownsRow base e C v n b){k:Nat}(hk:v.ownBlock=some k):∃cur,w.heap[k]? =some (.cells cur e (0,0))∧base≤k:=by
 exact yek
theorem dh{w b:ej}{base n C:Nat}{e:kb}{v:eD}{c:List eD}(h:w.ownsRow base e C v n c)(f:∀k,v.ownBlock=some k→b.heap[k]? =w.heap[k]?):b.ownsRow base e C v n c:=by
 refine⟨h.1,?_⟩;rcases h.2 with p|⟨g,i,j,rfl,l,m,o⟩
 · simp_all
 · exact .inr ⟨g,i,j,rfl,l,(f g (by rfl)).trans m,o⟩
theorem di{w:ej}{b n:Nat}{D:l5 eD}(h:w.ownsMap prog 52 Ks b n D):∃o,w.heap[b]? =some o∧Kn o=none:=by
 obtain⟨e,clock,c,-⟩:=h;exact⟨_,c,rfl⟩
theorem gM{w c:ej}{b n:Nat}{D:l5 eD}(h:w.ownsMap prog 52 Ks b n D)(e:c.heap[b]? =w.heap[b]?):c.ownsMap prog 52 Ks b n D:=by
 obtain⟨f,clock,g,i⟩:=h;exact⟨f,clock,e.trans g,i⟩
theorem io{w c:ej}{T:kb}{g b n:Nat}{f:List (Ad×eD)}(h:LY w T g b n f)(e:c.heap[g]? =w.heap[g]?)(i:c.heap[b]? =w.heap[b]?):LY c T g b n f:=by
 obtain⟨j,D,k,l⟩:=h;exact⟨e.trans j,D,gM k i,l⟩
structure Lay where
 (mb nm gp bp np:Nat) (mf:List (Ad×eD)) (dv:eD) (q:Nat→Nat→Nat) (cv:Nat→Nat→eD)
def Nd.top(N:Nd)(L:Lay):List eD:=
 [.int .i64 (N.D:Int),.int .i64 (N.B:Int),.int .i64 (N.P:Int),.map (some L.mb),.pointer (some ⟨L.gp,0,none⟩),L.dv,.bool N.off,.int .i64 (N.ops:Int),.int .i64 (N.broken:Int),.bool N.Oy,.int .i64 N.left,.int .i64 (N.keep:Int)]
def Blk.v(x:Blk)(c:eD):List eD:=[c,.int .i64 (x.KP:Int),.bool x.fails,.bool x.met]
def Mb(x:Blk):List (List eD):=x.cells.map Cel.v
structure Body (w:ej) (base:Nat) (L:Lay) (N:Nd):Prop where
 map:∃D,w.ownsMap prog 52 Ks L.mb L.nm D∧Rel D L.mf
 has:∀d b:Nat,d<N.D→b<N.B→(key d b,.pointer (some ⟨L.q d b,0,none⟩))∈L.mf
 only:∀x∈L.mf,∃d b:Nat,d<N.D∧b<N.B∧x.1=key d b
 Kt:LY w 168 L.gp L.bp L.np N.Kt
 dead:w.ownsRow base 4 1 L.dv N.D (N.dead.map .bool)
 blk:∀d b:Nat,d<N.D→b<N.B→w.heap[L.q d b]? =some (.cells ((N.blk d b).v (L.cv d b)).toArray 106 (0,0))
 rows:∀d b:Nat,d<N.D→b<N.B→OwnRows w base 112 34 (L.cv d b) (N.blk d b).cells.length (Mb (N.blk d b))
 PF:∀d b d' b':Nat,d<N.D→b<N.B→d'<N.D→b'<N.B→L.q d b=L.q d' b'→d=d'∧b=b'
 QG:∀d b d' b':Nat,d<N.D→b<N.B→d'<N.D→b'<N.B→¬(d=d'∧b=b')→∀k,(L.cv d b).ownBlock=some k→(L.cv d' b').ownBlock≠some k
 apart:L.mb≠L.bp
 low:base≤L.mb∧base≤L.gp∧base≤L.bp∧∀d b:Nat,d<N.D→b<N.B→base≤L.q d b
def Ri(L:Lay)(N:Nd)(k:Nat):Prop:=k=L.mb∨k=L.gp∨k=L.bp∨L.dv.ownBlock=some k∨∃d b:Nat,d<N.D∧b<N.B∧(k=L.q d b∨(L.cv d b).ownBlock=some k)
structure JU (w:ej) (base g:Nat) (L:Lay) (N:Nd):Prop where
 ok:N.ok
 head:w.heap[g]? =some (.cells (N.top L).toArray 81 (0,0))
 Nv:base≤g∧L.bp≤g∧L.mb≤g
 body:Body w base L N
section
variable {w w' w1 w2:ej}{base g:Nat}{L:Lay}{N N':Nd}
theorem Body.QS(h:Body w base L N){k:Nat}(f:Ri L N k):∃o,w.heap[k]? =some o∧(∀t,Kn o=some t→Ko t=true∧t≠ 81)∧base≤k:=by
 rcases f with rfl|rfl|rfl|f|⟨d,b,i,j,rfl|f⟩
 · obtain⟨D,e,-⟩:=h.map
   obtain⟨o,l,n⟩:=di e;exact⟨o,l,fun t c=>(by simp_all),h.low.1⟩
 · exact⟨_,h.Kt.1,fun t c=>(by cases c;exact⟨rfl,by decide⟩),h.low.2.1⟩
 · obtain⟨-,D,e,-⟩:=h.Kt
   obtain⟨o,l,n⟩:=di e;exact⟨o,l,fun t c=>(by simp_all),h.low.2.2.1⟩
 · obtain⟨p,e,m⟩:=aU h.dead f
   exact⟨_,e,fun t c=>(by cases c;exact⟨rfl,by decide⟩),m⟩
 · exact⟨_,h.blk d b i j,fun t c=>(by cases c;exact⟨rfl,by decide⟩),h.low.2.2.2 d b i j⟩
 · obtain⟨p,e,m⟩:=aU (h.rows d b i j).1 f
   exact⟨_,e,fun t c=>(by cases c;exact⟨rfl,by decide⟩),m⟩
theorem Body.keep(h:Body w base L N)(c:∀k,Ri L N k→w'.heap[k]? =w.heap[k]?):Body w' base L N:=
 {h with
  map:=by obtain⟨D,j,l⟩:=h.map;exact⟨D,gM j (c _ (.inl rfl)),l⟩
  Kt:=io h.Kt (c _ (.inr (.inl rfl))) (c _ (.inr (.inr (.inl rfl))))
  dead:=dh h.dead fun k i=>c k (.inr (.inr (.inr (.inl i))))
  blk:=fun d b e f=>(c _ (.inr (.inr (.inr (.inr ⟨d,b,e,f,.inl rfl⟩))))).trans (h.blk d b e f)
  rows:=fun d b e f=>⟨dh (h.rows d b e f).1 fun k i=>c k (.inr (.inr (.inr (.inr ⟨d,b,e,f,.inr i⟩)))),(h.rows d b e f).2⟩}
theorem Body.lt(h:Body w base L N){k:Nat}(b:Ri L N k):k<w.heap.size:=by
 obtain⟨o,c,-⟩:=h.QS b;grind
theorem JU.below(h:JU w base g L N)(hb:hX w.heap.size w w'):JU w' base g L N:=
 ⟨h.ok,aa h.head hb,h.Nv,h.body.keep fun k hk=>hb.block k (h.body.lt hk)⟩
theorem JU.drew(h:JU w base g L N):JU w.drew base g L N:=h.below (hZ _ w).drew
theorem JU.other{k:Nat}{l:Array eD}{t:kb}{fr:Nat×Nat}(h:JU w base g L N)(f:w.grownBy w' (some k))(m:w.heap[k]? =some (.cells l t fr))(n:Ko t=false):JU w' base g L N:=by
 have i:∀j o,w.heap[j]? =some o→(∀b,Kn o=some b→Ko b=true)→some j≠some k:=by
  intro j o hj c e;have e:=ed e;subst e;rw[m]at hj;have:=ed hj;subst this;have:=c t rfl;rw[n]at this;cases this
 refine⟨h.ok,(f.block g (af h.head) (i g _ h.head fun b e=>by cases e;rfl)).trans h.head,h.Nv,h.body.keep fun j hj=> ?_⟩;obtain⟨o,c,p,-⟩:=h.body.QS hj;exact f.block j (h.body.lt hj) (i j o c fun b e=>(p b e).1)
theorem JU.PO(h:JU w base g L N)(b:w.grownBy w' (some g))(i:w'.heap[g]? =some (.cells (N'.top L).toArray 81 (0,0)))(ok:N'.ok)(j:N'.D=N.D)(l:N'.B=N.B)(m:N'.blk=N.blk)(n:N'.Kt=N.Kt)(p:N'.dead=N.dead):JU w' base g L N'∧Fr base g w w':=by
 refine⟨⟨ok,i,h.Nv,?_⟩,Fr.Ll b h.head h.Nv.1 fun t e=>by cases e;rfl⟩
 have q:=h.body.keep (w':=w') fun k c=>by
  obtain⟨o,f,r,-⟩:=h.body.QS c;refine b.block k (h.body.lt c) fun e=> ?_;have e:=ed e;subst e;rw[h.head]at f;have:=ed f;subst this;exact(r _ rfl).2 rfl
 obtain⟨a1,a2,z,a4,A,B,C,D,E,u,G⟩:=q;refine⟨a1,?_,?_,?_,?_,?_,?_,?_,?_,u,?_⟩<;>simp only[j,l,m,n,p]<;>assumption
theorem JU.PR(h:JU w base g L N){d b:Nat}(p:d<N.D)(q:b<N.B)(x:Blk)(v:eD)(r:w.grownBy w1 (L.cv d b).ownBlock)(E:OwnRows w1 base 112 34 v x.cells.length (Mb x))(Q:v.ownBlock=none∨v.ownBlock=(L.cv d b).ownBlock∨∃j,v.ownBlock=some j∧w.heap.size≤j)(t:w1.grownBy w2 (some (L.q d b)))(hq:w2.heap[L.q d b]? =some (.cells (x.v v).toArray 106 (0,0)))(Y:x.cells.length≤N.P)(hp:∀c,c∈x.cells→c.p.length=32∧∀y∈c.p,y<256):
 JU w2 base g {L with cv:=fun i j=>if i=d∧j=b then v else L.cv i j} (N.upd d b x)∧Fr base g w w2:=by
 have G:=h.body.blk d b p q;have Z:=kd r.size t.size
 have M:∀k o,w.heap[k]? =some o→(L.cv d b).ownBlock≠some k→k≠L.q d b→w2.heap[k]? =w.heap[k]? :=by
  intro k o f H I;have R:=(fo.1 f).1;exact(t.block k (jm R r.size) (fun e=>I (ed e))).trans (r.block k R (fun e=>H e.symm))
 have O:∀k o,w.heap[k]? =some o→Kn o≠some 112 →(L.cv d b).ownBlock≠some k:=by
  intro k o f n e;obtain⟨C,l,-⟩:=aU (h.body.rows d b p q).1 e;rw[l]at f;have:=ed f;subst this;exact n rfl
 have S:∀k o,w.heap[k]? =some o→Kn o≠some 106 →k≠L.q d b:=fun k o f n=>cB f G n
 have st:∀k o,w.heap[k]? =some o→Kn o≠some 112 →Kn o≠some 106 →w2.heap[k]? =w.heap[k]? :=fun k o f H I=>M k o f (O k o f H) (S k o f I)
 obtain⟨D,T,hR⟩:=h.body.map;obtain⟨om,aa,al⟩:=di T;obtain⟨ab,Dp,ad,an⟩:=h.body.Kt;obtain⟨op,ae,ao⟩:=di ad;have ag:∀k,v.ownBlock=some k→base≤k∧k<w1.heap.size:=nR E
 have aq:v.ownBlock≠some (L.q d b):=by
  intro e;have ar:=(ag _ e).2;obtain⟨C,l,-⟩:=aU E.1 e;rcases Q with n|n|⟨j,hj,ah⟩
  · rw[n]at e;cases e
  · rw[n]at e
    exact O _ _ G (by simp[Kn]<;>decide) e
  · rw[hj]at e
    have:=ed e;have:=af G;omega
 have au:OwnRows w2 base 112 34 v x.cells.length (Mb x):=⟨E.1.kept t (by
  simp_all),E.2⟩
 have ai:∀u z:Nat,u<N.D→z<N.B→¬(u=d∧z=b)→∀k,(L.cv u z).ownBlock=some k→w2.heap[k]? =w.heap[k]? :=by
  intro u z U V B k f;obtain⟨C,l,-⟩:=aU (h.body.rows u z U V).1 f;exact M k _ l (h.body.QG u z d b U V p q B k f) (S k _ l (by simp[Kn]<;>decide))
 refine⟨⟨⟨h.ok.geo,h.ok.dead,fun i j=> ?_,fun i j c l=> ?_,h.ok.left,h.ok.keep,h.ok.Kt⟩,?_,h.Nv,?_⟩,?_⟩
 · simp only[Nd.upd]
   split
   · exact Y
   · exact h.ok.len i j
 · simp only[Nd.upd]at l
   split at l
   · grind
   · exact h.ok.MV i j c l
 · exact(st g _ h.head (by simp[Kn]<;>decide) (by simp[Kn]<;>decide)).trans h.head
 · refine⟨⟨D,gM T (st _ _ aa (by simp_all) (by simp_all)),hR⟩,h.body.has,h.body.only,?_,?_,fun i j m hj=> ?_,fun i j m hj=> ?_,h.body.PF,fun i j J K m hj W X B k f=> ?_,h.body.apart,h.body.low⟩
   · exact io h.body.Kt (st _ _ ab (by simp[Kn]<;>decide) (by simp[Kn]<;>decide)) (st _ _ ae (by simp_all) (by simp_all))
   · refine dh h.body.dead fun k f=> ?_
     obtain⟨C,l,-⟩:=aU h.body.dead f;exact st k _ l (by simp[Kn]<;>decide) (by simp[Kn]<;>decide)
   · simp only[Nd.upd]
     split
     · simp_all
     · rename_i e
       have P:=h.body.blk i j m hj;refine(M _ _ P (O _ _ P (by simp[Kn]<;>decide)) fun e'=>e (h.body.PF i j d b m hj p q e')).trans P
   · simp only[Nd.upd]
     split
     · omega
     · rename_i e
       exact⟨dh (h.body.rows i j m hj).1 (ai i j m hj e),(h.body.rows i j m hj).2⟩
   · simp only at f⊢
     have key:∀i j,i<N.D→j<N.B→¬(i=d∧j=b)→∀k,(L.cv i j).ownBlock=some k→v.ownBlock≠some k:=by
      intro i j m hj B k f e;rcases Q with n|n|⟨av,aj,ah⟩
      · simp_all
      · rw[n]at e
        exact h.body.QG i j d b m hj p q B k f e
      · rw[aj]at e
        have:=ed e;obtain⟨C,l,-⟩:=aU (h.body.rows i j m hj).1 f;simp_all
     by_cases e1:i=d∧j=b
     · rw[if_pos e1]at f
       have e2:¬(J=d∧K=b):=fun e2=>B ⟨e1.1.trans e2.1.symm,e1.2.trans e2.2.symm⟩
       rw[if_neg e2];exact fun e3=>key J K W X e2 k e3 f
     · rw[if_neg e1]at f
       by_cases e2:J=d∧K=b
       · rw[if_pos e2]
         exact key i j m hj e1 k f
       · rw[if_neg e2]
         exact h.body.QG i j J K m hj W X B k f
 · refine⟨t.os.trans r.os,t.tape.trans r.tape,t.output.trans r.output,Z,?_,fun k f hg ⟨o,aw,ax⟩=> ?_⟩
   rotate_left
   · grind
   intro k f l
   have H:(L.cv d b).ownBlock≠some k:=by
    intro e;obtain⟨C,h3,h4⟩:=aU (h.body.rows d b p q).1 e;rcases l with l|⟨cs,ak,fr,h5,h6⟩
    · omega
    · rw[h3]at h5
      exact yeg
   have I:k≠L.q d b:=by
    intro e;subst e;rcases l with l|⟨cs,ak,fr,h5,h6⟩
    · have:=h.body.low.2.2.2 d b p q;omega
    · rw[G]at h5
      exact yeg
   simp_all
theorem JU.Qm(h:JU w base g L N){l:Nat}{j:List (Ad×eD)}(A:LY w' 168 L.gp L.bp l j)(m:w.grownBy w' (some L.bp))(B:∀p∈j,p.2=.bool true∧p.1.wf):
 JU w' base g {L with np:=l} {N with Kt:=j}∧Fr base g w w':=by
 obtain⟨K,M,C,O⟩:=h.body.Kt;obtain⟨P,q,E⟩:=di C;have st:∀k o,w.heap[k]? =some o→k≠L.bp→w'.heap[k]? =w.heap[k]? :=fun k o c n=>m.block k (fo.1 c).1 (fun e=>n (ed e))
 have r:∀k (u:Array eD) (t:kb) (fr:Nat×Nat),w.heap[k]? =some (Obj.cells u t fr)→w'.heap[k]? =w.heap[k]? :=fun k u t fr c=>st k _ c (cB c q (by rw[E];simp[Kn]))
 refine⟨⟨⟨h.ok.geo,h.ok.dead,h.ok.len,h.ok.MV,h.ok.left,h.ok.keep,B⟩,(r g _ _ _ h.head).trans h.head,h.Nv,?_⟩,Fr.Ll m q h.body.low.2.2.1 (fun t e=>by simp_all) (fun _=>h.Nv.2.1)⟩;obtain⟨D,z,G⟩:=h.body.map;obtain⟨Q,H,R⟩:=di z
 exact⟨⟨D,gM z (st _ _ H h.body.apart),G⟩,h.body.has,h.body.only,A,dh h.body.dead fun k c=>by obtain⟨I,J,-⟩:=aU h.body.dead c;grind,
  fun d b f i=>(r _ _ _ _ (h.body.blk d b f i)).trans (h.body.blk d b f i),fun d b f i=>⟨dh (h.body.rows d b f i).1 fun k c=>by obtain⟨I,J,-⟩:=aU (h.body.rows d b f i).1 c;grind,(h.body.rows d b f i).2⟩,
  h.body.PF,h.body.QG,h.body.apart,h.body.low⟩
theorem JU.PJ(h:JU w base g L N){dd:List Bool}(i:w.grownBy w' L.dv.ownBlock)(q:w'.ownsRow base 4 1 L.dv N.D (dd.map .bool))(r:dd.length=N.D):
 JU w' base g L {N with dead:=dd}∧Fr base g w w':=by
 have st:∀k o,w.heap[k]? =some o→Kn o≠some 4 →w'.heap[k]? =w.heap[k]? :=fun k o j u=>i.block k (fo.1 j).1 fun e=>by
  obtain⟨n,l,-⟩:=aU h.body.dead e.symm;rw[l]at j;have:=ed j;subst this;exact u rfl
 obtain⟨D,p,z⟩:=h.body.map;obtain⟨G,A,H⟩:=di p;obtain⟨B,I,C,J⟩:=h.body.Kt;obtain⟨K,E,M⟩:=di C;refine⟨⟨⟨h.ok.geo,r,h.ok.len,h.ok.MV,h.ok.left,h.ok.keep,h.ok.Kt⟩,(st g _ h.head (by simp[Kn]<;>decide)).trans h.head,h.Nv,?_⟩,?_⟩
 · exact⟨⟨D,gM p (st _ _ A (by simp_all)),z⟩,h.body.has,h.body.only,io h.body.Kt (st _ _ B (by simp[Kn]<;>decide)) (st _ _ E (by simp_all)),q,
    fun d b f c=>(st _ _ (h.body.blk d b f c) (by simp[Kn]<;>decide)).trans (h.body.blk d b f c),fun d b f c=>⟨dh (h.body.rows d b f c).1 fun k j=>by obtain⟨n,l,-⟩:=aU (h.body.rows d b f c).1 j;exact st k _ l (by simp[Kn]<;>decide),(h.body.rows d b f c).2⟩,
    h.body.PF,h.body.QG,h.body.apart,h.body.low⟩
 · cases m:L.dv.ownBlock with
   |none=>rw[m]at i;exact Fr.PA i
   |some k=>
    rw[m]at i;obtain⟨n,l,c⟩:=aU h.body.dead m;exact Fr.Ll i l c fun t e=>by cases e;rfl
end
theorem qW: prog.underlying 25 =some (.pointer (prog.pointee 25)):=by kernel_rfl
theorem cw(x:Addr)(w:ej):(binOp .neq 25 (.pointer (some x)) (.pointer none)).run prog w=.ok (.bool true) w:=kr w 25 (some x) qW
theorem JY(x:Addr)(w:ej):(binOp .eql 25 (.pointer (some x)) (.pointer none)).run prog w=.ok (.bool false) w:=run_eql_pointer_nil w 25 (some x) qW
theorem mQ(w:ej):(binOp .neq 25 (.pointer none) (.pointer none)).run prog w=.ok (.bool false) w:=kr w 25 none qW
section
variable {w:ej}{base g:Nat}{L:Lay}{N:Nd}
theorem JU.c0(h:JU w base g L N):w.cell? ⟨g,0,none⟩=some (.int .i64 (N.D:Int)):=by rw[ae h.head];rfl
theorem JU.c1(h:JU w base g L N):w.cell? ⟨g,1,none⟩=some (.int .i64 (N.B:Int)):=by rw[ae h.head];rfl
theorem JU.c2(h:JU w base g L N):w.cell? ⟨g,2,none⟩=some (.int .i64 (N.P:Int)):=by rw[ae h.head];rfl
theorem JU.c3(h:JU w base g L N):w.cell? ⟨g,3,none⟩=some (.map (some L.mb)):=by rw[ae h.head];rfl
theorem JU.c4(h:JU w base g L N):w.cell? ⟨g,4,none⟩=some (.pointer (some ⟨L.gp,0,none⟩)):=by rw[ae h.head];rfl
theorem JU.c5(h:JU w base g L N):w.cell? ⟨g,5,none⟩=some L.dv:=by rw[ae h.head];rfl
theorem JU.c6(h:JU w base g L N):w.cell? ⟨g,6,none⟩=some (.bool N.off):=by rw[ae h.head];rfl
theorem JU.c7(h:JU w base g L N):w.cell? ⟨g,7,none⟩=some (.int .i64 (N.ops:Int)):=by rw[ae h.head];rfl
theorem JU.c8(h:JU w base g L N):w.cell? ⟨g,8,none⟩=some (.int .i64 (N.broken:Int)):=by rw[ae h.head];rfl
theorem JU.c9(h:JU w base g L N):w.cell? ⟨g,9,none⟩=some (.bool N.Oy):=by rw[ae h.head];rfl
theorem JU.c10(h:JU w base g L N):w.cell? ⟨g,10,none⟩=some (.int .i64 N.left):=by rw[ae h.head];rfl
theorem JU.c11(h:JU w base g L N):w.cell? ⟨g,11,none⟩=some (.int .i64 (N.keep:Int)):=by rw[ae h.head];rfl
end
theorem zX(d b:Int): prog.built 52 [(0,.int .i64 d),(1,.int .i64 b)]=some (key d b).v.toArray:=by kernel_rfl
theorem fY(d b:Int)(w:ej):Calls prog 53 #[d,b] w fun e f=>e=.returned (.agg (key d b).v.toArray)∧hX w.heap.size w f:=by
 have g:=(hZ _ w).alloc (fj _) (.cells #[.int .i64 0,.int .i64 0,.int .i64 0] 52);have h:=zX d b;go_enter func53, ntmps53;go_wp2_with (first|(refine ac rfl 52 _ rfl [(0,.int .i64 d),(1,.int .i64 b)] rfl (key d b).v h ?_)|(refine ag rfl 52 (.tmp 4) (.tmp 7) rfl w.heap.size (key d b).v rfl rfl 52 _ (aj w _ _ rfl) bL rfl (by simp[key,Ad.v,Value.oneCell']) ?_;intro k c;have i:=c.at_;have j:=c.below g (fj _);clear c));refine jd (v:=.agg (key d b).v.toArray) ?_ rfl ⟨rfl,j⟩;rw[dU rfl _ _ _ _ _ _ _ rfl i underlying52 rfl bL]
section
variable {w:ej}{base g:Nat}{L:Lay}{N:Nd}
theorem qX(h:JU w base g L N):Calls prog 41 #[g] w fun e b=>e=.returned (.int .i64 (N.ops:Int))∧w=b:=by
 have f:=JY;have c:=h.c7;clear h;go_enter func41, ntmps41;exact nj
theorem wM(h:JU w base g L N):Calls prog 25 #[g] w fun e b=>e=.returned (.int .i64 (N.broken:Int))∧w=b:=by
 have f:=JY;have c:=h.c8;clear h;go_enter func25, ntmps25;exact nj
theorem yJ(h:JU w base g L N):Calls prog 38 #[g] w fun e b=>e=.returned (.bool (!N.off))∧w=b:=by
 have f:=cw;have c:=h.c6;clear h;go_enter func38, ntmps38;exact nj
theorem Be(h:JU w base g L N)(i:Nat)(v:eD)(b:Nd)(f:(N.top L).set i v=b.top L)(ok:b.ok)(j:b.D=N.D)(l:b.B=N.B)(m:b.blk=N.blk)(n:b.Kt=N.Kt)(o:b.dead=N.dead):
 JU (w.setCell ⟨g,i,none⟩ v) base g L b∧Fr base g w (w.setCell ⟨g,i,none⟩ v):=by
 have c:=ar (i:=i) h.head v;refine h.PO ⟨c.os,c.tape,c.output,by rw[c.size];exact fj _,fun k _ p=>c.block k fun e=>p (by rw[e])⟩ ?_ ok j l m n o;rw[c.at_,f]
theorem GM(h:JU w base g L N):Calls prog 52 #[g] w fun e b=>e=.returned (.tuple #[])∧JU b base g L N.on∧Fr base g w b:=by
 have f:=cw;have a1:=Be h 6 (.bool false) {N with off:=false} rfl ⟨h.ok.geo,h.ok.dead,h.ok.len,h.ok.MV,h.ok.left,h.ok.keep,h.ok.Kt⟩ rfl rfl rfl rfl rfl;have a2:=Be a1.1 9 (.bool false) N.on rfl ⟨h.ok.geo,h.ok.dead,h.ok.len,h.ok.MV,by simp[Nd.on],h.ok.keep,h.ok.Kt⟩ rfl rfl rfl rfl rfl;have c:=qZ (And.intro a2.1 (a1.2.trans a2.2));have c6:=h.c6;have f6:=ao h.head 6;have c9:=a1.1.c9;have f9:=ao a1.1.head 9;clear h a1 a2;go_enter func52, ntmps52;go_wp2_with fail;go_end0
 exact⟨rfl,c.out⟩
theorem oC(N:Nd)(a:Ad):inG (N.D:Int) (N.B:Int) (N.P:Int) a.d a.b a.p=N.inG a:=by
 rw[Bool.eq_iff_iff];simp[inG,Nd.inG,wiB];omega
theorem cN:(prog.info? 23).map (·.size)=some 3:=by kernel_rfl
theorem lw(h:JU w base g L N):w.rangeAt g 0 [.int .i64 (N.D:Int),.int .i64 (N.B:Int),.int .i64 (N.P:Int)]:=by
 have:=bN (w:=w) h.head [] [.int .i64 (N.D:Int),.int .i64 (N.B:Int),.int .i64 (N.P:Int)] _ rfl 0 rfl;exact this
end
end JT
theorem yfl{A:Prop}(h:A:=by
 go_wp2_with fail;go_ret;exact⟨by rw[HR2.out];rfl,jb.drew⟩):A:=h
namespace JT
section
variable {w:ej}{base g:Nat}{L:Lay}{N:Nd}
theorem lR{w e:ej}{b i:Nat}{c:eD}{f:List eD}(h:w.rangeAt b i (c::f))(k:hX w.heap.size w e):e.rangeAt b i (c::f):=by
 have l:b<w.heap.size:=iP w ⟨b,i+0,none⟩ (h 0 c rfl);intro j v m;exact(k.cell (p:=⟨b,i+j,none⟩) l).trans (h j v m)
theorem dG(h:JU w base g L N)(x:Ad)(hx:x.wf):Calls prog 59 #[.pointer (some ⟨g,0,none⟩),.agg x.v.toArray] w fun e w'=>e=.returned (.int .i64 (N.Kg x))∧hX w.heap.size w w':=by
 have ak:=JY;have h1:=h.below ((hZ _ w).alloc (fj _) (.cells x.v.toArray 52));have U:=l4 w (.cells x.v.toArray 52);have V:=(hZ _ w).alloc (fj _) (.cells x.v.toArray 52);clear h;go_enter func59, ntmps59;go_upto_region 1 with fail
 generalize w.alloc (.cells x.v.toArray 52)=r at*;have c6:=h1.c6;have m:=qZ h1;have z:=qZ V;have W:=qZ U;clear h1 V U;cases n:N.off with
 |true=>
  rw[n]at c6;have D:=qZ (show N.Kg x=9 by simp[Nd.Kg,n]);clear n;go_wp2_with fail;go_ret;exact⟨by rw[D.out];rfl,z⟩
 |false=>
  rw[n]at c6;have u:N.Kg x=if N.inG x then(if N.dead.getD x.d.toNat false then 8 else 0)else 3:=by simp[Nd.Kg,n]
  clear n;have E:=lw m;have Y:=m.out.ok.geo;cases l:N.inG x with
  |false=>
   have D:=qZ (show N.Kg x=3 by rw[u,l];rfl)
   have G:=qZ (show∀w,Calls prog 80 #[.agg ([.int .i64 (N.D:Int),.int .i64 (N.B:Int),.int .i64 (N.P:Int)]).toArray,.agg x.v.toArray] w fun e w'=>e=.returned (.bool false)∧hX w.heap.size w w' from fun w=>by
    have:=jA (N.D:Int) (N.B:Int) (N.P:Int) x.d x.b x.p w (by omega) (by omega) (by omega);rw[oC,l]at this;exact this)
   clear u l Y;go_upto_region 5 with fail
   clear c6
   refine dz (X:=Unit) (fun _=> [(some 14,.pointer (some ⟨g,0,none⟩)),(some 15,.pointer (some ⟨g,0,none⟩)),(some 16,.pointer (some ⟨g,0,none⟩)),(some 17,.agg ([.int .i64 (N.D:Int),.int .i64 (N.B:Int),.int .i64 (N.P:Int)]).toArray),(some 18,.agg (x.v).toArray),(some 19,.bool false),(some 20,.bool true),(some 13,.bool true)])
    (fun _ L w'=>w'.rangeAt g 0 [.int .i64 (N.D:Int),.int .i64 (N.B:Int),.int .i64 (N.P:Int)]∧w'.heap[w.heap.size]? =some (.cells x.v.toArray 52 (0,0))∧hX w.heap.size w w') ⟨(),fun _ _=>⟨E,W,z.drew⟩⟩ ?_ ?_
   · refine⟨rr,rr,rr,?_,?_,?_,rr,rr,trivial⟩
     all_goals
      intro ux L w' hL hpre hJ a ha he;try simp[gg]at hpre
     · obtain⟨j,f,jb⟩:=hJ.out
       refine Wn ?_;exact jt 23 (.tmp 16) rfl g 0 (aZ 2) ([.int .i64 (N.D:Int),.int .i64 (N.B:Int),.int .i64 (N.P:Int)]) _ j underlying23 rfl cN ⟨(),_,rfl,rfl,j,f,jb⟩
     · obtain⟨j,f,jb⟩:=hJ.out
       refine Wn ?_;exact jt 52 (.tmp 3) rfl w.heap.size 0 ev (x.v) _ (ai f) underlying52 rfl bL ⟨(),_,rfl,rfl,j,f,jb⟩
     · refine dM ?_
       intro K HK;refine(G w').mono ?_;rintro e ag ⟨rfl,k⟩;exact HK _ _ ⟨(),_,rfl,rfl,lR hJ.out.1 k,aa hJ.out.2.1 k,hJ.out.2.2.trans (k.mono hJ.out.2.2.size)⟩
   · intro _ L w' hL hJ
     obtain⟨j,f,jb⟩:=hJ;clear hL;simp only[hG,hO];go_simp;go_wp2_with fail;go_ret;exact⟨by rw[D.out];rfl,jb⟩
  |true=>
   have H:N.Kg x=if N.dead.getD x.d.toNat false then 8 else 0:=by rw[u,l];rfl
   have I:(0≤x.d∧x.d<N.D)∧(0≤x.b∧x.b<N.B)∧(0≤x.p∧x.p<N.P):=by simpa[Nd.inG]using l
   have G:=qZ (show∀w,Calls prog 80 #[.agg ([.int .i64 (N.D:Int),.int .i64 (N.B:Int),.int .i64 (N.P:Int)]).toArray,.agg x.v.toArray] w fun e w'=>e=.returned (.bool true)∧hX w.heap.size w w' from fun w=>by
    have:=jA (N.D:Int) (N.B:Int) (N.P:Int) x.d x.b x.p w (by omega) (by omega) (by omega);rw[oC,l]at this;exact this)
   have Z:=I.1.1;have ah:=I.1.2;obtain⟨M,cd,O,-,-,-,-⟩:=aS m.body.dead (by omega);obtain⟨d,hd⟩:=eX Z;have ab:d<N.dead.length:=by rw[m.out.ok.dead];omega
   have ad:N.dead.getD x.d.toNat false=N.dead[d]:=by rw[hd,jw,js,ek ab];rfl
   rw[ad]at H;have R:=m.out.body.dead;rw[O]at R
   have S:r.cell? ⟨M,d,none⟩=some (.bool N.dead[d]):=by
    rw[R.cellAt d (by omega),jI,ek ab];rfl
   have c5:=m.out.c5;rw[O]at c5;have ae:=qZ c5;have af:=qZ S;have al:(d:Int)<(N.D:Int):=by omega
   have aj:=qZ hd;generalize N.dead[d]=bd at*;have HR2:=qZ H;clear u l Y I O ad R c5 S Z ah hd H;go_upto_region 5 with fail
   clear c6
   refine dz (X:=Unit) (fun _=> [(some 14,.pointer (some ⟨g,0,none⟩)),(some 15,.pointer (some ⟨g,0,none⟩)),(some 16,.pointer (some ⟨g,0,none⟩)),(some 17,.agg ([.int .i64 (N.D:Int),.int .i64 (N.B:Int),.int .i64 (N.P:Int)]).toArray),(some 18,.agg (x.v).toArray),(some 19,.bool true),(some 20,.bool false),(some 13,.bool false)])
    (fun _ L w'=>w'.rangeAt g 0 [.int .i64 (N.D:Int),.int .i64 (N.B:Int),.int .i64 (N.P:Int)]∧w'.heap[w.heap.size]? =some (.cells x.v.toArray 52 (0,0))∧hX r.heap.size r w'∧hX w.heap.size w w') ⟨(),fun _ _=>⟨E,W,(hZ _ r).drew,z.drew⟩⟩ ?_ ?_
   · refine⟨rr,rr,rr,?_,?_,?_,rr,rr,trivial⟩
     all_goals
      intro ux L w' hL hpre hJ a ha he;try simp[gg]at hpre
     · obtain⟨j,f,q,jb⟩:=hJ.out
       refine Wn ?_;exact jt 23 (.tmp 16) rfl g 0 (aZ 2) ([.int .i64 (N.D:Int),.int .i64 (N.B:Int),.int .i64 (N.P:Int)]) _ j underlying23 rfl cN ⟨(),_,rfl,rfl,j,f,q,jb⟩
     · obtain⟨j,f,q,jb⟩:=hJ.out
       refine Wn ?_;exact jt 52 (.tmp 3) rfl w.heap.size 0 ev (x.v) _ (ai f) underlying52 rfl bL ⟨(),_,rfl,rfl,j,f,q,jb⟩
     · refine dM ?_
       intro K HK;refine(G w').mono ?_;rintro e ag ⟨rfl,k⟩;exact HK _ _ ⟨(),_,rfl,rfl,lR hJ.out.1 k,aa hJ.out.2.1 k,hJ.out.2.2.1.trans (k.mono hJ.out.2.2.1.size),hJ.out.2.2.2.trans (k.mono hJ.out.2.2.2.size)⟩
   · intro _ L w' hL hJ
     obtain⟨j,f,q,jb⟩:=hJ;clear hL;simp only[hG,hO];have T:=qZ q;clear q;obtain⟨d0,d1,d2⟩:=cM f;rw[aj.out]at d0;have hs:r.heap.size≤w'.heap.size:=T.size;have c5:w'.cell? ⟨g,5,none⟩=some (.slice (some ⟨M,0,none⟩) N.D cd):=(T.cell (iP _ _ ae)).trans ae;have S:w'.cell? ⟨M,d,none⟩=some (.bool bd):=(T.cell (iP _ _ af)).trans af;go_simp;clear j f d1 d2 E;go_upto_region 7 with fail
     go_region;cases bd with
     |true=>
      exact yfl
     |false=>
      exact yfl
end
end JT
theorem ycy{A:Prop}(h:A:=by
 go_enter func60, ntmps60;go_wp2_with fail;go_ret;exact⟨by rw[HB.out];rfl,HF.out⟩):A:=h
namespace JT
section
variable {w:ej}{base g:Nat}{L:Lay}{N:Nd}
theorem FL(h:N.ok):N.La.ok:=by
 unfold Nd.La;split
 · split
   · exact⟨h.geo,h.dead,h.len,h.MV,by simp,h.keep,h.Kt⟩
   · rename_i c e
     exact⟨h.geo,h.dead,h.len,h.MV,fun b=>⟨by simp only;omega,by have:=h.left b;simp only;omega⟩,h.keep,h.Kt⟩
 · exact⟨h.geo,h.dead,h.len,h.MV,h.left,h.keep,h.Kt⟩
theorem rA(h:JU w base g L N)(D:N.ops≤1000000000000000):Calls prog 60 #[.pointer (some ⟨g,0,none⟩)] w fun e q=>e=.returned (.bool N.Li)∧JU q base g L N.La∧Fr base g w q:=by
 have b:=h.ok;have a1:=Be h 7 (.int .i64 ((N.ops:Int)+1)) {N with ops:=N.ops+1} (by simp[Nd.top]) ⟨b.geo,b.dead,b.len,b.MV,b.left,b.keep,b.Kt⟩ rfl rfl rfl rfl rfl;have c7:=h.c7;have f7:=ao h.head 7;have E:wrap64 ((N.ops:Int)+1)=(N.ops:Int)+1:=by go_arith
 have c9:=a1.1.c9;simp only at c9;cases c:N.Oy with
 |false=>
  rw[c]at c9
  have HF:=qZ (show JU (w.setCell ⟨g,7,none⟩ (.int .i64 ((N.ops:Int)+1))) base g L N.La∧Fr base g w (w.setCell ⟨g,7,none⟩ (.int .i64 ((N.ops:Int)+1))) by
   have e:N.La={N with ops:=N.ops+1}:=by simp[Nd.La,c]
   rw[e];exact a1)
  have HB:=qZ (show N.Li=false by simp[Nd.Li,c]);clear h a1 b c;exact ycy
 |true=>
  rw[c]at c9;obtain⟨r,t⟩:=b.left c;have G:wrap64 (N.left-1)=N.left-1:=by go_arith
  have c10:=a1.1.c10;simp only at c10;have f10:=ao a1.1.head 10;by_cases n:N.left-1<0
  · have z:N.left=0:=by omega
    have f:=ar (i:=10) a1.1.head (.int .i64 (N.left-1));have j:=ar (i:=9) f.at_ (.bool false);have l:=ar (i:=6) j.at_ (.bool true);have m:N.La={N with ops:=N.ops+1,left:=N.left-1,Oy:=false,off:=true}:=by simp[Nd.La,c,n]
    have o:=a1.1.PO (N':=N.La) ⟨l.os.trans (j.os.trans f.os),l.tape.trans (j.tape.trans f.tape),l.output.trans (j.output.trans f.output),by rw[l.size,j.size,f.size];exact fj _,
     fun k _ B=>by
      have p:k≠g:=fun e=>B (by rw[e])
      exact((l.block k p).trans (j.block k p)).trans (f.block k p)⟩ (by rw[l.at_,m];rfl) (FL b) (by rw[m]) (by rw[m]) (by rw[m]) (by rw[m]) (by rw[m])
    have u:((w.setCell ⟨g,7,none⟩ (.int .i64 ((N.ops:Int)+1))).setCell ⟨g,10,none⟩ (.int .i64 (N.left-1))).cell? ⟨g,10,none⟩=some (.int .i64 (N.left-1)):=by rw[ae f.at_];rfl
    have H:((w.setCell ⟨g,7,none⟩ (.int .i64 ((N.ops:Int)+1))).setCell ⟨g,10,none⟩ (.int .i64 (N.left-1))).cell? ⟨g,9,none⟩=some (.bool N.Oy):=by rw[ae f.at_];rfl
    have I:=ao f.at_ 9;have J:(((w.setCell ⟨g,7,none⟩ (.int .i64 ((N.ops:Int)+1))).setCell ⟨g,10,none⟩ (.int .i64 (N.left-1))).setCell ⟨g,9,none⟩ (.bool false)).cell? ⟨g,6,none⟩=some (.bool N.off):=by rw[ae j.at_];rfl
    have K:=ao j.at_ 6;have HF:=qZ (And.intro o.1 (a1.2.trans o.2));have HB:=qZ (show N.Li=true by simp[Nd.Li,c,n]);have C:¬(0:Int)≤N.left-1:=by omega
    clear h a1 o f j l m b c n r t z;exact ycy
  · have a2:=Be a1.1 10 (.int .i64 (N.left-1)) {N with ops:=N.ops+1,left:=N.left-1} rfl ⟨b.geo,b.dead,b.len,b.MV,fun c=>⟨by simp only;omega,by simp only;omega⟩,b.keep,b.Kt⟩ rfl rfl rfl rfl rfl
    have u:=a2.1.c10;simp only at u;have C:(0:Int)≤N.left-1:=by omega
    have HF:=qZ (show JU ((w.setCell ⟨g,7,none⟩ (.int .i64 ((N.ops:Int)+1))).setCell ⟨g,10,none⟩ (.int .i64 (N.left-1))) base g L N.La∧Fr base g w ((w.setCell ⟨g,7,none⟩ (.int .i64 ((N.ops:Int)+1))).setCell ⟨g,10,none⟩ (.int .i64 (N.left-1))) by
     have e:N.La={N with ops:=N.ops+1,left:=N.left-1}:=by simp[Nd.La,c,n]
     rw[e];exact⟨a2.1,a1.2.trans a2.2⟩)
    have HB:=qZ (show N.Li=false by simp[Nd.Li,c,n]);clear h a1 a2 b c n r t;exact ycy
end
end JT
theorem ydn{A:Prop}(h:A:=by
 have HF:=qZ a;clear h hok hoff eN a hk;go_enter func37, ntmps37;go_wp2_with fail;go_end0
 exact⟨rfl,HF.out⟩):A:=h
namespace JT
section
variable {w:ej}{base g:Nat}{L:Lay}{N:Nd}
theorem J9(h:JU w base g L N)(b c n p:eD)(f:Nd)(r:((((N.top L).set 9 b).set 10 c).set 11 n).set 6 p=f.top L)(ok:f.ok)(t:f.D=N.D)(u:f.B=N.B)(z:f.blk=N.blk)(A:f.Kt=N.Kt)(B:f.dead=N.dead):
 (JU ((((w.setCell ⟨g,9,none⟩ b).setCell ⟨g,10,none⟩ c).setCell ⟨g,11,none⟩ n).setCell ⟨g,6,none⟩ p) base g L f∧Fr base g w ((((w.setCell ⟨g,9,none⟩ b).setCell ⟨g,10,none⟩ c).setCell ⟨g,11,none⟩ n).setCell ⟨g,6,none⟩ p))∧
 (w.setCell ⟨g,9,none⟩ b).cell? ⟨g,10,none⟩=some (.int .i64 N.left)∧(w.setCell ⟨g,9,none⟩ b).frozen? ⟨g,10,none⟩=false∧
 ((w.setCell ⟨g,9,none⟩ b).setCell ⟨g,10,none⟩ c).cell? ⟨g,11,none⟩=some (.int .i64 (N.keep:Int))∧((w.setCell ⟨g,9,none⟩ b).setCell ⟨g,10,none⟩ c).frozen? ⟨g,11,none⟩=false∧
 (((w.setCell ⟨g,9,none⟩ b).setCell ⟨g,10,none⟩ c).setCell ⟨g,11,none⟩ n).cell? ⟨g,6,none⟩=some (.bool N.off)∧(((w.setCell ⟨g,9,none⟩ b).setCell ⟨g,10,none⟩ c).setCell ⟨g,11,none⟩ n).frozen? ⟨g,6,none⟩=false:=by
 have j:=ar (i:=9) h.head b;have l:=ar (i:=10) j.at_ c;have m:=ar (i:=11) l.at_ n;have o:=ar (i:=6) m.at_ p
 refine⟨h.PO ⟨o.os.trans (m.os.trans (l.os.trans j.os)),o.tape.trans (m.tape.trans (l.tape.trans j.tape)),o.output.trans (m.output.trans (l.output.trans j.output)),by rw[o.size,m.size,l.size,j.size];exact fj _,
  fun k _ C=>by
   have q:k≠g:=fun e=>C (by rw[e])
   exact(((o.block k q).trans (m.block k q)).trans (l.block k q)).trans (j.block k q)⟩ (by rw[o.at_,r]) ok t u z A B,?_,ao j.at_ 10,?_,ao l.at_ 11,?_,ao m.at_ 6⟩
 · rw[ae j.at_];rfl
 · rw[ae l.at_];rfl
 · rw[ae m.at_];rfl
theorem zN(h:JU w base g L N)(b keep:Int)(i:b≤9223372036854775807):Calls prog 37 #[g,b,keep] w fun e f=>e=.returned (.tuple #[])∧JU f base g L (N.cutAt b keep)∧Fr base g w f:=by
 have m:=JY;have hok:=h.ok;have c6:=h.c6;cases hoff:N.off with
 |true=>
  rw[hoff]at c6
  have HF:=qZ (show JU w base g L (N.cutAt b keep)∧Fr base g w w by
   have e:N.cutAt b keep=N:=by simp[Nd.cutAt,hoff]
   rw[e];exact⟨h,Fr.refl _ _ _⟩)
  clear h hok hoff;go_enter func37, ntmps37;go_wp2_with fail;refine jd (v:=.tuple #[]) (results_none (fn:= f37) rfl _ _ _) rfl ?_;exact⟨rfl,HF.out⟩
 |false=>
  rw[hoff]at c6;have c9:=h.c9;have f9:=ao h.head 9;have hk:0≤min (max keep 0) 32:=by omega
  by_cases c:0≤b
  · have eN:N.cutAt b keep={N with Oy:=true,left:=b,keep:=(min (max keep 0) 32).toNat,off:=false}:=by
     simp[Nd.cutAt,hoff,c]<;>omega
    have j:¬b<0:=by omega
    obtain⟨a,c10,f10,c11,f11,k,l⟩:=J9 h (.bool true) (.int .i64 b) (.int .i64 (min (max keep 0) 32)) (.bool false) (N.cutAt b keep) (by rw[eN];simp[Nd.top,lx hk]) (by rw[eN];exact⟨hok.geo,hok.dead,hok.len,hok.MV,fun _=>⟨c,i⟩,by simp only;omega,hok.Kt⟩) (by rw[eN]) (by rw[eN]) (by rw[eN]) (by rw[eN]) (by rw[eN]);exact ydn
  · have eN:N.cutAt b keep={N with Oy:=false,left:=b,keep:=(min (max keep 0) 32).toNat,off:=true}:=by
     simp[Nd.cutAt,hoff,c]<;>omega
    have j:b<0:=by omega
    obtain⟨a,c10,f10,c11,f11,k,l⟩:=J9 h (.bool false) (.int .i64 b) (.int .i64 (min (max keep 0) 32)) (.bool true) (N.cutAt b keep) (by rw[eN];simp[Nd.top,lx hk]) (by rw[eN];exact⟨hok.geo,hok.dead,hok.len,hok.MV,by simp,by simp only;omega,hok.Kt⟩) (by rw[eN]) (by rw[eN]) (by rw[eN]) (by rw[eN]) (by rw[eN]);exact ydn
end
theorem AD{w:ej}{b n:Nat}{D:l5 eD}{f:List (Ad×eD)}{t e:kb}(h:w.ownsMap prog 52 Ks b n D)(k:Rel D f){a:Ad}(l:a.wf){v:eD}(m:(a,v)∈f)(p: prog.underlying t=some (.map 52 e)){z:eD}(q:(zeroValue e).run prog w=.ok z w):
 (jg t (.map (some b)) (.agg a.v.toArray) false).run prog w=.ok v w:=by
 have r:keyOf prog 52 (.agg #[a.d,a.b,a.p])=some (klA a):=cy l;obtain⟨C,clock,u,F,E,rfl⟩:=h;have c:=k.at_ _ v m;rcases Maps.fit_look false dm p q u F r with⟨o,-,g⟩|⟨i,y,-,-,o,A,g,-⟩
 · have B:=Maps.has_false_of_atKey g
   have:=(k.has a l).2 (List.mem_map.2 ⟨(a,v),m,rfl⟩);rw[B]at this;cases this
 · have c:=c (.held v)
   rw[g]at c;have j:y=(DataW.held i.val,[]):=(ed (show some ((DataW.held i.val:l5 eD),([]:List MemPlace))=some y from A)).symm;rw[j]at c;have j:i.val=v:=DataW.held.inj c;have:(jg t (.map (some b)) (.agg a.v.toArray) false).run prog w=(jg t (.map (some b)) (.agg #[a.d,a.b,a.p]) false).run prog w:=rfl
   rw[this,o,j];rfl
end JT
theorem yb5{A:Prop}(h:A:=by
 refine dM ?_;intro K HK;refine(fY x.d x.b w').mono ?_;rintro e w'' ⟨rfl,hb⟩;exact HK _ _ ⟨(),_,rfl,rfl,aa hJ.out.1 hb,aa hJ.out.2.1 hb,(JU.below hJ.out.2.2.1 hb),hJ.out.2.2.2.trans (hb.mono hJ.out.2.2.2.size)⟩):A:=h
theorem ydc{A:Prop}(h:A:=by
 rw[aD rfl _ _ _ _ _ _ _ rfl h5 underlying55 rfl (bf rfl)];rfl):A:=h
namespace JT
section
variable {w:ej}{base g:Nat}{Y:Lay}{N:Nd}
theorem dV{x:Ad}(h:N.Kg x=0):N.off=false∧N.inG x=true∧N.dead.getD x.d.toNat false=false:=by
 unfold Nd.Kg at h;split at h
 · cases h
 · rename_i b
   split at h
   · rename_i c
     split at h
     · cases h
     · rename_i e
       exact⟨by simpa using b,c,by simpa using e⟩
   · cases h
theorem lq{x:Ad}(h:N.inG x=true):(0≤x.d∧x.d<N.D)∧(0≤x.b∧x.b<N.B)∧(0≤x.p∧x.p<N.P):=by simpa[Nd.inG]using h
theorem rU(w:ej):(zeroValue 102).run prog w=.ok (.pointer none) w:=by kernel_rfl
theorem ro{d b:Nat}(c:d<100)(e:b<100):(key (d:Int) (b:Int)).wf:=by
 refine⟨?_,?_,rfl⟩<;>simp[key,Lit.wf,IntKind.min,IntKind.max,IntKind.bits,IntKind.signed]<;>omega
theorem rg{c:ej}(h:JU c base g Y N){x:Ad}(e:N.inG x=true)(n:ej):(jg 77 (.map (some Y.mb)) (.agg (key x.d x.b).v.toArray) false).run prog c=.ok (.pointer (some ⟨Y.q x.d.toNat x.b.toNat,0,none⟩)) c:=by
 obtain⟨⟨d0,d1⟩,⟨f,o⟩,-⟩:=lq e;obtain⟨D,i,j⟩:=h.body.map;have p:=h.ok.geo;obtain⟨d,k⟩:=eX d0;obtain⟨b,l⟩:=eX f;have m:=h.body.has d b (by omega) (by omega);rw[k,l];exact AD i j (ro (by omega) (by omega)) m underlying77 (rU c)
theorem dH(h:JU w base g Y N)(x:Ad)(hx:x.wf):Calls prog 201 #[g,.agg x.v.toArray] w fun e w'=>e=.returned (.tuple #[.agg (An .u8 (N.KC x)).toArray,.int .i64 (N.K9 x)])∧hX w.heap.size w w':=by
 have ak:=cG w (.cells x.v.toArray 52) (.cells (An .u8 Kp).toArray 55);have ha:=bu w (.cells x.v.toArray 52) (.cells (An .u8 Kp).toArray 55);have hz:=aj (w.alloc (.cells x.v.toArray 52)) (.cells (An .u8 Kp).toArray 55) (w.heap.size+1) (by simp);have hN:=h.below ak;have aN:(w.alloc (.cells x.v.toArray 52)).heap.size=w.heap.size+1:=by simp
 clear h;go_enter func201, ntmps201;go_upto_region 1 with fail
 change Code.wp _ _ _ _ ((w.alloc (.cells x.v.toArray 52)).alloc (.cells (An .u8 Kp).toArray 55));generalize (w.alloc (.cells x.v.toArray 52)).alloc (.cells (An .u8 Kp).toArray 55)=w2 at*;obtain⟨c0,c1,c2⟩:=cM ha;have CR:=qZ (dG hN x hx);have aw:=qZ ha;have ax:=qZ hz;have ay:=qZ hN;have al:=qZ ak;clear ha hz hN ak aN;go_wp2_with fail;refine CR.out.mono ?_;rintro e w3 ⟨rfl,hb⟩;have HA:=qZ (aa aw hb);have HZ:=qZ (aa ax hb);have HN:=qZ (ay.below hb);have HB:=qZ (al.trans (hb.mono al.size));have T: prog.built 55 []=some (An .u8 Kp).toArray:=by kernel_rfl
 clear hb aw ax ay al c0 c1 c2 CR;by_cases n:N.Kg x=0
 · have az:(N.Kg x==0)=true:=by rw[n];rfl
   obtain⟨-,aA,-⟩:=dV n;have aB:=qZ aA;have HR:=qZ n;obtain⟨j,aC⟩:∃j,j=Y.q x.d.toNat x.b.toNat:=⟨_,rfl⟩;have aE:=qZ aC.symm;clear n aA aC;rw[HR.out];clear az;go_upto_region 4 with fail
   refine dz (X:=Unit) (fun _=> [(some 15,g),(some 16,g),(some 17,.pointer (some ⟨g,3,none⟩)),(some 18,.map (some Y.mb)),(some 19,w.heap.size),(some 20,x.d),(some 21,.pointer (some ⟨w.heap.size,1,none⟩)),(some 22,x.b),(some 23,.agg (key x.d x.b).v.toArray),(some 24,j),(some 7,j)])
    (fun _ L w'=>w'.heap[w.heap.size]? =some (.cells x.v.toArray 52 (0,0))∧w'.heap[w.heap.size+1]? =some (.cells (An .u8 Kp).toArray 55 (0,0))∧JU w' base g Y N∧hX w.heap.size w w') ⟨(),fun _ _=>⟨HA,HZ,(HN.drew),HB.drew⟩⟩ ?_ ?_
   · refine⟨rr,rr,rr,?_,rr,?_,rr,?_,?_,?_,rr,trivial⟩
     all_goals
      intro ux L w' hL hpre hJ a ha he;try simp[gg]at hpre
     · have D:=hJ.out.2.2.1.c3
       exact cH
     · obtain⟨D,-,-⟩:=cM hJ.out.1
       exact cH
     · obtain⟨-,D,-⟩:=cM hJ.out.1
       exact cH
     · exact yb5
     · have D:=rg hJ.out.2.2.1 aB w'
       rw[aE.out]at D;exact cH
   · intro _ L w' hL hJ
     obtain⟨G,m,M,E⟩:=hJ;clear hL;simp only[hG,hO];go_simp;have aF:=lq aB;have aG:=M.ok.geo;have O:=M.body.rows x.d.toNat x.b.toNat (by omega) (by omega);have ab:=M.body.blk x.d.toNat x.b.toNat (by omega) (by omega);have aO:=M.ok.len x.d.toNat x.b.toNat;have an:=M.ok.MV x.d.toNat x.b.toNat;rw[aE.out]at ab;have q:N.K9 x=match(N.at x).cells[x.p.toNat]? with|none=>5|some c=>if c.lost then 6 else 0:=by unfold Nd.K9;rw[if_neg (by rw[HR.out];simp)]<;>rfl
     have u:N.KC x=match(N.at x).cells[x.p.toNat]? with|none=>kk 32 0|some c=>if c.lost then kk 32 0 else c.p:=by unfold Nd.KC;rw[if_neg (by rw[HR.out];simp)]<;>rfl
     unfold Nd.at at q u;generalize N.blk x.d.toNat x.b.toNat=f at*;generalize Y.cv x.d.toNat x.b.toNat=cv at*;obtain⟨Ac,D,rfl,a2,-⟩:=O.slice;have cq:w'.cell? ⟨j,0,none⟩=some (.slice Ac f.cells.length D):=by rw[ae ab];rfl
     obtain⟨-,-,ca⟩:=cM G;obtain⟨p,hp⟩:=eX aF.2.2.1;rw[hp]at ca q u;rw[jw]at q u;have aI:j≠w.heap.size+1:=cB ab m (by simp[Kn]<;>decide);have U:=qZ m;have ao:=qZ E;have a3:=qZ aG;have a4:f.cells.length≤8:=by omega
     clear m G M ab aG E aF aO hp;have T:=T;by_cases aq:p<f.cells.length
     · have R:f.cells[p]? =some f.cells[p]:=ek aq
       obtain⟨ad,-⟩:=an _ (List.getElem_mem aq);rw[R]at q u;obtain⟨z,a5,ec,-,aQ,-,-⟩:=aS O.1 (by omega);cases ec
       obtain⟨b',o',ec,-,af⟩:=aH O.rds aq (r:=f.cells[p].v) (by rw[Mb,jI,R];rfl);cases ec
       rw[Nat.zero_add]at af;obtain⟨a6,aJ,-⟩:=aU O.1 (k:=z) rfl;generalize f.cells[p]=c at*;have cl:w'.cell? ⟨z,p*34+32,none⟩=some (.bool c.lost):=af 32 _ (by rw[Cel.v,List.getElem?_append_right (by rw[ah,ad];exact fj _),ah,ad];rfl);have aR:=qZ (show w'.rangeAt z (p*34) (An .u8 c.p)from fun aT v hv=>af aT v (by rw[Cel.v,List.getElem?_append_left (List.getElem?_eq_some_iff.1 hv).1];exact hv));have aV:(p:Int)<(f.cells.length:Int):=by omega
       have ai:=qZ ad;have ar:=qZ (And.intro (cB aJ U (by simp[Kn]<;>decide)) (And.intro aI (show w.heap.size≠w.heap.size+1 by omega)));generalize f.cells.length=au at*;have aW:=qZ cq;have aX:=qZ ca;have aK:=qZ q;have aL:=qZ u;clear af R ad an O aJ q u aI aQ;go_upto_region 5 with fail
       go_region;go_wp2_with fail;go_region;cases S:c.lost with
       |true=>
        have H:=qZ (show N.K9 x=6 by rw[aK.out];simp[S]);have I:=qZ (show N.KC x=Kp by rw[aL.out];simp[S,Kp]);clear S;go_wp2_with (first|(refine ac rfl 55 _ rfl [] rfl (An .u8 Kp) T ?_)|(refine ag rfl 55 (.tmp 4) (.tmp 45) rfl (w.heap.size+1) (An .u8 Kp) rfl rfl 55 _ (show w'.drew.drew.heap[w.heap.size+1]? =_ from U) (bf rfl) rfl (av _ _) ?_;intro w5 l;have h5:=l.at_;have V:=l.below ao.drew.drew (by omega);clear l));refine jd (v:=.tuple #[.agg (An .u8 Kp).toArray,.int .i64 6]) ?_ rfl ⟨by rw[I.out,H.out],V⟩;exact ydc
       |false=>
        have H:=qZ (show N.K9 x=0 by rw[aK.out];simp[S]);have I:=qZ (show N.KC x=c.p by rw[aL.out];simp[S]);clear S cq ca cl;go_upto_region 9 with fail
        refine dz (X:=Unit) (fun _=> [(some 46,j),(some 47,j),(some 48,j),(some 49,.slice (some ⟨z,0,none⟩) au D),(some 50,.pointer (some ⟨w.heap.size,2,none⟩)),(some 51,(p:Int)),(some 52,.pointer (some ⟨z,p*34,none⟩)),(some 53,.pointer (some ⟨z,p*34,none⟩)),(some 54,.agg (An .u8 c.p).toArray),(none,undef),(some 5,.int .i64 0)])
         (fun _ L w'=>w'.rangeAt z (p*34) (An .u8 c.p)∧w'.heap[w.heap.size+1]? =some (.cells (bif L 9 then An .u8 c.p else An .u8 Kp).toArray 55 (0,0))∧w'.cell? ⟨j,0,none⟩=some (.slice (some ⟨z,0,none⟩) au D)∧w'.cell? ⟨w.heap.size,2,none⟩=some (.int .i64 (p:Int))∧hX w.heap.size w w') ⟨(),fun L hL=>⟨aR,(by rw[hL 9];exact U),aW,aX,ao.drew.drew.drew⟩⟩ ?_ ?_
        · refine⟨rr,rr,rr,?_,rr,?_,rr,rr,?_,?_,?_,trivial⟩
          all_goals
           intro ux L w' hL hpre hJ a ha he;try simp[gg]at hpre
          · have cx:=hJ.out.2.2.1
            exact cH
          · have cx:=hJ.out.2.2.2.1
            exact cH
          · obtain⟨W,m,jq,G,E⟩:=hJ.out
            refine Wn ?_;exact jt 55 (.tmp 53) rfl z (p*34) (aZ 7) (An .u8 c.p) _ W underlying55 rfl (bf ai) ⟨(),_,rfl,rfl,W,m,jq,G,E⟩
          · obtain⟨W,m,jq,G,E⟩:=hJ.out
            refine Wn ?_;have e4:a.eval (.tmp 4)=.pointer (some ⟨w.heap.size+1,0,none⟩):=ev;have aY:=aZ 8;rw[hL]at m;refine lE 55 (.tmp 4) (.tmp 54) rfl (w.heap.size+1) (An .u8 c.p) e4 aY 55 _ m (bf ai) (by rw[ah,ai.out];rfl) (av _ _) ?_;intro w'' Z;exact⟨(),_,rfl,rfl,Z.range W ar.1,Z.at_,(kn (Z.block j ar.2.1)).trans jq,(kn (Z.block _ ar.2.2)).trans G,Z.below E (by omega)⟩
          · refine Wn ?_
            exact cZ (.const (.int .i64 0)) (.inr rfl) (.int .i64 0) rfl ⟨ux,_,rfl,rfl,hJ.out⟩
        · intro _ L w' hL hJ
          obtain⟨W,m,jq,G,E⟩:=hJ;have h9:=hL 9 (by decide);clear hL;simp only[hG,hO];have aM:=m;rw[h9]at aM;go_simp;go_wp2_with fail;refine jd (v:=.tuple #[.agg (An .u8 c.p).toArray,.int .i64 0]) ?_ rfl ⟨by rw[I.out,H.out],E⟩;rw[aD rfl _ _ _ _ _ _ _ rfl aM underlying55 rfl (bf ai.out)];rfl
     · have R:f.cells[p]? =none:=List.getElem?_eq_none (by omega)
       rw[R]at q u;have H:=qZ q;have I:=qZ (show N.KC x=Kp from u);have aV:¬(p:Int)<(f.cells.length:Int):=by omega
       have a7:(f.cells.length:Int)≤(p:Int):=by omega
       clear q u an O R;generalize f.cells.length=au at*;go_upto_region 5 with fail
       go_region;have a8:=U.out;go_wp2_with (first|(refine ac rfl 55 _ rfl [] rfl (An .u8 Kp) T ?_)|(refine ag rfl 55 (.tmp 4) (.tmp 34) rfl (w.heap.size+1) (An .u8 Kp) rfl rfl 55 _ (show w'.drew.heap[w.heap.size+1]? =_ from U) (bf rfl) rfl (av _ _) ?_;intro w5 l;have h5:=l.at_;have V:=l.below ao.drew (by omega);clear l));refine jd (v:=.tuple #[.agg (An .u8 Kp).toArray,.int .i64 5]) ?_ rfl ⟨by rw[I.out,H.out],V⟩;exact ydc
 · have I:=qZ (show N.KC x=Kp by simp[Nd.KC,n,Kp])
   have H:=qZ (show N.K9 x=N.Kg x by simp[Nd.K9,n]);have az:(N.Kg x==0)=false:=by simpa using n
   have a9:(N.Kg x !=0)=true:=by simpa using n
   generalize N.Kg x=rr at*;clear n;have a1:=HZ.out;go_wp2_with (first|(refine ac rfl 55 _ rfl [] rfl (An .u8 Kp) T ?_)|(refine ag rfl 55 (.tmp 4) (.tmp 13) rfl (w.heap.size+1) (An .u8 Kp) rfl rfl 55 _ a1 (bf rfl) rfl (av _ _) ?_;intro w5 l;have h5:=l.at_;have V:=l.below HB (by omega);clear l));refine jd (v:=.tuple #[.agg (An .u8 Kp).toArray,rr]) ?_ rfl ⟨by rw[I.out,H.out],V⟩;exact ydc
end
section
variable {w:ej}{base g:Nat}{Y:Lay}{N:Nd}
theorem u0(h:JU w base g Y N)(d:Int)(i:0≤d)(j:d<N.D):Calls prog 44 #[.pointer (some ⟨g,0,none⟩),.int .i64 d] w fun e k=>e=.returned (.bool (N.dead.getD d.toNat false))∧w=k:=by
 have n:=JY;have o:=h.ok.geo;obtain⟨D,rfl⟩:=eX i;obtain⟨l,p,b,-,-,-,-⟩:=aS h.body.dead (by omega);have c:D<N.dead.length:=by rw[h.ok.dead];omega
 have f:=h.body.dead;rw[b]at f
 have q:w.cell? ⟨l,D,none⟩=some (.bool N.dead[D]):=by
  rw[f.cellAt D (by omega),jI,ek c];rfl
 have c5:=h.c5;rw[b]at c5;have m:=qZ (show N.dead.getD (D:Int).toNat false=N.dead[D] by rw[jw,js,ek c];rfl);have r:(D:Int)<(N.D:Int):=by omega
 generalize N.dead[D]=bd at*;clear h f b c i j;go_enter func44, ntmps44;go_wp2_with fail;go_ret;exact⟨by rw[m.out];rfl,rfl⟩
end
end JT
theorem yas{A:Prop}(h:A:=by
 refine dM ?_;intro K HK;refine(fY (d:Int) (b:Int) w').mono ?_;rintro e w'' ⟨rfl,hb⟩;exact HK.out _ _ ⟨(),_,rfl,rfl,(JU.below hJ.out.1 hb),hJ.out.2.trans (hb.mono hJ.out.2.size)⟩):A:=h
theorem ycv{A:Prop}(h:A:=by
 intro _ L w' hL hJ;obtain⟨jn,jb⟩:=hJ;clear hL;simp only[List.foldl_cons,List.foldl_nil];go_simp;go_wp2_with fail;go_ret;exact⟨rfl,jb⟩):A:=h
theorem yd5{A:Prop}(h:A:=by
 have cc:=xJ hJ.out.1 hd hb;exact cH):A:=h
namespace JT
section
variable {w:ej}{base g:Nat}{Y:Lay}{N:Nd}
theorem xJ{c:ej}(h:JU c base g Y N){d b:Nat}(e:d<N.D)(f:b<N.B):(jg 77 (.map (some Y.mb)) (.agg (key (d:Int) (b:Int)).v.toArray) false).run prog c=.ok (.pointer (some ⟨Y.q d b,0,none⟩)) c:=by
 obtain⟨D,i,j⟩:=h.body.map;have k:=h.ok.geo;exact AD i j (ro (by omega) (by omega)) (h.body.has d b e f) underlying77 (rU c)
theorem lC{c:ej}(h:JU c base g Y N){d b:Nat}(e:d<N.D)(f:b<N.B):c.cell? ⟨Y.q d b,0,none⟩=some (Y.cv d b):=by rw[ae (h.body.blk d b e f)];rfl
theorem Ik{c:ej}(h:JU c base g Y N){d b:Nat}(e:d<N.D)(f:b<N.B):c.cell? ⟨Y.q d b,1,none⟩=some (.int .i64 ((N.blk d b).KP:Int)):=by rw[ae (h.body.blk d b e f)];rfl
theorem t8(h:JU w base g Y N)(d b:Nat)(hd:d<N.D)(hb:b<N.B):Calls prog 31 #[g,(d:Int),(b:Int)] w fun e w'=>e=.returned (.int .i64 ((N.blk d b).cells.length:Int))∧hX w.heap.size w w':=by
 have q:=JY;obtain⟨j,k,f,-,-⟩:=(h.body.rows d b hd hb).slice;have l:=qZ f;clear f;go_enter func31, ntmps31;go_upto_region 1 with fail
 refine dz (X:=Unit) (fun _=> [(some 7,g),(some 8,.bool false),(some 9,.bool false),(some 10,g),(some 11,g),(some 12,.pointer (some ⟨g,3,none⟩)),(some 13,.map (some Y.mb)),(some 14,(d:Int)),(some 15,(b:Int)),(some 16,.agg (key (d:Int) (b:Int)).v.toArray),(some 17,.pointer (some ⟨Y.q d b,0,none⟩)),(some 18,.bool false),(some 19,.bool false)])
  (fun _ L w'=>JU w' base g Y N∧hX w.heap.size w w') ⟨(),fun _ _=>⟨h.drew,(hZ _ w).drew⟩⟩ ?_ ?_
 · refine⟨rr,rr,rr,rr,rr,rr,?_,rr,rr,?_,?_,rr,rr,trivial⟩
   all_goals
    intro ux L w' hL hpre hJ a ha he;try simp[gg]at hpre
   · have cc:=hJ.out.1.c3
     exact cH
   · exact yas
   · exact yd5
 · intro _ L w' hL hJ
   obtain⟨jn,jb⟩:=hJ;clear hL;simp only[hG,hO];go_simp;have m:=qZ jn;have n:=qZ jb;clear jn jb;go_upto_region 3 with fail
   refine dz (X:=Unit) (fun _=> [(some 20,g),(some 21,g),(some 22,.pointer (some ⟨g,3,none⟩)),(some 23,.map (some Y.mb)),(some 24,(d:Int)),(some 25,(b:Int)),(some 26,.agg (key (d:Int) (b:Int)).v.toArray),(some 27,.pointer (some ⟨Y.q d b,0,none⟩)),(some 28,.pointer (some ⟨Y.q d b,0,none⟩)),(some 29,.pointer (some ⟨Y.q d b,0,none⟩)),(some 30,.slice j (N.blk d b).cells.length k),(some 31,.int .i64 ((N.blk d b).cells.length:Int)),(some 6,.int .i64 ((N.blk d b).cells.length:Int))])
    (fun _ L w'=>JU w' base g Y N∧hX w.heap.size w w') ⟨(),fun _ _=>⟨m.out.drew,n.out.drew⟩⟩ ?_ ?_
   · refine⟨rr,rr,rr,?_,rr,rr,?_,?_,rr,rr,?_,rr,rr,trivial⟩
     all_goals
      intro ux L w' hL hpre hJ a ha he;try simp[gg]at hpre
     · have cc:=hJ.out.1.c3
       exact cH
     · exact yas
     · exact yd5
     · have cc:=lC hJ.out.1 hd hb
       rw[l.out]at cc;exact cH
   · exact ycv
theorem A0(h:JU w base g Y N)(d b:Nat)(hd:d<N.D)(hb:b<N.B):Calls prog 26 #[g,(d:Int),(b:Int)] w fun e w'=>e=.returned (.int .i64 ((N.blk d b).KP:Int))∧hX w.heap.size w w':=by
 have l:=JY;obtain⟨m,n,f,-,-⟩:=(h.body.rows d b hd hb).slice;have q:=qZ f;clear f;go_enter func26, ntmps26;go_upto_region 1 with fail
 refine dz (X:=Unit) (fun _=> [(some 7,g),(some 8,.bool false),(some 9,.bool false),(some 10,g),(some 11,g),(some 12,.pointer (some ⟨g,3,none⟩)),(some 13,.map (some Y.mb)),(some 14,(d:Int)),(some 15,(b:Int)),(some 16,.agg (key (d:Int) (b:Int)).v.toArray),(some 17,.pointer (some ⟨Y.q d b,0,none⟩)),(some 18,.bool false),(some 19,.bool false)])
  (fun _ L w'=>JU w' base g Y N∧hX w.heap.size w w') ⟨(),fun _ _=>⟨h.drew,(hZ _ w).drew⟩⟩ ?_ ?_
 · refine⟨rr,rr,rr,rr,rr,rr,?_,rr,rr,?_,?_,rr,rr,trivial⟩
   all_goals
    intro ux L w' hL hpre hJ a ha he;try simp[gg]at hpre
   · have cc:=hJ.out.1.c3
     exact cH
   · exact yas
   · exact yd5
 · intro _ L w' hL hJ
   obtain⟨jn,jb⟩:=hJ;clear hL;simp only[hG,hO];go_simp;have j:=qZ jn;have k:=qZ jb;clear jn jb;go_upto_region 3 with fail
   refine dz (X:=Unit) (fun _=> [(some 20,g),(some 21,g),(some 22,.pointer (some ⟨g,3,none⟩)),(some 23,.map (some Y.mb)),(some 24,(d:Int)),(some 25,(b:Int)),(some 26,.agg (key (d:Int) (b:Int)).v.toArray),(some 27,.pointer (some ⟨Y.q d b,0,none⟩)),(some 28,.pointer (some ⟨Y.q d b,0,none⟩)),(some 29,.pointer (some ⟨Y.q d b,1,none⟩)),(some 30,.int .i64 ((N.blk d b).KP:Int)),(some 6,.int .i64 ((N.blk d b).KP:Int))])
    (fun _ L w'=>JU w' base g Y N∧hX w.heap.size w w') ⟨(),fun _ _=>⟨j.out.drew,k.out.drew⟩⟩ ?_ ?_
   · refine⟨rr,rr,rr,?_,rr,rr,?_,?_,rr,rr,?_,rr,trivial⟩
     all_goals
      intro ux L w' hL hpre hJ a ha he;try simp[gg]at hpre
     · have cc:=hJ.out.1.c3
       exact cH
     · exact yas
     · exact yd5
     · have cc:=Ik hJ.out.1 hd hb
       exact cH
   · exact ycv
end
end JT
theorem yd6{A:Prop}(h:A:=by
 obtain⟨d0,d1,d2,d3,d4,d5,d6,d7,d8,d9,d10,d11,d12,d13,d14,d15,e0,e1,e2,e3,e4,e5,e6,e7,e8,e9,e10,e11,e12,e13,e14,e15,rfl⟩:=Eu h;kernel_rfl):A:=h
namespace JT
theorem eu:(prog.info? 112).map (fun i=>(i.zero,i.size,i.bytes))=some (some (Value.agg (An .u8 (kk 32 0)++[Value.bool false,Value.bool false]).toArray),34,34):=by kernel_rfl
theorem Cel.O9{c:Cel}(h:c.p.length=32):c.v.length=34:=by simp[Cel.v,ah,h]
theorem Cel.one(c:Cel):∀u∈c.v,u.oneCell'=true:=by
 intro u b;simp only[Cel.v,ly,List.mem_cons,List.not_mem_nil,or_false]at b;rcases b with b|rfl|rfl
 · exact av _ _ u b
 · rfl
 · rfl
theorem dr{w b:ej}{k:Nat}{o:Obj}(h:Upd k o w b):w.grownBy b (some k):=
 ⟨h.os,h.tape,h.output,by rw[h.size];omega,fun j _ hj=>h.block j fun e=>hj (by rw[e])⟩
def Nw(x:Blk)(c:Cel):Blk:={x with cells:=x.cells++[c]}
def PE(Y:Lay)(d b:Nat)(v:eD):Lay:={Y with cv:=fun i j=>if i=d∧j=b then v else Y.cv i j}
theorem Fr.Qd{base g:Nat}{w f i:ej}(h:Fr base g w f)(b:hX w.heap.size f i):Fr base g w i:=
 ⟨b.os.trans h.os,b.tape.trans h.tape,b.output.trans h.output,kd h.size b.size,fun k c e=>(b.block k c).trans (h.block k c e),fun k c j e=>(b.block k c).trans (h.maps k c j e)⟩
structure MM (w:ej) (base g:Nat) (Y:Lay) (N:Nd) (d b:Nat) (c:Cel) (x:Nat×eD) (p8 p9 p12:Bool) (w':ej):Prop where
 ord:p12=true→p9=true
 ord2:p9=true→p8=true
 fr:Fr base g w w'
 grow:p12=false→w.grownBy w' (bif p9 then(Y.cv d b).ownBlock else none)
 one:p9=false→p8=true→w'.heap[x.1]? =some (.cells c.v.toArray 112 (0,0))
 app:p9=true→p12=false→OwnRows w' base 112 34 x.2 ((N.blk d b).cells.length+1) (Mb (N.blk d b)++[c.v])∧(x.2.ownBlock=(Y.cv d b).ownBlock∨∃j,x.2.ownBlock=some j∧w.heap.size≤j)
 done:p12=true→JU w' base g (PE Y d b x.2) (N.upd d b (Nw (N.blk d b) c))
section
variable {w w' w'':ej}{base g:Nat}{Y:Lay}{N:Nd}{d b:Nat}{c:Cel}{x:Nat×eD}{p8 p9 p12:Bool}
theorem MM.start(x:Nat×eD):MM w base g Y N d b c x false false false w.drew:=
 ⟨by simp,by simp,(Fr.refl base g w).drew,fun _=>⟨rfl,rfl,rfl,fj _,fun _ _ _=>rfl⟩,by simp,by simp,by simp⟩
theorem MM.own(h:MM w base g Y N d b c x p8 p9 p12 w')(H:JU w base g Y N)(f:d<N.D)(i:b<N.B)(j:p9=false)(k:p12=false):OwnRows w' base 112 34 (Y.cv d b) (N.blk d b).cells.length (Mb (N.blk d b)):=by
 have e:=h.grow k;rw[j]at e;exact(H.body.rows d b f i).Pc e
theorem MM.Rf(h:MM w base g Y N d b c x p8 p9 p12 w')(H:JU w base g Y N)(f:d<N.D)(i:b<N.B)(k:p12=false):w'.heap[Y.q d b]? =some (.cells ((N.blk d b).v (Y.cv d b)).toArray 106 (0,0)):=by
 have j:=H.body.blk d b f i;refine((h.grow k).block _ (af j) fun e=> ?_).trans j;cases l:p9 with
 |false=>simp_all
 |true=>
  rw[l]at e;obtain⟨m,n,-⟩:=aU (H.body.rows d b f i).1 e.symm;simp_all
theorem MM.cell(h:MM w base g Y N d b c x p8 p9 p12 w')(H:JU w base g Y N)(e:d<N.D)(f:b<N.B)(i:p12=false):w'.cell? ⟨Y.q d b,0,none⟩=some (Y.cv d b):=by
 rw[ae (h.Rf H e f i)];rfl
theorem MM.frozen(h:MM w base g Y N d b c x p8 p9 p12 w')(H:JU w base g Y N)(e:d<N.D)(f:b<N.B)(i:p12=false):w'.frozen? ⟨Y.q d b,0,none⟩=false:=ao (h.Rf H e f i) 0
theorem MM.s8(h:MM w base g Y N d b c x p8 p9 p12 w')(f:p8=false):MM w base g Y N d b c (w'.heap.size,x.2) true p9 p12 (w'.alloc (.cells c.v.toArray 112)):=by
 have i:p9=false:=by
  cases e:p9 with
  |false=>rfl
  |true=>have:=h.ord2 e;simp_all
 have k:p12=false:=by
  cases e:p12 with
  |false=>rfl
  |true=>have:=h.ord e;simp_all
 subst i;subst k;subst f;refine⟨by simp,by simp,h.fr.trans (Fr.KZ ((hZ _ w').alloc (fj _) _)),fun _=> ?_,fun _ _=>l4 w' _,by simp,by simp⟩;have l:=h.grow rfl;exact l.andThen (World.grownBy_alloc w' _ none) (fun j hj=>by cases hj)
theorem MM.s9(h:MM w base g Y N d b c x p8 p9 p12 w')(H:JU w base g Y N)(o:d<N.D)(p:b<N.B)(q:p8=true)(r:p9=false){v:eD}(u:OwnRows w'' base 112 34 v ((N.blk d b).cells.length+1) (Mb (N.blk d b)++[c.v]))(z:w'.grownBy w'' (Y.cv d b).ownBlock)(n:v.ownBlock=(Y.cv d b).ownBlock∨∃j,v.ownBlock=some j∧w'.heap.size≤j):MM w base g Y N d b c (x.1,v) p8 true p12 w'':=by
 have B:p12=false:=by
  cases C:p12 with
  |false=>rfl
  |true=>have:=h.ord C;simp_all
 subst r;subst B;subst q;have f:=h.grow rfl;have D:w.grownBy w' (Y.cv d b).ownBlock:=⟨f.os,f.tape,f.output,f.size,fun i E _=>f.block i E (by simp)⟩;have l:w.grownBy w'' (Y.cv d b).ownBlock:=D.andThen z (fun j hj=> .inr hj);refine⟨by simp,by simp,?_,fun _=>l,by simp,fun _ _=>⟨u,?_⟩,by simp⟩
 · cases m:(Y.cv d b).ownBlock with
   |none=>rw[m]at l;exact Fr.PA l
   |some k=>
    rw[m]at l;obtain⟨K,G,I⟩:=aU (H.body.rows d b o p).1 m;exact Fr.Ll l G I fun t e=>by cases e;rfl
 · rcases n with n|⟨j,hj,J⟩
   · simp_all
   · exact .inr ⟨j,hj,kd f.size J⟩
theorem MM.s12(h:MM w base g Y N d b c x p8 p9 p12 w')(H:JU w base g Y N)(j:d<N.D)(k:b<N.B)(m:p9=true)(n:p12=false)(t:(N.blk d b).cells.length+1≤N.P)(u:c.p.length=32∧∀y∈c.p,y<256):MM w base g Y N d b c x p8 p9 true (w'.setCell ⟨Y.q d b,0,none⟩ x.2):=by
 subst m;subst n;obtain⟨z,A⟩:=h.app rfl rfl;have o:=h.Rf H j k rfl;have l:=ar (i:=0) o x.2;have B:Mb (Nw (N.blk d b) c)=Mb (N.blk d b)++[c.v]:=by simp[Mb,Nw]
 have C:(Nw (N.blk d b) c).cells.length=(N.blk d b).cells.length+1:=by simp[Nw]
 obtain⟨p,q⟩:=H.PR j k (Nw (N.blk d b) c) x.2 (h.grow rfl) (by simp_all) (by
  simp_all) (dr l) (by rw[l.at_];rfl) (by omega) (fun r f=>by
  simp only[Nw,ly,List.mem_singleton]at f;rcases f with f|rfl
  · exact H.ok.MV d b r f
  omega)
 exact⟨fun _=>rfl,fun _=>h.ord2 rfl,q,fun e=>(by cases e),fun e=>(by cases e),fun _ e=>(by cases e),fun _=>p⟩
theorem MM.low(h:MM w base g Y N d b c x p8 p9 p12 w'):hX 0 w w':=⟨h.fr.os,h.fr.tape,h.fr.output,h.fr.size,fun k e=>absurd e (Nat.not_lt_zero k)⟩
end
theorem ba{P:Program}{o:Oper}{a:Act}{w:ej}{K:Act→ej→Prop}{Q:Exit→Act→ej→Prop}(t:kb)(aT:Array (Nat×Operand))(f:o.op=.build t aT)(b:List (Nat×eD))(g:aT.toList.map (fun p=>(p.1,a.eval p.2))=b)(cells:Array eD)(c:P.built t b=some cells)(h:K (a.put o.dst (.agg cells)) w):o.wp P a w K Q:=by
 have e:(aT.map fun(i,x)=>(i,a.eval x)).toList=b:=by rw[←g,Array.toList_map]
 exact wp_build t aT f (by rw[e,c];rfl) (by rw[e,c];exact h)
theorem nL{w:ej}{k:Nat}{c:Cel}(b:c.p.length=32)(h:w.heap[k]? =some (.cells c.v.toArray 112 (0,0))):Rds w w.heap.size (some ⟨k,0,none⟩) 34 1 [c.v]:=by
 have:=jX h;rwa [Cel.O9 b]at this
theorem Eu{d:List Nat}(h:d.length=32):∃d0 d1 d2 d3 d4 d5 d6 d7 d8 d9 d10 d11 d12 d13 d14 d15 b e1 e2 e3 c e5 e6 e7 e f g i j k l m,d=[d0,d1,d2,d3,d4,d5,d6,d7,d8,d9,d10,d11,d12,d13,d14,d15,b,e1,e2,e3,c,e5,e6,e7,e,f,g,i,j,k,l,m]:=by
 obtain⟨d0,d1,d2,d3,d4,d5,d6,d7,d8,d9,d10,d11,d12,d13,d14,d15,n⟩:=eO (d:=d.take 16) (by simp_all);obtain⟨b,e1,e2,e3,c,e5,e6,e7,e,f,g,i,j,k,l,m,o⟩:=eO (d:=d.drop 16) (by simp_all);refine⟨d0,d1,d2,d3,d4,d5,d6,d7,d8,d9,d10,d11,d12,d13,d14,d15,b,e1,e2,e3,c,e5,e6,e7,e,f,g,i,j,k,l,m,?_⟩;rw[←List.take_append_drop 16 d,n,o];rfl
theorem rI{d:List Nat}(h:d.length=32): prog.built 112 [(0,.agg (An .u8 d).toArray),(2,.bool true)]=some (Cel.v ⟨d,false,true⟩).toArray:=by
 exact yd6
theorem wJ{d:List Nat}(h:d.length=32)(l:Bool): prog.built 112 [(0,.agg (An .u8 d).toArray),(1,.bool l)]=some (Cel.v ⟨d,l,false⟩).toArray:=by
 exact yd6
end JT
end Go.Proofs.YtlkpfnjdbgeifaaGreat
