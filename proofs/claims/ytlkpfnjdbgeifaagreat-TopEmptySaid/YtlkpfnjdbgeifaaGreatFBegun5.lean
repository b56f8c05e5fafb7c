import Derived.Test.YtlkpfnjdbgeifaaGreatFDelAd
import Derived.Test.YtlkpfnjdbgeifaaGreatFTwins
set_option linter.unusedSimpArgs false
set_option linter.unusedVariables false
set_option maxRecDepth 100000
set_option maxHeartbeats 8000000
open Go.Instr renaming buildSlice→ed
open Go renaming Value→ej,World→ek,TypeId→eD
namespace Go.Proofs.YtlkpfnjdbgeifaaGreat
open Go.Proofs.Tryz
open Go.RowKit
namespace begun5
open pg (wfP pgs idxs L0)
def a1:Ad:=⟨1,2,3⟩
def a2:Ad:=⟨0,9,9⟩
def sx:ej:=.string ⟨#[120]⟩
def sy:ej:=.string ⟨#[121]⟩
def f2:List (Ad×ej):=Oz (Oz [] a1 sx) a2 sy
def P1:List Nat:=1::List.replicate 31 0
def P2:List Nat:=2::List.replicate 31 0
def PL:List (List Nat):=[P1,P2,P1]
theorem IE:a1.wf:=⟨rfl,rfl,rfl⟩
theorem Iu:a2.wf:=⟨rfl,rfl,rfl⟩
theorem Ju:Lu f2 a1 (.string ⟨#[]⟩)=.string ⟨#[120]⟩:=rfl
theorem has1:My f2 a1=true:=by decide
theorem has2:My f2 a2=true:=by decide
theorem has3:My (LX f2 a2) a2=false:=by decide
theorem Jv:f2.length=2:=rfl
theorem Gp:f2.map (·.1)=[a2,a1]:=rfl
theorem Gh:Lq [a2,a1]=[a2,a1]:=by
 unfold Lq;refine List.mergeSort_of_pairwise ?_;simp[jk,Qb,a1,a2]
theorem Jz:Lv 1 2 [a2,a1]=[a1]:=by decide
theorem wfPL:∀p∈PL,wfP p:=by
 intro p b;simp[PL]at b;rcases b with rfl|rfl|rfl<;>exact⟨rfl,by decide⟩
theorem Gy:L0 PL PL.length=[P1]:=by rfl
theorem idx1:idxs PL P1 PL.length=[0,2]:=by rfl
theorem uB: prog.built 52 [(0,.int .i64 1),(1,.int .i64 2),(2,.int .i64 3)]=some a1.v.toArray:=by rfl
theorem DI: prog.built 52 [(0,.int .i64 0),(1,.int .i64 9),(2,.int .i64 9)]=some a2.v.toArray:=by rfl
theorem D8: prog.built 55 [(0,.int .u8 1)]=some (An .u8 P1).toArray:=by rfl
theorem Dz: prog.built 55 [(0,.int .u8 2)]=some (An .u8 P2).toArray:=by rfl
theorem Er(w:ek):(ed 48 3 #[(0,.agg (An .u8 P1).toArray),(1,.agg (An .u8 P2).toArray),(2,.agg (An .u8 P1).toArray)]).run prog w=.ok (.slice (some ⟨w.heap.size,0,none⟩) 3 3) (w.alloc (.cells (pgs PL).flatten.toArray 55)):=by kernel_rfl
theorem OO{w:ek}{g C:Nat}{b:List (List ej)}{t:eD}{fr:Nat×Nat}(h:w.heap[g]? =some (.cells b.flatten.toArray t fr))(c:∀r∈b,r.length=C):Rds w w.heap.size (some ⟨g,0,none⟩) C b.length b:=by
 refine⟨rfl,c,fun _=>⟨g,0,rfl,af h,fun i r j u e f=> ?_⟩⟩
 have hj:j<C:=by
  have:=(List.getElem?_eq_some_iff.1 f).1;rw[c r (List.mem_of_getElem? e)]at this;exact this
 have:=ai h (i*C+j) u (by rw[aW c e hj];exact f);omega
theorem kS{w:ek}{b i:Nat}{a c:List ej}(h:w.rangeAt b i [a,c].flatten):w.rangeAt b i a:=fun j v e=>h j v (by
 grind)
theorem Gr{w:ek}{base n c g j:Nat}{e:eD}{f:List ej}{v:ej}(h:w.ownsRow base e 1 (.slice (some ⟨g,0,none⟩) n c) n f)(hj:f[j]? =some v):w.cell? ⟨g,j,none⟩=some v:=by
 have b:=h.2;rcases b with⟨b,-⟩|⟨l,m,o,i,p,k,q,r,t,u⟩
 · cases b
 · cases i
   rw[ae k];grind
theorem iy{w:ek}{p:Addr}{v:ej}(h:w.cell? p=some v):p.block<w.heap.size:=World.block_lt_of_cell? w p h
theorem fZ{w c:ek}{b:Nat}(f:w.grownBy c (some b)){p:Addr}(g:p.block<w.heap.size)(h:p.block≠b):c.cell? p=w.cell? p:=
 World.cell?_of_block (f.block _ g (fun e=>h (Option.some.inj e)))
theorem Jf:∀r∈pgs PL,r.length=32:=by decide
theorem Ep:∃b c e:List ej, prog.built 55 [(0,.int .u8 1)]=some b.toArray∧ prog.built 55 [(0,.int .u8 2)]=some c.toArray∧
 (∀w,(ed 48 3 #[(0,.agg b.toArray),(1,.agg c.toArray),(2,.agg b.toArray)]).run prog w=.ok (.slice (some ⟨w.heap.size,0,none⟩) 3 3) (w.alloc (.cells e.toArray 55)))∧e=(pgs PL).flatten:=
 ⟨An .u8 P1,An .u8 P2,_,D8,Dz,Er,rfl⟩
theorem pD{P:Program}{b:Array Oper}{rest:List Oper}{o:Oper}{a:Act}{w:ek}{Q:Exit→Act→ek→Prop}(i:o.guard=none)(t:eD)(x y z:Operand)(j:o.op=.buildSlice t 3 #[(0,x),(1,y),(2,z)])(c f g:List ej)(k:a.eval x=.agg c.toArray)(m:a.eval y=.agg f.toArray)(n:a.eval z=.agg g.toArray)(v:ek→ej)(l:List ej)(e:eD)(p:∀w,(ed t 3 #[(0,.agg c.toArray),(1,.agg f.toArray),(2,.agg g.toArray)]).run P w=.ok (v w) (w.alloc (.cells l.toArray e)))(h:wpList P b Q rest (a.put o.dst (v w)) (w.alloc (.cells l.toArray e))):wpList P b Q (o::rest) a w:=by
 refine wpList_plain i fun K q=> ?_;unfold Oper.wp execOp;simp only[j,Sem.run_bind,List.map_toArray,List.map_cons,List.map_nil,k,m,n,p,Result.andThen_ok];exact q _ _ h
theorem Qf(w:ek):Calls prog 287 #[] w fun e w'=>e=.returned (.bool true)∧Below w.heap.size w w':=by
 have ay:=spotStr.JY;go_enter func287, ntmps287;go_wp2_with fail;refine(spotStr.new _).mono ?_;rintro e w1 ⟨rfl,X,C⟩;go_wp2_with (first|(refine ac rfl 52 _ rfl _ rfl _ uB ?_));refine(spotStr.set _ _ _ _ a1 sx _ X IE (by omega) rfl).mono ?_;rintro e w2 ⟨rfl,Y,Z⟩;have D:=C.grown Z C.size (fun j hj=>by simp_all);clear X Z C;go_wp2_with (first|(refine ac rfl 52 _ rfl _ rfl _ DI ?_));refine(spotStr.set _ _ _ _ a2 sy _ Y Iu (by omega) rfl).mono ?_;rintro e w3 ⟨rfl,n,aa⟩;have E:=D.grown aa D.size (fun j hj=>by simp_all);change LY w3 _ _ _ _ f2 at n;clear Y aa D;go_wp2_with (first|(refine ac rfl 52 _ rfl _ rfl _ uB ?_));refine(spotStr.get _ _ _ f2 a1 _ n IE).mono ?_;rw[Ju,has1];rintro e w4 ⟨rfl,b⟩;have G:=n.below b;have o:=E.trans (b.mono E.size);clear n b E;go_wp2_with fail;refine(spotStr.all _ _ _ f2 _ G (by omega)).mono ?_;rw[Gp,Gh,Jv];rintro e q ⟨v4,rfl,H,b,-⟩;have g:=G.below b;have f:=o.trans (b.mono o.size);obtain⟨g4,c4,rfl,aC,-,aD,aE⟩:=aS H.1 (by decide);have i:=H;have aF:=o.size;clear G b o H;clear ay;have HF:=qZ (And.intro g (And.intro f i));clear g f i;obtain⟨I,q2,l3,ab,ad,ae,az⟩:=Ep;go_wp2_with (first|(refine ac rfl 55 _ rfl [(0,.int .u8 1)] rfl I ab ?_)|(refine ac rfl 55 _ rfl [(0,.int .u8 2)] rfl q2 ad ?_)|(refine pD rfl 48 _ _ _ rfl I q2 I rfl rfl rfl _ l3 _ ae ?_));clear ab ad ae az;have aA:=HF.out;clear HF;obtain⟨g,f,i⟩:=aA;change Calls _ _ _ (q.alloc (.cells (pgs PL).flatten.toArray 55)) _;have af:=aj q (.cells (pgs PL).flatten.toArray 55) _ rfl;have r:=(Below.refl _ q).alloc (Nat.le_refl _) (.cells (pgs PL).flatten.toArray 55);have ag:=g.below r;have ah:=i.below r;have t:=f.trans (r.mono f.size);clear g i f r;have ai:=OO af Jf;generalize q.alloc (.cells (pgs PL).flatten.toArray 55)=w6 at*;refine(pg.Iv _ 3 3 _ PL w6 ai (Nat.le_refl _) wfPL (by decide)).mono ?_;rw[Gy];rintro e J ⟨v7,f7,rfl,k,ak,b⟩;have l:=ak P1;rw[idx1]at l;have u:=ag.below b;have K:=ah.below b;have aG:=t.size;have L:=t.trans (b.mono t.size);clear ag ah t b ak ai af;obtain⟨M,ct,rfl,aH,-,aI,aJ⟩:=aS k (by decide);simp only[List.map_cons,List.map_nil]at k;generalize pg.Lu f7 P1 (.slice none 0 0)=vi at l k;obtain⟨N,ci,rfl,aK,-,aL,aM⟩:=aS l (by decide);have O:=Gr k (j:=0) rfl;have P:=Gr l (j:=1) rfl;clear k l;have al:=K.rds;have an:=kS (a:=a2.v) (c:=a1.v) al.cells;have aB:J.cell? ⟨g4,0,none⟩=some (.int .i64 0):=an 0 _ rfl;go_wp2_with fail;refine(spotStr.len _ _ _ f2 J u).mono ?_;rw[Jv];rintro e w8 ⟨rfl,rfl⟩;go_wp2_with fail;refine(spotStr.block _ _ _ f2 1 2 J u (by omega)).mono ?_;rw[Gp,Gh,Jz];rintro e w8 ⟨A8,c8,rfl,-,b⟩;have Q:=u.below b;have z:=K.below b;have R:=L.trans (b.mono L.size);have S:=(b.cell (p:=⟨M,0,none⟩) (iy O)).trans O;have T:=(b.cell (p:=⟨N,1,none⟩) (iy P)).trans P;clear u K L O P al an aB b;have ao:=z.rds;have aq:=kS (a:=a2.v) (c:=a1.v) ao.cells;go_wp2_with (first|(refine au 52 (.tmp 59) rfl g4 0 rfl rfl a2.v _ aq underlying52 rfl bL ?_));refine(spotStr.drop _ _ _ f2 a2 w8 Q Iu).mono ?_;rw[has2];rintro e w9 ⟨rfl,ar,m⟩;have aN:=Q.lt;have av:=z.grown m (fun aO hk=>by cases hk;exact z.ne5 (by omega));have U:=R.grown m R.size (fun j hj=>by simp_all);have V:=(fZ m (p:=⟨M,0,none⟩) (iy S) (by grind)).trans S;have W:=(fZ m (p:=⟨N,1,none⟩) (iy T) (by grind)).trans T;clear Q z R S T ao aq m;have aw:=av.rds;have ax:=kS (a:=a2.v) (c:=a1.v) aw.cells;go_wp2_with (first|(refine au 52 (.tmp 66) rfl g4 0 rfl rfl a2.v _ ax underlying52 rfl bL ?_))
 refine(spotStr.drop _ _ _ _ a2 w9 ar Iu).mono ?_;rw[has3];rintro e aP ⟨rfl,aQ,B⟩;have aR:=U.grown B U.size (fun j hj=>by simp_all);have aT:=(fZ B (p:=⟨M,0,none⟩) (iy V) (by grind)).trans V;have aU:=(fZ B (p:=⟨N,1,none⟩) (iy W) (by grind)).trans W;clear ar av U V W aw ax B;go_wp2_with fail;go_ret;simp_all
end begun5
end Go.Proofs.YtlkpfnjdbgeifaaGreat
