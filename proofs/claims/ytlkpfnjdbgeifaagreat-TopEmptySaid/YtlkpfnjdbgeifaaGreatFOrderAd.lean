import Derived.Test.YtlkpfnjdbgeifaaGreatFRegion2
import Derived.Test.YtlkpfnjdbgeifaaGreatFSpotOps
import Derived.Test.YtlkpfnjdbgeifaaGreatFSortAd
set_option linter.unusedSimpArgs false
set_option linter.unusedVariables false
set_option maxRecDepth 100000
set_option maxHeartbeats 4000000
open And renaming intro→ed
namespace Go.Proofs.YtlkpfnjdbgeifaaGreat
open Go.Proofs.Tryz
open Go.RowKit
theorem I8{A:Prop}(h:A:=by
 go_wp2
 go_ret;exact⟨by first|rfl|(rw[if_neg hx];rfl)|(simp;rfl),rfl⟩):A:=h
theorem yb1{A:Prop}(h:A:=by
 refine dM ?_;intro K HK;refine(rE _ _ _).mono ?_;rintro e w'' ⟨rfl,rfl⟩;exact HK.out _ _ ⟨(),_,rfl,rfl,hJ.out⟩):A:=h
theorem ydh{A:Prop}(h:A:=by
 go_enter func180, ntmps180;go_wp2
 go_ret;exact⟨rfl,rfl⟩):A:=h
theorem yev{A:Prop}(h:A:=by
 obtain⟨a0,a1,a2⟩:=cM hJ.out.2.1;exact cH):A:=h
theorem ye1{A:Prop}(h:A:=by
 obtain⟨a0,a1,a2⟩:=cM hJ.out.1;exact cH):A:=h
section
def LD(x y:Int):Int:=if x<y then-1 else if y<x then 1 else 0
theorem rE(x y:Int)(w:World):Calls prog 180 #[.int .i64 x,.int .i64 y] w fun e f=>e=.returned (.int .i64 (LD x y))∧w=f:=by
 unfold LD;by_cases b:x<y
 · rw[if_pos b]
   exact ydh
 · rw[if_neg b]
   by_cases c:y<x
   · rw[if_pos c]
     exact ydh
   · rw[if_neg c]
     exact ydh
def orI:List Int→Int
 |[]=>0
 |x::r=>if x=0 then orI r else x
def Ol(a b:Ad):Int:=orI [LD a.d b.d,LD a.b b.b,LD a.p b.p]
theorem GL(g:Nat)(x y z:Int)(w:World)(h:w.heap[g]? =some (.cells #[.int .i64 x,.int .i64 y,.int .i64 z] 3 (0,0))):
 Calls prog 179 #[.slice (some ⟨g,0,none⟩) 3 3] w fun e j=>e=.returned (.int .i64 (orI [x,y,z]))∧w=j:=by
 have c0:w.cell? ⟨g,0,none⟩=some (.int .i64 x):=by rw[ae h];rfl
 have c1:w.cell? ⟨g,1,none⟩=some (.int .i64 y):=by rw[ae h];rfl
 have c2:w.cell? ⟨g,2,none⟩=some (.int .i64 z):=by rw[ae h];rfl
 unfold orI orI orI orI;clear h;go_enter func179, ntmps179;go_wp2_with fail;go_loop [8] (fun i=>∃k:Nat,k≤3∧i=.int .i64 k∧(0<k→x=0)∧(1<k→y=0)∧(2<k→z=0)) (fun i=>3-(intOf i).toNat)
 case atStart=>exact⟨0,by omega,rfl,by omega,by omega,by omega⟩
 case round=>
  obtain⟨k,l,rfl,b,c,f⟩:=hrel;rcases(show k=0∨k=1∨k=2∨k=3 by omega)with rfl|rfl|rfl|rfl
  · by_cases hx:x=0
    · subst hx
      go_wp2
      go_round
      case rel=>exact⟨1,by omega,rfl,by simp,by omega,by omega⟩
      case measure=>simp[intOf]
    · clear b c f
      exact I8
  · obtain rfl:=b (by omega)
    by_cases hx:y=0
    · subst hx
      go_wp2
      go_round
      case rel=>exact⟨2,by omega,rfl,by simp,by simp,by omega⟩
      case measure=>simp[intOf]
    · clear b c f
      exact I8
  · obtain rfl:=b (by omega)
    obtain rfl:=c (by omega);by_cases hx:z=0
    · subst hx
      go_wp2
      go_round
      case rel=>exact⟨3,by omega,rfl,by simp,by simp,by simp⟩
      case measure=>simp[intOf]
    · clear b c f
      exact I8
  · obtain rfl:=b (by omega)
    obtain rfl:=c (by omega);obtain rfl:=f (by omega);clear b c f;go_wp2
    go_ret;exact⟨by first|rfl|(simp;rfl),rfl⟩
open Go.Shelf Go.Lib Go.Sort
theorem yQ(x y:Ad)(w:World):Calls prog 254 #[.agg x.v.toArray,.agg y.v.toArray] w fun e w'=>e=.returned (.int .i64 (Ol x y))∧∃q H,w'=grow (w.drewN q) H:=by
 have ha:=bu w (.cells x.v.toArray 52) (.cells y.v.toArray 52);have I:=aj (w.alloc (.cells x.v.toArray 52)) (.cells y.v.toArray 52) (w.heap.size+1) (by simp);have M:=cG w (.cells x.v.toArray 52) (.cells y.v.toArray 52);have N:∃u,(w.alloc (.cells x.v.toArray 52)).alloc (.cells y.v.toArray 52)=grow w u:=⟨_,by rw[alloc_eq_grow,alloc_eq_grow,grow_grow]⟩;obtain⟨u,z⟩:=N;have O:=qZ z;clear z;go_enter func254, ntmps254;go_upto_region 1 with fail
 generalize R:(w.alloc (.cells x.v.toArray 52)).alloc (.cells y.v.toArray 52)=n at*;clear R
 refine dz (X:=Unit) (fun _=> [(some 5,.pointer (some ⟨w.heap.size,0,none⟩)),(some 6,.int .i64 x.d),(some 7,.pointer (some ⟨(w.heap.size+1),0,none⟩)),(some 8,.int .i64 y.d),(some 9,.int .i64 (LD x.d y.d)),(some 10,.pointer (some ⟨w.heap.size,1,none⟩)),(some 11,.int .i64 x.b),(some 12,.pointer (some ⟨(w.heap.size+1),1,none⟩)),(some 13,.int .i64 y.b),(some 14,.int .i64 (LD x.b y.b)),(some 15,.pointer (some ⟨w.heap.size,2,none⟩)),(some 16,.int .i64 x.p),(some 17,.pointer (some ⟨(w.heap.size+1),2,none⟩)),(some 18,.int .i64 y.p),(some 19,.int .i64 (LD x.p y.p)),(some 20,.slice (some ⟨n.heap.size,0,none⟩) 3 3),(some 21,.int .i64 (Ol x y)),(some 4,.int .i64 (Ol x y))])
  (fun _ L w'=>w'.heap[w.heap.size]? =some (.cells x.v.toArray 52 (0,0))∧w'.heap[(w.heap.size+1)]? =some (.cells y.v.toArray 52 (0,0))∧w'=(bif L 15 then n.drew.alloc (.cells #[.int .i64 (LD x.d y.d),.int .i64 (LD x.b y.b),.int .i64 (LD x.p y.p)] 3)else n.drew)∧Below w.heap.size w w') ⟨(),fun L hL=>⟨ha,I,by simp only[hL,cond_false],M.drew⟩⟩ ?_ ?_
 · refine⟨rr,?_,rr,?_,?_,rr,?_,rr,?_,?_,rr,?_,rr,?_,?_,?_,?_,rr,trivial⟩
   all_goals
    intro ux L w' hL hpre hJ a ha he;try simp[Region.binds]at hpre
   · exact ye1
   · exact yev
   · exact yb1
   · exact ye1
   · exact yev
   · exact yb1
   · exact ye1
   · exact yev
   · exact yb1
   · obtain⟨k,l,f,j⟩:=hJ.out
     refine Wn ?_;have D:=aZ 4;have E:=aZ 9;have G:=aZ 14;have f9:a.tmps[9]?.getD undef=.int .i64 (LD x.d y.d):=by simpa[Act.eval]using D
     have f14:a.tmps[14]?.getD undef=.int .i64 (LD x.b y.b):=by simpa[Act.eval]using E
     have f19:a.tmps[19]?.getD undef=.int .i64 (LD x.p y.p):=by simpa[Act.eval]using G
     rw[hL]at f;simp only[cond_false]at f;subst f;have m:=qZ (ed (am k (.cells #[.int .i64 (LD x.d y.d),.int .i64 (LD x.b y.b),.int .i64 (LD x.p y.p)] 3)) (ed (am l (.cells #[.int .i64 (LD x.d y.d),.int .i64 (LD x.b y.b),.int .i64 (LD x.p y.p)] 3)) (j.alloc j.size (.cells #[.int .i64 (LD x.d y.d),.int .i64 (LD x.b y.b),.int .i64 (LD x.p y.p)] 3))));clear ha k l j D E G;refine aP fun K HK=> ?_;unfold Oper.wp;simp only[execOp];go_simp;exact HK.out _ _ ⟨(),_,rfl,rfl,m.out.1,m.out.2.1,rfl,m.out.2.2⟩
   · obtain⟨k,l,f,j⟩:=hJ.out
     refine Wn ?_;have S:=aZ 15;have T:L 15=true:=by simp[hpre]
     have r:=f;rw[T]at r;simp only[cond_true]at r;have hz:w'.heap[n.heap.size]? =some (.cells #[.int .i64 (LD x.d y.d),.int .i64 (LD x.b y.b),.int .i64 (LD x.p y.p)] 3 (0,0)):=by rw[r];exact heap_alloc_new _ _
     have m:=qZ (ed k (ed l (ed f j)));clear ha k l f j r;refine aP fun K HK=> ?_;unfold Oper.wp;simp only[execOp,resolve,List.map_toArray,List.map_cons,List.map_nil,S];go_simp;refine(GL _ _ _ _ _ hz).mono ?_;rintro e w'' ⟨rfl,rfl⟩;exact HK.out _ _ ⟨(),_,rfl,rfl,m.out⟩
 · intro _ L w' hL hJ
   obtain⟨k,l,f,j⟩:=hJ;have U:=hL 15 (by decide);clear hL;simp only[List.foldl_cons,List.foldl_nil];rw[U]at f;simp only[cond_true]at f;go_simp;go_wp2_with fail;go_ret;exact⟨rfl,1,_,by rw[O.out,alloc_eq_grow,grow_grow];rfl⟩
end
end Go.Proofs.YtlkpfnjdbgeifaaGreat
