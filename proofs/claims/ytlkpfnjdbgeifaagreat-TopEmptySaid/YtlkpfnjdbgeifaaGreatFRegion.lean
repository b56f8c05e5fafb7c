import Derived.Orders
import Derived.RegionTactic
import Derived.RowKit
open Go.Region renaming binds→ed,ready→eD
open Array renaming getElem?_eq_some_iff→ej,getElem?_eq_getElem→ek
namespace Go.Proofs.YtlkpfnjdbgeifaaGreat
open Go.RowKit
section
section
variable {P:Program}{ops:Array Oper}{Q:Exit→Act→World→Prop}
def JW(L:Nat→Bool)(i:Nat):Nat→Bool:=fun j=>j==i ||L j
def Nh(l:Array Bool):Nat→Bool:=fun j=>l.getD j false
theorem Bg{l:Array Bool}{i:Nat}(h:i<l.size):Nh (l.setIfInBounds i true)=JW (Nh l) i:=by
 funext j;unfold Nh JW;by_cases b:j=i
 · simp_all
 · rw[getD_set_ne false (Ne.symm b),show(j==i)=false by simp_all,Bool.false_or]
theorem yG{l:Array Bool}(n:l.size=ops.size)(c:∀i o,ops[i]? =some o→∀e∈o.after,ed .any e=true→e.on<i)(h:eD .any ops l=[]):∀i,i<ops.size→Nh l i=true:=by
 intro i;induction i using Nat.strongRecOn with
 |ind i f=>
  intro b;cases g:Nh l i with
  |true=>rfl
  |false=>
   have:i∈eD .any ops l:=by
    rw[mem_ready];refine⟨?_,ops[i],ek b,fun e j k=> ?_⟩
    · have p:i<l.size:=by omega
      unfold Nh at g;simp_all
    · have m:=c i _ (ek b) e j k
      exact f e.on m (by omega)
   simp_all
theorem yj(I:(Nat→Bool)→Act→World→Prop)(C:∀i o,ops[i]? =some o→∀e∈o.after,ed .any e=true→e.on<i)(D:∀i o,ops[i]? =some o→∀L a w,L i=false→(∀e∈o.after,ed .any e=true→L e.on=true)→I L a w→wpOp P ops Q i (fun n p=>I (JW L i) n p) a w)(r:∀L a w,(∀i,i<ops.size→L i=true)→I L a w→Q .normal a w):
 ∀(c:Nat) (l:Array Bool) (a:Act) (w:World),l.size=ops.size→l.toList.countP (fun b=> !b)≤c→I (Nh l) a w→wpAny P .any ops Q c l a w:=by
 intro c;induction c with
 |zero=>
  intro l a w t E g
  have u:∀i,i<ops.size→Nh l i=true:=by
   intro i q;have G:i<l.toList.length:=by simp;omega
   have z:l.toList.countP (fun b=> !b)=0:=by omega
   rw[List.countP_eq_zero]at z;have:=z _ (List.getElem_mem G);unfold Nh;have H:i<l.size:=by omega
   simpa[H]using this
  refine⟨?_,r _ _ _ u g⟩;rw[List.eq_nil_iff_forall_not_mem];intro j hj;rw[mem_ready]at hj;obtain⟨f,o,k,-⟩:=hj;have B:=(ej.1 k).1;have:=u j B;unfold Nh at this;simp_all
 |succ c J=>
  intro l a w t E g;refine⟨fun h=>r _ _ _ (yG t C h) g,fun i q=> ?_⟩;rw[mem_ready]at q;obtain⟨f,o,k,K⟩:=q;have B:=(ej.1 k).1;have m:i<l.size:=by omega
  have M:Nh l i=false:=by
   unfold Nh;simp[m]at f⊢;exact f
  refine wpOp_mono (fun n p N=> ?_) (D i o k (Nh l) a w M K g);refine J _ n p (by simp_all) ?_ (by rw[Bg m];omega);have e:(l.setIfInBounds i true).toList=l.toList.set i true:=by simp
  rw[e];have O:i<l.toList.length:=by simpa using m
  have R:l.toList[i]=false:=by
   simp[m]at f;simpa using f
  grind
def Qs(ops:Array Oper):Bool:=(ops.toList.zipIdx 0).all fun p=>p.1.after.toList.all fun e=> !ed .any e ||decide (e.on<p.2)
theorem wu(h:Qs ops=true):∀i o,ops[i]? =some o→∀e∈o.after,ed .any e=true→e.on<i:=by
 intro i o b e c f;unfold Qs at h;rw[List.all_eq_true]at h
 have g:(o,i)∈ops.toList.zipIdx 0:=by
  rw[List.mem_zipIdx_iff_getElem?];simpa using b
 grind
def NR(T:Nat→Oper→Prop):Nat→List Oper→Prop
 |_,[]=>True
 |k,o::b=>T k o∧NR T (k+1) b
theorem NR.get{T:Nat→Oper→Prop}:∀{k:Nat} {b:List Oper},NR T k b→∀{i:Nat} {o:Oper},b[i]? =some o→T (k+i) o
 |_,[],_,i,o,h=>by grind
 |k,x::b,h,0,o,c=>by
  simp at c;subst c;exact h.1
 |k,x::b,h,i+1,o,c=>by
  have:=NR.get h.2 (i:=i) (o:=o) (by simp_all);grind
end
end
end Go.Proofs.YtlkpfnjdbgeifaaGreat
