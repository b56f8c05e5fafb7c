import Derived.Laws.Slices
import Derived.Test.YtlkpfnjdbgeifaaGreatFOwnRows
import Derived.Test.YtlkpfnjdbgeifaaGreatFRegion2
set_option linter.unusedVariables false
open Go renaming Value→ed,World→ej,TypeId→ek,Program→eD
namespace Go.Proofs.YtlkpfnjdbgeifaaGreat
open Go.RowKit
section
section
variable {P:eD}{o:Oper}{a:Act}{w:ej}{K:Act→ej→Prop}{Q:Exit→Act→ej→Prop}
end
theorem Rds.drop{w:ej}{B C n:Nat}{A:Option Addr}{c:List (List ed)}(h:Rds w B A C n c){k:Nat}(p:k≤n){f:Option Addr}(g:k<n→f=A.map (·.add (k*C))):Rds w B f C (n-k) (c.drop k):=by
 refine⟨by rw[List.length_drop,h.1],fun r l=>h.2.1 r (List.mem_of_mem_drop l),fun q=> ?_⟩;obtain⟨b,o,e,m,t⟩:=h.2.2 (by omega);refine⟨b,o+k*C,by rw[g (by omega),e,Option.map_some,Addr.add_mid],m,fun i r j u z D=> ?_⟩;grind
theorem mZ{P:eD}{t e:ek}(b:P.underlying t=some (.slice e)):P.elem t=e:=by simp[Program.elem,b]
theorem sN{P:eD}{e:ek}{C:Nat}(b:(P.info? e).map (·.size)=some C)(w:ej):(sizeOf e).run P w=.ok C w:=by
 cases h:P.info? e with
 |none=>simp_all
 |some i=>
  rw[h]at b;simp at b;simp[sizeOf,typeInfo,h,b]
theorem FK{P:eD}{t e:ek}(f:P.underlying t=some (.slice e)){w:ej}{B C n c k:Nat}{A:Option Addr}{g:List (List ed)}(j:(P.info? e).map (·.size)=some C)(h:Rds w B A C n g)(l:k≤n)(r:n≤c):
 ∃A1,(∀w,(Instr.sliceAt t (.slice A n c) none (some (.int .i64 (k:Int))) none).run P w=.ok (.slice A1 k c) w)∧Rds w B A1 C k (g.take k):=by
 have i:P.underlying t=some (.slice (P.elem t)):=by rw[mZ f];exact f
 refine⟨if c=0 then A else A.map (·.add (0*C)),fun w=> ?_,?_⟩
 · rw[run_sliceAt_slice _ _ _ _ _ _ i,run_slice_h _ _ _ _ _ i _ _ (by omega) (by omega),mZ f,sN j]
   simp[sliced]
 · have:=h.take l
   refine⟨this.1,this.2.1,fun m=> ?_⟩;obtain⟨b,o,e,p,q⟩:=this.2.2 m;refine⟨b,o,?_,p,q⟩;rw[if_neg (by omega),e,Option.map_some,Addr.add_mid,Nat.zero_mul,Nat.add_zero]
theorem lr{w b:ej}(c:w.grownBy b none){g:Nat}{o:Obj}(h:w.heap[g]? =some o)(e:g<w.heap.size):b.heap[g]? =some o:=(c.block g e (by simp)).trans h
theorem OwnRows.Pc{w b:ej}{base:Nat}{e:ek}{C n:Nat}{v:ed}{c:List (List ed)}(h:OwnRows w base e C v n c)(f:w.grownBy b none):OwnRows b base e C v n c:=by
 refine⟨h.1.kept f ?_,h.2⟩;grind
theorem iJ{L:Nat→Bool}{t:Tmp}{v:ed}:∀{k i:Nat} {c:List (Option Tmp×ed)} {a:Act},c[i]? =some (some t,v)→L (k+i)=false→Kz (c.map (·.1))=true→(Ln L k c a).eval (.tmp t)=a.eval (.tmp t)
 |_,i,[],_,h,_,_=>by rfl
 |k,0,p::r,a,h,f,b=>by
  simp at h;subst h;simp only[List.map_cons,Kz,Bool.and_eq_true]at b;unfold Ln;rw[Nat.add_zero]at f;rw[f,cL (by simp_all)];simp
 |k,i+1,p::r,a,h,f,b=>by
  simp only[List.map_cons,Kz,Bool.and_eq_true]at b;unfold Ln;rw[iJ (i:=i) (by simpa using h) (by grind) b.2];split
  · refine Act.eval_put fun d g e=> ?_
    grind
  · rfl
structure PX (w:ej) (B:Nat) (e:ek) (C k m:Nat) (pre post:List (List ed)) (row:List ed) (x:ed×Nat×ed×ed) (p3 p6 p7 p11:Bool):Prop where
 ord:p11=true→p7=true
 a:p7=false→p3=true→OwnRows w B e C x.1 k pre
 b:p7=false→p6=true→w.heap[x.2.1]? =some (.cells row.toArray e (0,0))∧x.2.1<w.heap.size∧(p3=true→x.1.ownBlock≠some x.2.1)
 c:p7=true→p11=false→OwnRows w B e C x.2.2.1 (k+1) (pre++[row])
 d:p11=true→OwnRows w B e C x.2.2.2 (k+1+m) (pre++[row]++post)
section
variable {w w':ej}{B:Nat}{e:ek}{C k m:Nat}{pre post:List (List ed)}{row:List ed}{x:ed×Nat×ed×ed}{p3 p6 p7 p11:Bool}
theorem nR{n:Nat}{v:ed}{c:List (List ed)}(h:OwnRows w B e C v n c):∀g,v.ownBlock=some g→B≤g∧g<w.heap.size:=by
 intro g b;rcases h.1.2 with⟨rfl,-⟩|⟨f,i,j,rfl,l,o,-⟩
 · simp[Value.ownBlock]at b
 · simp[Value.ownBlock]at b
   grind
theorem PX.s3(h:PX w B e C k m pre post row x p3 p6 p7 p11)(c:w.grownBy w' none){v:ed}(i:OwnRows w' B e C v k pre)(n:v.ownBlock=none∨∃j,v.ownBlock=some j∧w.heap.size≤j):PX w' B e C k m pre post row (v,x.2) true p6 p7 p11:=
 ⟨h.ord,fun _ _=>i,fun b f=>by
  obtain⟨l,g,o⟩:=h.b b f;refine⟨lr c l g,Nat.lt_of_lt_of_le g c.size,fun _ e=> ?_⟩;grind,fun b f=>(h.c b f).Pc c,fun b=>(h.d b).Pc c⟩
theorem PX.s6(h:PX w B e C k m pre post row x p3 p6 p7 p11):PX (w.alloc (.cells row.toArray e)) B e C k m pre post row (x.1,w.heap.size,x.2.2) p3 true p7 p11:=
 have c:=World.grownBy_alloc w (.cells row.toArray e) none
 ⟨h.ord,fun b f=>(h.a b f).Pc c,fun b _=>⟨heap_alloc_new w _,by simp,fun g e=>by
  have:=(nR (h.a b g) _ e).2;simp_all⟩,fun b f=>(h.c b f).Pc c,fun b=>(h.d b).Pc c⟩
theorem PX.s7(h:PX w B e C k m pre post row x p3 p6 p7 p11)(g:p7=false){v:ed}(b:OwnRows w' B e C v (k+1) (pre++[row])):PX w' B e C k m pre post row (x.1,x.2.1,v,x.2.2.2) p3 p6 true p11:=by
 have c:p11=false:=by
  cases f:p11 with
  |false=>rfl
  |true=>have:=h.ord f;simp_all
 subst c;exact⟨by simp,by simp,by simp,fun _ _=>b,by simp⟩
end
structure QJ (w:ej) (B:Nat) (e:ek) (C k m:Nat) (pre post:List (List ed)) (x:ed×ed) (p3 p8:Bool):Prop where
 a:p8=false→p3=true→OwnRows w B e C x.1 k pre
 d:p8=true→OwnRows w B e C x.2 (k+m) (pre++post)
section
variable {w w':ej}{B:Nat}{e:ek}{C k m:Nat}{pre post:List (List ed)}{x:ed×ed}{p3 p8:Bool}
theorem QJ.s3(h:QJ w B e C k m pre post x p3 p8)(b:w.grownBy w' none){v:ed}(c:OwnRows w' B e C v k pre):QJ w' B e C k m pre post (v,x.2) true p8:=
 ⟨fun _ _=>c,fun f=>(h.d f).Pc b⟩
theorem QJ.s8{v:ed}(b:OwnRows w' B e C v (k+m) (pre++post)):QJ w' B e C k m pre post (x.1,v) p3 true:=⟨by simp,fun _=>b⟩
end
end
end Go.Proofs.YtlkpfnjdbgeifaaGreat
