import Derived.Test.YtlkpfnjdbgeifaaGreatFRowDel
import Derived.Test.YtlkpfnjdbgeifaaGreatFRegion2
import Derived.Test.YtlkpfnjdbgeifaaGreatFStill
set_option linter.unusedSimpArgs false
set_option linter.unusedVariables false
set_option maxRecDepth 100000
open Nat renaming le_refl→ed
open Go renaming World→ej,Value→ek,Calls→eD
namespace Go.Proofs.YtlkpfnjdbgeifaaGreat
open Go.Proofs.Tryz
open Go.RowKit
theorem IA{A:Prop}(h:A:=by
 go_wp2_with fail;go_ret;exact⟨rfl,hb⟩):A:=h
namespace JX
open rw
def Pg(l:List En)(e:En):List En:=MA (fun x=>x.l==e.l) l++[e]
def OA(l:List En)(b:Int):Option En:=l.find? fun x=>x.l==b
def Qh(m:List En)(x:En):Bool:=m.any fun e=>e.l==x.l&&e.s==x.s
def MN(l m:List En):List En:=MA (Qh m) l
abbrev EFr(c:Nat)(b:Option Nat)(w e:ej):Prop:=Kj (fun k=>k=c∨b=some k) w e
structure KI (w:ej) (base dg:Nat) (l:List En):Prop where
 head:∃v,w.heap[dg]? =some (.cells #[v] 149 (0,0))∧OwnRows w base 90 19 v l.length (ens l)
 low:base≤dg
 ok:∀x∈l,x.ok
theorem fu{w:ej}{base C n:Nat}{e:TypeId}{v:ek}{c:List (List ek)}(h:OwnRows w base e C v n c){k:Nat}(b:v.ownBlock=some k):base≤k∧∃f,w.heap[k]? =some (.cells f e (0,0)):=by
 rcases h.1.2 with⟨rfl,-⟩|⟨g,l,m,rfl,i,j,-⟩
 · cases b
 · cases b
   exact⟨i,_,j⟩
section
variable {w w' w'':ej}{base dg:Nat}{l:List En}
theorem EFr.refl(dg:Nat)(b:Option Nat)(w:ej):EFr dg b w w:=Kj.refl _ w
theorem EFr.trans{b:Option Nat}(h:EFr dg b w w')(c:EFr dg b w' w''):EFr dg b w w'':=Kj.trans h c (fun _ q=>q) (fun _ _ q=>q)
theorem EFr.KZ{b:Option Nat}(h:Below w.heap.size w w'):EFr dg b w w':=Kj.Mj h
theorem EFr.Ll{b:Option Nat}(h:w.grownBy w' b):EFr dg b w w':=Kj.mono (Kj.Ll h) fun _ _ q=> .inr q.symm
theorem EFr.head{b:Option Nat}{o:Obj}(c:Upd dg o w w'):EFr dg b w w':=⟨c.os,c.tape,c.output,Nat.le_of_eq c.size.symm,fun k _ f=>c.block k fun e=>f (.inl e)⟩
def EUp(dg:Nat)(w w':ej):Prop:=∀v b,w.heap[dg]? =some (.cells #[v] 149 (0,0))→w'.heap[dg]? =some (.cells #[b] 149 (0,0))→EFr dg v.ownBlock w w'∧(b.ownBlock=v.ownBlock∨∃j,b.ownBlock=some j∧w.heap.size≤j)
theorem mV{dg:Nat}{w:ej}{v c:ek}(h:w.heap[dg]? =some (.cells #[v] 149 (0,0)))(b:w.heap[dg]? =some (.cells #[c] 149 (0,0))):v=c:=by
 rw[h]at b;injection b with b
 injection b with b
 simpa using b
theorem KI.lt(h:KI w base dg l):dg<w.heap.size:=by obtain⟨v,b,-⟩:=h.head;exact af b
theorem KI.below(h:KI w base dg l)(hb:Below w.heap.size w w'):KI w' base dg l:=by
 obtain⟨v,h1,h2⟩:=h.head;exact⟨⟨v,aa h1 hb,h2.below hb⟩,h.low,h.ok⟩
theorem KI.drew(h:KI w base dg l):KI w.drew base dg l:=h.below (Below.refl _ w).drew
theorem KI.kept(h:KI w base dg l)(c:∀(k:Nat) (e:Array ek) (t:TypeId) (fr:Nat×Nat),w.heap[k]? =some (Obj.cells e t fr)→(t== 149 ||t== 90)=true→w'.heap[k]? =some (Obj.cells e t fr)):KI w' base dg l:=by
 obtain⟨v,f,b⟩:=h.head;refine⟨⟨v,c _ _ _ _ f rfl,⟨b.1.1,?_⟩,b.2⟩,h.low,h.ok⟩;rcases b.1.2 with i|⟨g,j,m,n,o,p,r⟩
 · exact .inl i
 · exact .inr ⟨g,j,m,n,o,c _ _ _ _ p rfl,r⟩
end
theorem qW: prog.underlying 86 =some (.pointer (prog.pointee 86)):=by kernel_rfl
theorem JY(x:Addr)(w:ej):(binOp .eql 86 (.pointer (some x)) (.pointer none)).run prog w=.ok (.bool false) w:=run_eql_pointer_nil w 86 (some x) qW
theorem Dg(l:List En)(e:En):ens l++[e.v]=ens (l++[e]):=by simp[ens]
theorem xO{p:En→Bool}{l:List En}(h:∀x∈l,x.ok):∀x∈MA p l,x.ok:=fun x b=>h x (List.mem_filter.1 b).1
theorem tU{b:Type}(p:b→Bool)(l:List b):(MA p l).length≤l.length:=List.length_filter_le _ _
section
variable {w:ej}{base dg:Nat}{l:List En}
theorem mR(w:ej):eD prog 65 #[] w fun r b=>r=.returned w.heap.size∧KI b w.heap.size w.heap.size []∧Below w.heap.size w b:=by
 go_enter func65, ntmps65;go_wp2_with fail;go_ret;have h:=aj w (.cells #[.slice none 0 0] 149) _ rfl;exact⟨rfl,⟨⟨_,h,OwnRows.nil⟩,ed _,by simp⟩,(Below.refl _ w).alloc (ed _) _⟩
theorem rh(h:KI w base dg l):eD prog 55 #[dg] w fun r f=>r=.returned (.int .i64 (l.length:Int))∧w=f:=by
 have g:=JY;obtain⟨v,b,e⟩:=h.head;obtain⟨A,c,rfl,-,-⟩:=e.slice;have c0:w.cell? ⟨dg,0,none⟩=some (.slice A l.length c):=by rw[ae b];rfl
 clear h b e;go_enter func55, ntmps55;exact nj
theorem EH{x e:En}{g:Nat}(b:w.heap[g]? =some (.cells e.v.toArray 90 (0,0))):eD prog 146 #[.agg x.v.toArray,g] w fun r c=>r=.returned (.bool (x.l==e.l))∧Below w.heap.size w c:=by
 have hb:=(Below.refl _ w).alloc (ed _) (.cells x.v.toArray 90);have c0:=(fI (aj w (.cells x.v.toArray 90) _ rfl)).1;have c1:=(fI (am b (.cells x.v.toArray 90))).1;clear b;go_enter func146, ntmps146;exact IA
theorem get1{x:En}{g:Nat}{k:Int}(b:w.cell? ⟨g,0,none⟩=some (.int .i64 k)):eD prog 84 #[.agg x.v.toArray,g] w fun r c=>r=.returned (.bool (x.l==k))∧Below w.heap.size w c:=by
 have hb:=(Below.refl _ w).alloc (ed _) (.cells x.v.toArray 90);have c0:=(fI (aj w (.cells x.v.toArray 90) _ rfl)).1;have c1:=(hb.cell (p:=⟨g,0,none⟩) (World.block_lt_of_cell? _ _ b)).trans b;clear b;go_enter func84, ntmps84;exact IA
end
end JX
end Go.Proofs.YtlkpfnjdbgeifaaGreat
