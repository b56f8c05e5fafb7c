import Derived.Deep.MidRow
import Derived.Deep.WholeRow
import Derived.Laws.CopyOwn
import Derived.Laws.IdiomCopy
import Derived.Laws.ResultCell
import Derived.Laws.Tables
import Derived.Lib.Hide
import Derived.Test.YtlkpfnjdbgeifaaGreatFBase
set_option linter.unusedVariables false
open Go renaming TypeId→ed,Value→ej,World→ek,splice→eD,all_oneCell_toArray→eX,Operand→fj,wpList→fo,Program→gg,undef→hG
namespace Go.Proofs.YtlkpfnjdbgeifaaGreat
open Go.RowKit
theorem yd4{A:Prop}(h:A:=by
 have hj':i+j<old.length:=by simp at hj;omega
 refine⟨?_,ao hg _⟩;rw[ae hg,List.getElem?_toArray,List.getElem?_eq_getElem hj'];rfl):A:=h
section
structure Upd (g:Nat) (o:Obj) (w w':ek):Prop where
 os:w'.os=w.os
 tape:w'.tape=w.tape
 output:w'.output=w.output
 size:w'.heap.size=w.heap.size
 at_:w'.heap[g]? =some o
 block:∀k,k≠g→w'.heap[k]? =w.heap[k]?
section
variable {w w' w0:ek}{g B:Nat}{o x:Obj}
theorem Upd.keep{S:Nat→Prop}(h:Upd g o w w')(b:S g):Kj S w w':=⟨h.os,h.tape,h.output,by rw[h.size];omega,fun k _ c=>h.block k fun e=>c (e▸b)⟩
theorem Upd.below(h:Upd g o w w')(hb:Below B w0 w)(hg:B≤g):Below B w0 w':=hb.trans ⟨h.os,h.tape,h.output,by rw[h.size];omega,fun k hk=>h.block k (by omega)⟩
theorem Upd.old(h:Upd g o w w'){k:Nat}(b:w.heap[k]? =some x)(c:k≠g):w'.heap[k]? =some x:=(h.block k c).trans b
theorem Upd.own{base:Nat}{e:ed}{size:Nat}{v:ej}{n:Nat}{b:List ej}(h:Upd g o w w')(c:w.ownsRow base e size v n b)(f:v.ownBlock≠some g):w'.ownsRow base e size v n b:=
 nS c (h.keep (S:=fun k=>k=g) rfl) fun k i e=>f (by rw[i,e])
theorem Upd.rd{n:Nat}{A:Option Addr}{b:List ej}{C:Nat}(h:Upd g o w w')(c:Rd w C A n b)(e:C≤g):Rd w' C A n b:=c.same fun p f=>World.cell?_of_block (h.block p.block (by omega))
theorem Upd.range{b i:Nat}{c:List ej}(h:Upd g o w w')(e:w.rangeAt b i c)(f:b≠g):w'.rangeAt b i c:=fun j v k=>(World.cell?_of_block (h.block b f)).trans (e j v k)
theorem iQ{old cs:Array ej}{t:ed}(b:w.heap[g]? =some (.cells old t (0,0))):Upd g (.cells cs t (0,0)) w (w.setRow g cs):=
 ⟨rfl,rfl,rfl,by simp,setRow_heap w g _ _ t _ b,fun k c=>setRow_other w g k cs c⟩
theorem ar{cs:List ej}{t:ed}{i:Nat}(b:w.heap[g]? =some (.cells cs.toArray t (0,0)))(u:ej):Upd g (.cells (cs.set i u).toArray t (0,0)) w (w.setCell ⟨g,i,none⟩ u):=
 ⟨rfl,rfl,rfl,by simp,by rw[fF b];simp,fun k c=>Below.heap_setCell w _ _ k c⟩
theorem du{c:Type}(L:List c)(off:Nat)(b:List c)(h:off+b.length≤L.length)(j:Nat):(eD L off b)[j]? =if j<off then L[j]? else if j<off+b.length then b[j-off]? else L[j]? :=by
 unfold eD;grind
theorem lM{b:Type}(L:List b)(i:Nat)(v:b)(c:List b)(h:i+(c.length+1)≤L.length):eD (L.set i v) (i+1) c=eD L i (v::c):=by
 apply List.ext_getElem?;intro j;rw[du _ _ _ (by grind),du _ _ _ (by omega)];grind
theorem cA{t:ed}:∀{vs e:List ej} {i:Nat} {w:ek},w.heap[g]? =some (.cells e.toArray t (0,0))→i+vs.length≤e.length→Upd g (.cells (eD e i vs).toArray t (0,0)) w (w.setCells g i vs)
 |[],e,i,w,f,_=>⟨rfl,rfl,rfl,rfl,by simpa[eD,World.setCells]using f,fun _ _=>rfl⟩
 |v::vs,e,i,w,f,j=>by
  have c:=ar (i:=i) f v;have b:=cA (vs:=vs) (i:=i+1) c.at_ (by grind);rw[lM _ _ _ _ (by omega)]at b;exact⟨b.os.trans c.os,b.tape.trans c.tape,b.output.trans c.output,b.size.trans c.size,b.at_,fun k h=>(b.block k h).trans (c.block k h)⟩
theorem ai{cs:List ej}{t:ed}{fr:Nat×Nat}(b:w.heap[g]? =some (.cells cs.toArray t fr)):w.rangeAt g 0 cs:=by
 intro j v c;rw[Nat.zero_add,ae b,List.getElem?_toArray];exact c
theorem bN{e:List ej}{t:ed}{fr:Nat×Nat}(h:w.heap[g]? =some (.cells e.toArray t fr))(a b c:List ej)(k:e=a++(b++c))(i:Nat)(l:a.length=i):w.rangeAt g i b:=by
 intro j v f;rw[ae h,List.getElem?_toArray,k,←l,List.getElem?_append_right (by omega),Nat.add_sub_cancel_left,List.getElem?_append_left (List.getElem?_eq_some_iff.1 f).1];exact f
theorem gD{b i C n:Nat}{c:List ej}(h:w.rangeAt b i c)(e:c.length=n)(f:b<C):Rd w C (some ⟨b,i,none⟩) n c:=
 ⟨e,fun _=>⟨b,i,rfl,f,h⟩⟩
end
section
variable {P:gg}{ops:Array Oper}{rest:List Oper}{o:Oper}{a:Act}{w:ek}{Q:Exit→Act→ek→Prop}
theorem ag(f:o.guard=none)(b:ed)(x y:fj)(i:o.op=.store b x y)(g:Nat)(new:List ej)(j:a.eval x=.pointer (some ⟨g,0,none⟩))(k:a.eval y=.agg new.toArray)(t:ed)(old:Array ej)(c:w.heap[g]? =some (.cells old t (0,0)))(m:(P.info? b).map (·.size)=some new.length)(hold:old.size=new.length)(l:∀v∈new,v.oneCell'=true)(h:∀e,Upd g (.cells new.toArray t (0,0)) w e→fo P ops Q rest (a.put o.dst hG) e):fo P ops Q (o::rest) a w:=
 wpList_store_row f b x y i g new.toArray j k t old c (by omega) (by omega) (eX l) (h _ (iQ c))
theorem bI(e:o.guard=none)(b:ed)(x y:fj)(f:o.op=.store b x y)(g i:Nat)(new:List ej)(k:a.eval x=.pointer (some ⟨g,i,none⟩))(l:a.eval y=.agg new.toArray)(t:ed)(old:List ej)(hg:w.heap[g]? =some (.cells old.toArray t (0,0)))(m:(P.info? b).map (·.size)=some new.length)(hold:i+new.length≤old.length)(n:∀v∈new,v.oneCell'=true)(h:∀c,Upd g (.cells (eD old i new).toArray t (0,0)) w c→fo P ops Q rest (a.put o.dst hG) c):fo P ops Q (o::rest) a w:=by
 have p:=cA (i:=i) hg hold;refine wpList_store_mid e b x y f g i new.toArray k l (fun j hj=> ?_) (by simpa using m) (eX n) (by simpa using h _ p);exact yd4
theorem ac(f:o.guard=none)(t:ed)(aT:Array (Nat×fj))(g:o.op=.build t aT)(b:List (Nat×ej))(j:aT.toList.map (fun p=>(p.1,a.eval p.2))=b)(cells:Array ej)(c:P.built t b=some cells)(h:fo P ops Q rest (a.put o.dst (.agg cells)) w):fo P ops Q (o::rest) a w:=by
 have e:(aT.map fun(i,x)=>(i,a.eval x)).toList=b:=by rw[←j,Array.toList_map]
 exact wpList_build f t aT g (by rw[e,c];rfl) (by rw[e,c];exact h)
theorem Dr{w:ek}(f n p k:ed)(B:P.underlying f=some (.slice k))(C:(P.info? k).map (·.size)=some 1)(q r:Option Addr)(l u m z:Nat)(g off:Nat)(e:List ej)(t:ed)(A:w.heap[g]? =some (.cells e.toArray t (0,0)))(c:List ej)(E:c.length=Nat.min m l)(G:0<c.length→q=some ⟨g,off,none⟩∧∃b i,r=some ⟨b,i,none⟩∧w.rangeAt b i c)(L:off+c.length≤e.length)(H:∀v∈c,v.oneCell'=true):
 ∃D,(Builtin.copy_ #[f,n] p #[.slice q l u,.slice r m z]).run P w=.ok (goInt c.length) D∧Upd g (.cells (eD e off c).toArray t (0,0)) w D:=by
 by_cases I:c.length=0
 · obtain rfl:c=[]:=List.eq_nil_of_length_eq_zero I
   exact⟨w,run_copy_none (P:=P) w f n p k q r l u m z B C (by omega),rfl,rfl,rfl,rfl,by simpa[eD]using A,fun _ _=>rfl⟩
 · obtain⟨rfl,b,i,rfl,J⟩:=G (by omega)
   refine⟨_,run_copy_row (P:=P) w f n p k g off l u ⟨b,i,none⟩ m z e.toArray t c B C A E (fun j v K=>by rw[Addr.add_mid];exact J j v K) (by omega) H,?_⟩;have h:=iQ (cs:=(e.take off++(c++e.drop (off+c.length))).toArray) A;simpa[eD]using h
theorem se{K:Act→ek→Prop}(d s:fj)(j q:ed)(z:o.op=.call {callee:=.builtin .copy,args:= #[d,s],argTypes:= #[j,q]})(k:ed)(A:P.underlying j=some (.slice k))(B:(P.info? k).map (·.size)=some 1)(l m:Option Addr)(n r p u:Nat)(C:a.eval d=.slice l n r)(D:a.eval s=.slice m p u)(g off:Nat)(e:List ej)(t:ed)(E:w.heap[g]? =some (.cells e.toArray t (0,0)))(c:List ej)(G:c.length=Nat.min p n)(H:0<c.length→l=some ⟨g,off,none⟩∧∃b i,m=some ⟨b,i,none⟩∧w.rangeAt b i c)(I:off+c.length≤e.length)(J:∀v∈c,v.oneCell'=true)(h:∀f,Upd g (.cells (eD e off c).toArray t (0,0)) w f→K (a.put o.dst (goInt c.length)) f):o.wp P a w K Q:=by
 obtain⟨f,L,M⟩:=Dr (P:=P) j q o.type k A B l m n r p u g off e t E c G H I J;unfold Oper.wp;simp[execOp,z,resolve,invoke,builtin,C,D,L,Result.andThen];exact h f M
theorem dA{K:Act→ek→Prop}{E:Prop}(z:o.guard=none)(d s:fj)(f p:ed)(A:o.op=.call {callee:=.builtin .copy,args:= #[d,s],argTypes:= #[f,p]})(j:ed)(B:P.underlying f=some (.slice j))(C:(P.info? j).map (·.size)=some 1)(k l:Option Addr)(m q n r:Nat)(D:a.eval d=.slice k m q)(G:a.eval s=.slice l n r)(g off:Nat)(e:List ej)(t:ed)(H:w.heap[g]? =some (.cells e.toArray t (0,0)))(c:List ej)(I:c.length=Nat.min n m)(J:0<c.length→k=some ⟨g,off,none⟩∧∃b i,l=some ⟨b,i,none⟩∧w.rangeAt b i c)(L:off+c.length≤e.length)(M:∀v∈c,v.oneCell'=true)(h:∀u,Upd g (.cells (eD e off c).toArray t (0,0)) w u→K (a.put o.dst (goInt c.length)) u):if Region.wanted o (yielded ops a.tmps)=true then Oper.wp P o a w K Q else E:=by
 rw[if_pos (by simp[Region.wanted,z])];exact se d s f p A j B C k l m q n r D G g off e t H c I J L M h
end
theorem aj(w:ek)(o:Obj)(n:Nat)(h:w.heap.size=n):(w.alloc o).heap[n]? =some o:=by subst h;exact heap_alloc_new w o
theorem bu(w:ek)(A B:Obj):((w.alloc A).alloc B).heap[w.heap.size]? =some A:=am (aj _ _ _ rfl) _
theorem gS(w:ek)(A B C:Obj):(((w.alloc A).alloc B).alloc C).heap[w.heap.size+1]? =some B:=am (aj _ _ _ (by simp)) _
theorem i5(w:ek)(A B C:Obj):(((w.alloc A).alloc B).alloc C).heap[w.heap.size]? =some A:=am (bu w A B) _
theorem ij(w:ek)(A B C:Obj):Below w.heap.size w (((w.alloc A).alloc B).alloc C):=(((Below.refl _ w).alloc (Nat.le_refl _) _).alloc (by simp) _).alloc (by simp;omega) _
theorem cG(w:ek)(A B:Obj):Below w.heap.size w ((w.alloc A).alloc B):=((Below.refl _ w).alloc (Nat.le_refl _) _).alloc (by simp) _
theorem dU{P:gg}{f:Func}{p:Tmp}{c:ed}(h:f.results= #[.cell p c])(e:Array ej)(w:ek)(g:Nat)(t:ed)(b:List ej)(fr:Nat×Nat)(d:TypeDesc)(i:e.getD p hG=.pointer (some ⟨g,0,none⟩))(j:w.heap[g]? =some (.cells b.toArray t fr))(k:P.underlying c=some d)(l:(match d with| .struct _| .array _ _=>true|_=>false)=true)(m:(P.info? c).map (·.size)=some b.length):
 (results f e).run P w=.ok (.agg b.toArray) w:=
 results_cell_row h e w g t b.toArray fr d i j k l (by omega)
theorem aD{P:gg}{f:Func}{p u:Tmp}{b:ed}(h:f.results= #[.cell p b,.tmp u])(e:Array ej)(w:ek)(g:Nat)(t:ed)(c:List ej)(fr:Nat×Nat)(d:TypeDesc)(i:e.getD p hG=.pointer (some ⟨g,0,none⟩))(j:w.heap[g]? =some (.cells c.toArray t fr))(k:P.underlying b=some d)(l:(match d with| .struct _| .array _ _=>true|_=>false)=true)(m:(P.info? b).map (·.size)=some c.length):
 (results f e).run P w=.ok (.tuple #[.agg c.toArray,e.getD u hG]) w:=by
 rw[results_cell_tmp h,i];simp only[asAddr,Sem.run_pure,Result.andThen_ok,run_loadVar_row w g t b c.toArray fr d j k l (by omega)]
end
end Go.Proofs.YtlkpfnjdbgeifaaGreat
