import Derived.Below
import Derived.Deep.Draws
import Derived.Laws.OwnMore
import Derived.Laws.Rows
import Derived.Maps.AppendAt
import Derived.OwnWalk
import Derived.RegionTactic
open Array renaming getElem?_eq_some_iff→ed
open Go renaming World→ej,Value→ek,TypeId→eD,run_append_own_at→fo,IntKind→gg,maxLen→hG,Addr→hO,wpList_plain→hX,wpList→hZ,Program→iP,Operand→jd,Oper→jg
open List renaming eq_nil_of_length_eq_zero→eX
open Go.RowKit renaming Below→fj
namespace Go.Proofs.YtlkpfnjdbgeifaaGreat
open Go.RowKit
theorem yb7{A:Prop}(h:A:=by
 unfold Oper.wp execOp;simp only[ho,resolve,invoke,builtin,Sem.run_bind,Sem.run_pure,Result.andThen_ok,List.map_toArray,List.map_cons,List.map_nil,hs,hx,hr];exact h v' w' h2 (ef hbel hown h3 (by omega) hB) h3 (h5.imp id fun e=>⟨_,e,Nat.le_refl _⟩)):A:=h
theorem yet{A:Prop}(h:A:=by simp[Builtin.append_,run_underlying ht,sizeOf,typeInfo,hi,Builtin.lenOf,Builtin.firstCells,hnc,storeCells]):A:=h
theorem yfb{A:Prop}(h:A:=by simp[Builtin.append_,run_underlying ht,sizeOf,typeInfo,hi,Builtin.lenOf,Builtin.firstCells]):A:=h
section

def Rd(w:ej)(B:Nat)(A:Option hO)(n:Nat)(c:List ek):Prop:=
 c.length=n∧(0<n→∃b o,A=some ⟨b,o,none⟩∧b<B∧∀i u,c[i]? =some u→w.cell? ⟨b,o+i,none⟩=some u)

section
variable {w w':ej}{B B' n:Nat}{A:Option hO}{xs:List ek}
theorem Rd.nil:Rd w B A 0 []:=⟨rfl,fun h=>absurd h (by omega)⟩
theorem Rd.same(h:Rd w B A n xs)(f:∀p:hO,p.block<B→w'.cell? p=w.cell? p):Rd w' B A n xs:=by
 refine⟨h.1,fun c=> ?_⟩;obtain⟨b,o,e,g,i⟩:=h.2 c;grind
theorem Rd.mono(h:Rd w B A n xs)(f:B≤B'):Rd w B' A n xs:=by
 refine⟨h.1,fun c=> ?_⟩;obtain⟨b,o,e,g,i⟩:=h.2 c;grind
theorem Rd.below(h:Rd w B A n xs){C:Nat}(hb:fj C w w')(hC:B≤C):Rd w' B A n xs:=h.same fun _ hp=>hb.cell (by omega)
theorem Rd.drewN(h:Rd w B A n xs)(k:Nat):Rd (w.drewN k) B A n xs:=h
theorem Rd.drew(h:Rd w B A n xs):Rd w.drew B A n xs:=h
theorem Rd.at_(h:Rd w B A n xs){k:Nat}(c:k<n):∃b o,A=some ⟨b,o,none⟩∧b<B∧w.cell? ⟨b,o+k,none⟩=xs[k]? :=by
 obtain⟨b,o,e,f,g⟩:=h.2 (by omega);have i:k<xs.length:=by rw[h.1];exact c
 grind
theorem Rd.cut(h:Rd w B A n xs){k c:Nat}(f:k≤n)(g:n≤c):Rd w B (if c=k then A else A.map (·.add k)) (n-k) (xs.drop k):=by
 refine⟨by rw[List.length_drop,h.1],fun j=> ?_⟩;obtain⟨b,o,rfl,e,l⟩:=h.2 (by omega);rw[if_neg (by omega)];refine⟨b,o+k,?_,e,fun i u m=> ?_⟩
 · simp only[Option.map_some,Addr.add]
   simp
 grind
theorem Rd.take(h:Rd w B A n xs){k:Nat}(c:k≤n):Rd w B A k (xs.take k):=by
 refine⟨by rw[List.length_take,h.1];omega,fun e=> ?_⟩;obtain⟨b,o,rfl,f,g⟩:=h.2 (by omega);grind
theorem Rd.grown(h:Rd w B A n xs){row:Option Nat}(b:w.grownBy w' row)(c:B≤w.heap.size)(f:∀g,row=some g→B≤g):Rd w' B A n xs:=
 h.same fun p i=>World.cell?_of_block (b.block p.block (by omega) fun e=>by grind)
theorem Rd.O4{base:Nat}{e:eD}{c:Nat}(h:w.ownsRow base e 1 (.slice A n c) n xs):Rd w w.heap.size A n xs:=by
 refine⟨by have:=h.1;omega,fun l=> ?_⟩;rcases h.2 with⟨m,o⟩|⟨g,p,q,b,r,f,_⟩
 · omega
 · injection b with j t z
   subst j;refine⟨g,0,rfl,(ed.1 f).1,fun i u k=> ?_⟩;have:=h.cells (g:=g) rfl i u k;have C:(⟨g,0,none⟩:hO).add i=⟨g,0+i,none⟩:=by unfold Addr.add;simp_all
   simp_all
end

theorem eq{w b:ej}{base:Nat}{e:eD}{size:Nat}{v:ek}{n:Nat}{c:List ek}(h:w.ownsRow base e size v n c)(i:fj w.heap.size w b):b.ownsRow base e size v n c:=by
 refine⟨h.1,?_⟩;rcases h.2 with o|⟨g,j,k,l,m,f,r⟩
 · simp_all
 · exact Or.inr ⟨g,j,k,l,m,by rw[i.block g (ed.1 f).1];exact f,r⟩
theorem gF{w:ej}{base b:Nat}{e:eD}{size:Nat}{v:ek}{n:Nat}{c:List ek}(h:w.ownsRow base e size v n c)(l:b≤base):w.ownsRow b e size v n c:=by
 refine⟨h.1,?_⟩;rcases h.2 with m|⟨g,f,i,j,o,k,r⟩
 · simp_all
 · exact Or.inr ⟨g,f,i,j,by omega,k,r⟩
theorem eo{w:ej}{base:Nat}{e:eD}{size:Nat}{v:ek}{n:Nat}{b:List ek}(h:w.ownsRow base e size v n b):∃A c,v=.slice A n c∧n≤c∧c≤hG:=by
 rcases h.2 with⟨rfl,rfl⟩|⟨g,f,i,j,k,l,m,o,_⟩
 · grind
 grind
theorem aS{w:ej}{base:Nat}{e:eD}{size:Nat}{v:ek}{n:Nat}{b:List ek}(h:w.ownsRow base e size v n b)(f:0<n):∃g c,v=.slice (some ⟨g,0,none⟩) n c∧base≤g∧g<w.heap.size∧n≤c∧c≤hG:=by
 rcases h.2 with⟨rfl,rfl⟩|⟨g,i,j,k,l,m,o,p,_⟩
 · omega
 grind
theorem x7{w:ej}{base:Nat}{e:eD}{size:Nat}{v:ek}{n:Nat}{b:List ek}(h:w.ownsRow base e size v n b){p:hO}(c:v.ownBlock≠some p.block)(u:ek):(w.setCell p u).ownsRow base e size v n b:=by
 refine⟨h.1,?_⟩;rcases h.2 with l|⟨g,f,i,rfl,j,k,r⟩
 · simp_all
 · exact Or.inr ⟨g,f,i,rfl,j,by rw[Below.heap_setCell _ _ _ _ (fun e=>c (by rw[←e];rfl))];exact k,r⟩
theorem aF{B:Nat}{a w:ej}(h:fj B a w)(n:Nat):fj B a (w.drewN n):=⟨h.os,h.tape,h.output,h.size,h.block⟩
theorem ef{B:Nat}{a w b:ej}{base:Nat}{e:eD}{size:Nat}{v:ek}{n:Nat}{c:List ek}(h:fj B a w)(f:w.ownsRow base e size v n c)(g:w.grownBy b v.ownBlock)(i:B≤w.heap.size)(l:B≤base):fj B a b:=
 h.grown g i fun k j=>by have:=f.lt k j;omega

structure Kj (S:Nat→Prop) (w w':ej):Prop where
 os:w'.os=w.os
 tape:w'.tape=w.tape
 output:w'.output=w.output
 size:w.heap.size≤w'.heap.size
 block:∀k,k<w.heap.size→¬S k→w'.heap[k]? =w.heap[k]?
theorem Kj.refl(S:Nat→Prop)(w:ej):Kj S w w:=⟨rfl,rfl,rfl,Nat.le_refl _,fun _ _ _=>rfl⟩
theorem Kj.trans{S T U:Nat→Prop}{a b c:ej}(h:Kj S a b)(k:Kj T b c)(j:∀i,S i→U i)(l:∀i,i<a.heap.size→T i→U i):Kj U a c:=
 ⟨k.os.trans h.os,k.tape.trans h.tape,k.output.trans h.output,Nat.le_trans h.size k.size,fun i f g=>(k.block i (Nat.lt_of_lt_of_le f h.size) fun e=>g (l i f e)).trans (h.block i f fun e=>g (j i e))⟩
theorem Kj.mono{S T:Nat→Prop}{a b:ej}(h:Kj S a b)(f:∀i,i<a.heap.size→S i→T i):Kj T a b:=
 ⟨h.os,h.tape,h.output,h.size,fun i c g=>h.block i c fun e=>g (f i c e)⟩
theorem Kj.below{S:Nat→Prop}{a b:ej}{B:Nat}(h:Kj S a b)(hB:B≤a.heap.size)(hS:∀i,S i→B≤i):fj B a b:=
 ⟨h.os,h.tape,h.output,h.size,fun i hi=>h.block i (by omega) fun e=>by grind⟩
theorem Kj.Mj{S:Nat→Prop}{a b:ej}(h:fj a.heap.size a b):Kj S a b:=
 ⟨h.os,h.tape,h.output,h.size,fun i c _=>h.block i c⟩
theorem Kj.Ll{a b:ej}{row:Option Nat}(h:a.grownBy b row):Kj (fun i=>some i=row) a b:=
 ⟨h.os,h.tape,h.output,h.size,h.block⟩
theorem Kj.setCell{S:Nat→Prop}{a b:ej}(h:Kj S a b){p:hO}(f:S p.block∨a.heap.size≤p.block)(u:ek):Kj S a (b.setCell p u):=
 ⟨h.os,h.tape,h.output,by simpa[World.setCell]using h.size,fun i c e=>(Below.heap_setCell b p u i (by grind)).trans (h.block i c e)⟩
theorem Kj.drew{S:Nat→Prop}{a b:ej}(h:Kj S a b):Kj S a b.drew:=⟨h.os,h.tape,h.output,h.size,h.block⟩
theorem Kj.drewN{S:Nat→Prop}{a b:ej}(h:Kj S a b)(n:Nat):Kj S a (b.drewN n):=⟨h.os,h.tape,h.output,h.size,h.block⟩
theorem nS{S:Nat→Prop}{w b:ej}{base:Nat}{e:eD}{size:Nat}{v:ek}{n:Nat}{c:List ek}(h:w.ownsRow base e size v n c)(i:Kj S w b)(j:∀k,v.ownBlock=some k→¬S k):b.ownsRow base e size v n c:=by
 refine⟨h.1,?_⟩;rcases h.2 with p|⟨g,l,m,rfl,o,f,r⟩
 · simp_all
 · exact Or.inr ⟨g,l,m,rfl,o,by rw[i.block g (ed.1 f).1 (j g rfl)];exact f,r⟩
theorem Rd.keep{S:Nat→Prop}{w w':ej}{B n:Nat}{A:Option hO}{b:List ek}(h:Rd w B A n b)(c:Kj S w w')(g:B≤w.heap.size)(e:∀i,i<B→¬S i):Rd w' B A n b:=
 h.same fun p f=>World.cell?_of_block (c.block p.block (by omega) (e _ f))
theorem ae{w:ej}{g:Nat}{b:Array ek}{t:eD}{f:Nat×Nat}(h:w.heap[g]? =some (.cells b t f))(i:Nat):w.cell? ⟨g,i,none⟩=b[i]? :=cell_of_row w g i b t f h
theorem ao{w:ej}{g:Nat}{b:Array ek}{t:eD}(h:w.heap[g]? =some (.cells b t (0,0)))(i:Nat):w.frozen? ⟨g,i,none⟩=false:=by simp[World.frozen?,h]
theorem am{w:ej}{g:Nat}{x:Obj}(h:w.heap[g]? =some x)(o:Obj):(w.alloc o).heap[g]? =some x:=(Below.heap_alloc w o g (ed.1 h).1).trans h
theorem aR{w b:ej}{g:Nat}{x:Obj}{row:Option Nat}(h:w.heap[g]? =some x)(c:w.grownBy b row)(e:some g≠row):b.heap[g]? =some x:=(c.block g (ed.1 h).1 e).trans h
theorem bE{S:Nat→Prop}{w b:ej}{g:Nat}{x:Obj}(h:w.heap[g]? =some x)(c:Kj S w b)(e:¬S g):b.heap[g]? =some x:=(c.block g (ed.1 h).1 e).trans h
theorem aa{w b:ej}{g:Nat}{x:Obj}(h:w.heap[g]? =some x)(c:fj w.heap.size w b):b.heap[g]? =some x:=(c.block g (ed.1 h).1).trans h
theorem FR{w:ej}{g:Nat}{x:Obj}{p:hO}(h:w.heap[g]? =some x)(b:g≠p.block)(u:ek):(w.setCell p u).heap[g]? =some x:=(Below.heap_setCell w p u g b).trans h
theorem nQ{w:ej}{base:Nat}{e:eD}{size:Nat}{v:ek}{n:Nat}{b:List ek}(h:w.ownsRow base e size v n b){g:Nat}{c:Array ek}{t:eD}{f:Nat×Nat}(k:w.heap[g]? =some (.cells c t f))(l:e≠t):v.ownBlock≠some g:=by
 rcases h.2 with⟨rfl,_⟩|⟨i,m,o,rfl,_,p,_⟩
 · simp[Value.ownBlock]
 · intro j
   have:i=g:=by simpa[Value.ownBlock]using j
   simp_all
theorem af{w:ej}{g:Nat}{o:Obj}(h:w.heap[g]? =some o):g<w.heap.size:=(ed.1 h).1
theorem fF{w:ej}{g i:Nat}{b:Array ek}{t:eD}{f:Nat×Nat}(h:w.heap[g]? =some (.cells b t f))(u:ek):(w.setCell ⟨g,i,none⟩ u).heap[g]? =some (.cells (b.setIfInBounds i u) t f):=by
 simp[World.setCell,Array.getElem?_modify,h]

def MC(l:List Bool):List ek:=l.map Value.bool
def ints(k:gg)(l:List Int):List ek:=l.map (Value.int k)
def An(k:gg)(l:List Nat):List ek:=l.map fun n:Nat=>Value.int k n
theorem mS(k:gg)(l:List Nat)(j:Nat)(h:j<l.length):(An k l)[j]? =some (.int k l[j]):=by simp[An,h]
theorem Cz(k:gg)(l:List Int)(j:Nat)(h:j<l.length):(ints k l)[j]? =some (.int k l[j]):=by simp[ints,h]
theorem ah(k:gg)(l:List Nat):(An k l).length=l.length:=by simp[An]
theorem av(k:gg)(l:List Nat):∀u∈An k l,u.oneCell'=true:=by
 intro u b;obtain⟨_,_,rfl⟩:=List.mem_map.1 b;rfl
section
variable {P:iP}{o:jg}{a:Act}{Q:Exit→Act→ej→Prop}(s x:jd)(t e:eD)(z:ek)(bytes:Nat){base B n m C c:Nat}{A:Option hO}{w0 wr:ej}{v u:ek}{xs news:List ek}
theorem uL{K:Act→ej→Prop}(l:o.op=.call {callee:=.builtin .append,args:= #[s,x],argTypes:= #[t,t]})(p:P.underlying t=some (.slice e))(q:(P.info? e).map (fun i=>(i.zero,i.size,i.bytes))=some (some z,1,bytes))(r:z.cells.size=1)(g:wr.ownsRow base e 1 v n xs)(w:fj B w0 wr)(D:a.eval s=v)(E:a.eval x=.slice (some ⟨wr.heap.size,0,none⟩) 1 1)(T:u.oneCell'=true)(G:n+1≤hG)(H:(n+1)*bytes≤140737488355328)(U:base≤wr.heap.size)(I:B≤base)(h:∀b f,f.ownsRow base e 1 b (n+1) (xs++[u])→fj B w0 f→(wr.alloc (.cells #[u] e)).grownBy f v.ownBlock→(b.ownBlock=v.ownBlock∨∃j,b.ownBlock=some j∧wr.heap.size≤j)→K (a.put o.dst b) f):o.wp P a (wr.alloc (.cells #[u] e)) K Q:=by
 obtain⟨i,J,L,M,N⟩:=info_parts q
 obtain⟨b,f,O,R,k,_,S⟩:=fo (P:=P) (wr.alloc (.cells #[u] e)) base t o.type e i z 1 bytes p J L M N r (by decide) v n xs (g.alloc _) ⟨wr.heap.size,0,none⟩ 1 1 [u] rfl (cell_one_new _ _ _)
  (by simp_all) G H (by simp;omega)
 unfold Oper.wp execOp;simp only[l,resolve,invoke,builtin,Sem.run_bind,Sem.run_pure,Result.andThen_ok,List.map_toArray,List.map_cons,List.map_nil,D,E,O];exact h b f R (ef (w.alloc (by omega) _) (g.alloc _) k (by simp;omega) I) k (S.imp id fun e=>⟨_,e,by simp⟩)
theorem uK{K:Act→ej→Prop}(ho:o.op=.call {callee:=.builtin .append,args:= #[s,x],argTypes:= #[t,t]})(ht:P.underlying t=some (.slice e))(J:(P.info? e).map (fun i=>(i.zero,i.size,i.bytes))=some (some z,1,bytes))(q:z.cells.size=1)(hown:wr.ownsRow base e 1 v n xs)(hbel:fj B w0 wr)(hs:a.eval s=v)(hx:a.eval x=.slice A m c)(f:Rd wr C A m news)(r:∀u∈news,u.oneCell'=true)(w:n+m≤hG)(D:(n+m)*bytes≤140737488355328)(E:base≤wr.heap.size)(hB:B≤base)(h:∀v' w',w'.ownsRow base e 1 v' (n+m) (xs++news)→fj B w0 w'→wr.grownBy w' v.ownBlock→(v'.ownBlock=v.ownBlock∨∃j,v'.ownBlock=some j∧wr.heap.size≤j)→K (a.put o.dst v') w'):o.wp P a wr K Q:=by
 obtain⟨i,hi,G,H,I⟩:=info_parts J;rcases A with _|L
 · have M:m=0:=by
    rcases Nat.eq_zero_or_pos m with k|k
    · exact k
    · obtain⟨b,O,l,_⟩:=f.2 k
      cases l
   subst M;have p:news=[]:=eX f.1;subst p
   have N:(Builtin.append_ #[t,t] o.type #[v,.slice none 0 c]).run P wr=.ok v wr:=by
    rcases hown.2 with⟨rfl,rfl⟩|⟨g,R,S,rfl,_,_,hnc,_⟩
    · exact yfb
    · exact yet
   unfold Oper.wp;simp[execOp,ho,resolve,invoke,builtin,hs,hx,N,Result.andThen];exact h v wr (by simp_all) hbel (World.grownBy.refl _ _) (.inl rfl)
 · by_cases k:0<m
   · obtain⟨b,off,l,_,T⟩:=f.2 k
     injection l with l
     subst l
     obtain⟨v',w',hr,h2,h3,_,h5⟩:=fo (P:=P) wr base t o.type e i z 1 bytes ht hi G H I q (by decide) v n xs hown ⟨b,off,none⟩ m c news (by rw[f.1];omega)
      (by intro j u U;rw[Addr.add_lit];simp_all) r w D E
     exact yb7
   · obtain rfl:m=0:=by omega
     have p:news=[]:=eX f.1;subst p;obtain⟨v',w',hr,h2,h3,_,h5⟩:=fo (P:=P) wr base t o.type e i z 1 bytes ht hi G H I q (by decide) v n xs hown L 0 c [] (by simp) (by simp) r w D E;exact yb7
end
theorem dc{P:iP}{g:Array jg}{rest:List jg}{o:jg}{a:Act}{Q:Exit→Act→ej→Prop}(w:o.guard=none)(s x:jd)(t:eD)(A:o.op=.call {callee:=.builtin .append,args:= #[s,x],argTypes:= #[t,t]})(e:eD)(z:ek)(bytes:Nat)(C:P.underlying t=some (.slice e))(D:(P.info? e).map (fun i=>(i.zero,i.size,i.bytes))=some (some z,1,bytes))(E:z.cells.size=1){base B n:Nat}{l b:ej}{v u:ek}{m:List ek}(G:b.ownsRow base e 1 v n m)(H:fj B l b)(I:a.eval s=v)(J:a.eval x=.slice (some ⟨b.heap.size,0,none⟩) 1 1)(K:u.oneCell'=true)(L:n+1≤hG)(M:(n+1)*bytes≤140737488355328)(N:base≤b.heap.size)(O:B≤base)(h:∀c f,f.ownsRow base e 1 c (n+1) (m++[u])→fj B l f→(b.alloc (.cells #[u] e)).grownBy f v.ownBlock→(c.ownBlock=v.ownBlock∨∃j,c.ownBlock=some j∧b.heap.size≤j)→hZ P g Q rest (a.put o.dst c) f):hZ P g Q (o::rest) a (b.alloc (.cells #[u] e)):=
 hX w fun _ R=>uL s x t e z bytes A C D E G H I J K L M N O fun c f p q r k=>R _ _ (h c f p q r k)
theorem gy{P:iP}{w:Array jg}{rest:List jg}{o:jg}{a:Act}{Q:Exit→Act→ej→Prop}(G:o.guard=none)(s x:jd)(t:eD)(H:o.op=.call {callee:=.builtin .append,args:= #[s,x],argTypes:= #[t,t]})(e:eD)(z:ek)(bytes:Nat)(I:P.underlying t=some (.slice e))(J:(P.info? e).map (fun i=>(i.zero,i.size,i.bytes))=some (some z,1,bytes))(K:z.cells.size=1){base B n m C c:Nat}{A:Option hO}{D b:ej}{v:ek}{E l:List ek}(L:b.ownsRow base e 1 v n E)(M:fj B D b)(N:a.eval s=v)(O:a.eval x=.slice A m c)(R:Rd b C A m l)(S:∀u∈l,u.oneCell'=true)(T:n+m≤hG)(U:(n+m)*bytes≤140737488355328)(V:base≤b.heap.size)(W:B≤base)(h:∀f g,g.ownsRow base e 1 f (n+m) (E++l)→fj B D g→b.grownBy g v.ownBlock→(f.ownBlock=v.ownBlock∨∃j,f.ownBlock=some j∧b.heap.size≤j)→hZ P w Q rest (a.put o.dst f) g):hZ P w Q (o::rest) a b:=
 hX G fun _ X=>uK s x t e z bytes H I J K L M N O R S T U V W fun f g p q r k=>X _ _ (h f g p q r k)
end
end Go.Proofs.YtlkpfnjdbgeifaaGreat
