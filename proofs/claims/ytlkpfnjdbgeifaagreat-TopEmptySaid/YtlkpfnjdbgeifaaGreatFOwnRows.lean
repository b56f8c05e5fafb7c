import Derived.Great.BuildSlice
import Derived.Test.YtlkpfnjdbgeifaaGreatFMem
import Derived.Test.YtlkpfnjdbgeifaaGreatFFlat
set_option linter.unusedVariables false
open Go renaming Value→ed,World→ek,TypeId→eX,run_append_own_at→hX,Program→iP,Operand→jd,wpList_plain→jg,Addr→jm,execOp→js,wpList→jt,resolve→jw,builtin→jI,Oper→kb
open List renaming getElem?_eq_some_iff→ej,eq_nil_of_length_eq_zero→eD,map_toArray→fo,map_cons→gg,length_append→hG,flatten_cons→hO,map_nil→hZ
open Go.Result renaming andThen_ok→fj
namespace Go.Proofs.YtlkpfnjdbgeifaaGreat
open Go.RowKit
theorem ya7{A:Prop}(h:A:=by
 apply List.ext_getElem?;intro j;by_cases hj:j<k
 · have hl2:off+cs.length≤(L.take k).length:=by rw[List.length_take];omega
   rw[List.getElem?_take_of_lt hj,du _ _ _ h,du _ _ _ hl2,List.getElem?_take_of_lt hj]
 · have l1:(splice L off cs).length=L.length:=by simp[splice];omega
   have hl2:off+cs.length≤(L.take k).length:=by rw[List.length_take];omega
   have l2:(splice (L.take k) off cs).length=(L.take k).length:=by simp[splice];omega
   grind):A:=h
theorem yc7{A:Prop}(h:A:=by
 rw[if_neg (by simp)]
 have e:(Array.zipIdx row.toArray).foldl (fun(cs:Array Value) (x:Value×Nat)=>cs.setIfInBounds (0+x.2) x.1) cl.toArray=row.toArray:=by
  simpa using hf
 simpa using e):A:=h
theorem yd3{A:Prop}(h:A:=by
 rcases h.1.2 with⟨h0,-⟩|⟨g',cap,cur,hv,hb,hh,h1,h2,h3,h4⟩
 · cases h0
 · cases hv
   exact⟨cur.toList,by omega,hb,h1,h2,by omega,h4⟩):A:=h
theorem yee{A:Prop}(h:A:=by
 rw[List.findIdx?_eq_none_iff];intro x hx;obtain⟨j,hj,rfl⟩:=List.getElem_of_mem hx;exact hall j _ (List.getElem?_eq_getElem hj)):A:=h
theorem yef{A:Prop}(h:A:=by
 have:=congrArg (List.drop 1) h.back;simp_all):A:=h
theorem yek{A:Prop}(h:A:=by
 rcases h.2 with⟨rfl,-⟩|⟨g,cap,cur,rfl,hb,hh,-⟩
 · simp[Value.ownBlock]at hk
 · simp[Value.ownBlock]at hk
   simp_all):A:=h
theorem yen{A:Prop}(h:A:=by
 have:=h.front;rw[List.take_length]at this;refine⟨this,?_⟩;rw[←this,List.length_take,h.len];have:=h.lt;omega):A:=h
theorem ye6{A:Prop}(h:A:=by
 unfold splice;rw[List.take_zero,List.nil_append,List.drop_eq_nil_of_le (by omega),List.append_nil]):A:=h
theorem ye7{A:Prop}(h:A:=by
 symm;refine List.filter_eq_self.2 fun x hx=> ?_;obtain⟨j,hj,rfl⟩:=List.getElem_of_mem hx;grind):A:=h
section
def OwnRows(w:ek)(base:Nat)(e:eX)(C:Nat)(v:ed)(n:Nat)(b:List (List ed)):Prop:=
 w.ownsRow base e C v n b.flatten∧b.length=n∧∀r∈b,r.length=C
theorem bx{C:Nat}:∀{b:List (List ed)},(∀r∈b,r.length=C)→b.flatten.length=b.length*C
 |[],_=>by simp
 |r::b,h=>by
  rw[hO,hG,bx fun x c=>h x (by simp[c]),h r (by simp),List.length_cons,Nat.succ_mul];omega
theorem aW{C:Nat}:∀{rows:List (List ed)},(∀r∈rows,r.length=C)→∀{i j:Nat} {r:List ed},rows[i]? =some r→j<C→rows.flatten[i*C+j]? =r[j]?
 |[],_,i,j,r,h,_=>by grind
 |x::rows,b,0,j,r,h,hj=>by
  grind
 |x::rows,b,i+1,j,r,h,hj=>by
  have c:=b x (by simp);rw[hO,List.getElem?_append_right (by grind),c];have:=aW (rows:=rows) (fun y e=>b y (by simp[e])) (i:=i) (j:=j) (r:=r) (by simp_all) hj;grind
theorem Rds.nil{w:ek}{B C:Nat}{A:Option jm}:Rds w B A C 0 []:=⟨rfl,by simp,fun h=>absurd h (by omega)⟩
theorem Rds.below{w w':ek}{B C D n:Nat}{A:Option jm}{rows:List (List ed)}(h:Rds w B A C n rows)(hb:Below D w w')(hD:B≤D):Rds w' B A C n rows:=h.same fun p hp=>hb.cell (by omega)
theorem Rds.mono{w:ek}{B c C n:Nat}{A:Option jm}{f:List (List ed)}(h:Rds w B A C n f)(i:B≤c):Rds w c A C n f:=
 ⟨h.1,h.2.1,fun g=>by obtain⟨b,o,e,j,k⟩:=h.2.2 g;grind⟩
theorem Rds.upd{w b:ek}{B C n G:Nat}{o:Obj}{A:Option jm}{c:List (List ed)}(h:Rds w B A C n c)(e:Upd G o w b)(f:B≤G):Rds b B A C n c:=h.same fun p g=>World.cell?_of_block (e.block p.block (by omega))
theorem Rds.take{w:ek}{B C n:Nat}{A:Option jm}{c:List (List ed)}(h:Rds w B A C n c){k:Nat}(g:k≤n):Rds w B A C k (c.take k):=by
 refine⟨by rw[List.length_take,h.1];omega,fun r f=>h.2.1 r (List.mem_of_mem_take f),fun i=> ?_⟩;obtain⟨b,o,e,j,l⟩:=h.2.2 (by omega);grind
theorem Rds.cells{w:ek}{B C m:Nat}{b o:Nat}{c:List (List ed)}(h:Rds w B (some ⟨b,o,none⟩) C m c):w.rangeAt b o c.flatten:=by
 intro p u g;have q:=bx h.2.1;have f:=(ej.1 g).1;rw[q]at f;have i:0<C:=by rcases Nat.eq_zero_or_pos C with e|e;(subst e;simp at f);exact e
 have j:p/C<c.length:=by rw[Nat.div_lt_iff_lt_mul i];exact f
 have hj:p%C<C:=Nat.mod_lt _ i;obtain⟨t,z,e,D,r⟩:=h.2.2 (by rw[←h.1];exact Nat.lt_of_le_of_lt (Nat.zero_le _) j);injection e with e
 injection e with e1 e2
 subst e1 e2;have k:=List.getElem?_eq_getElem j;have l:=aW h.2.1 k hj;have n:p/C*C+p%C=p:=by rw[Nat.mul_comm];exact Nat.div_add_mod p C
 rw[n,g]at l;have:=r _ _ _ u k l.symm;rwa [n]at this
section
variable {w w':ek}{base C n:Nat}{e:eX}{v:ed}{rows:List (List ed)}
theorem OwnRows.nil:OwnRows w base e C (.slice none 0 0) 0 []:=⟨World.ownsRow_nil _ _ _ _,rfl,by simp⟩
theorem OwnRows.rds{A:Option jm}{c:Nat}(h:OwnRows w base e C (.slice A n c) n rows):Rds w w.heap.size A C n rows:=by
 obtain⟨f,m,b⟩:=h;refine⟨m,b,fun o=> ?_⟩;obtain⟨g,z,p,B,q,_⟩:=aS f o;injection p with t _ _
 subst t;refine⟨g,0,rfl,q,fun i r j u k l=> ?_⟩;have hj:j<C:=by rw[←b r (List.mem_of_getElem? k)];exact(ej.1 l).1
 have:=f.cells (g:=g) rfl (i*C+j) u (by rw[aW b k hj];exact l);rwa [Addr.add_mid]at this
theorem OwnRows.below(h:OwnRows w base e C v n rows)(hb:Below w.heap.size w w'):OwnRows w' base e C v n rows:=⟨eq h.1 hb,h.2⟩
theorem OwnRows.upd{G:Nat}{o:Obj}(h:OwnRows w base e C v n rows)(b:Upd G o w w')(c:v.ownBlock≠some G):OwnRows w' base e C v n rows:=⟨b.own h.1 c,h.2⟩
theorem OwnRows.alloc(h:OwnRows w base e C v n rows)(o:Obj):OwnRows (w.alloc o) base e C v n rows:=⟨h.1.alloc _,h.2⟩
theorem OwnRows.lower{b:Nat}(h:OwnRows w base e C v n rows)(c:b≤base):OwnRows w b e C v n rows:=⟨gF h.1 c,h.2⟩
theorem OwnRows.slice(h:OwnRows w base e C v n rows):∃A c,v=.slice A n c∧n≤c∧c≤maxLen:=eo h.1
end
section
variable {P:iP}{o:kb}{a:Act}{Q:Exit→Act→ek→Prop}
theorem bQ{K:Act→ek→Prop}(s x:jd)(t:eX)(D:o.op=.call {callee:=.builtin .append,args:= #[s,x],argTypes:= #[t,t]})(e:eX)(z:ed)(C bytes:Nat)(ht:P.underlying t=some (.slice e))(ag:(P.info? e).map (fun i=>(i.zero,i.size,i.bytes))=some (some z,C,bytes))(S:z.cells.size=C)(T:0<C){base B n m ah c:Nat}{A:Option jm}{w0 g:ek}{v:ed}{q k:List (List ed)}(w:OwnRows g base e C v n q)(J:Below B w0 g)(L:a.eval s=v)(M:a.eval x=.slice A m c)(p:Rds g ah A C m k)(h1:∀r∈k,∀u∈r,u.oneCell'=true)(U:n+m≤maxLen)(V:(n+m)*bytes≤140737488355328)(W:base≤g.heap.size)(X:B≤base)(h:∀b f,OwnRows f base e C b (n+m) (q++k)→Below B w0 f→g.grownBy f v.ownBlock→(b.ownBlock=v.ownBlock∨∃j,b.ownBlock=some j∧g.heap.size≤j)→K (a.put o.dst b) f):o.wp P a g K Q:=by
 obtain⟨i,hi,Y,Z,aa⟩:=info_parts ag;have ab:=bx p.2.1;rw[p.1]at ab
 have ai:∀u∈k.flatten,u.oneCell'=true:=by
  intro u E;obtain⟨r,l,E⟩:=List.mem_flatten.1 E;exact h1 r l u E
 have aj:∀r∈q++k,r.length=C:=by
  intro r l;rcases List.mem_append.1 l with l|l
  · exact w.2.2 r l
  · exact p.2.1 r l
 have ak:(q++k).length=n+m:=by rw[hG,w.2.1,p.1]
 have ae:∀b f,f.ownsRow base e C b (n+m) (q.flatten++k.flatten)→OwnRows f base e C b (n+m) (q++k):=fun b f D=>⟨by rw[List.flatten_append];exact D,ak,aj⟩
 rcases A with _|ad
 · have hm:m=0:=by
    rcases Nat.eq_zero_or_pos m with G|G
    · exact G
    · obtain⟨af,o',H,_⟩:=p.2.2 G
      cases H
   subst hm;have N:k=[]:=eD p.1;subst N
   have al:(Builtin.append_ #[t,t] o.type #[v,.slice none 0 c]).run P g=.ok v g:=by
    rcases w.1.2 with⟨rfl,rfl⟩|⟨an,ao,aq,rfl,_,_,hnc,_⟩
    · exact yfb
    · exact yet
   unfold Oper.wp;simp[js,D,jw,invoke,jI,L,M,al,Result.andThen];exact h v g (by simpa using w) J (World.grownBy.refl _ _) (.inl rfl)
 · by_cases G:0<m
   · obtain⟨af,off,H,_⟩:=p.2.2 G
     injection H with H
     subst H
     obtain⟨b,f,l,O,I,_,R⟩:=hX (P:=P) g base t o.type e i z C bytes ht hi Y Z aa S T v n q.flatten w.1 ⟨af,off,none⟩ m c k.flatten ab
      (by intro j u E;rw[Addr.add_mid];exact p.cells j u E) ai U V W
     unfold Oper.wp js;simp only[D,jw,invoke,jI,Sem.run_bind,Sem.run_pure,fj,fo,gg,hZ,L,M,l];exact h b f (ae _ _ O) (ef J w.1 I (by omega) X) I (R.imp id fun e=>⟨_,e,Nat.le_refl _⟩)
   · obtain rfl:m=0:=by omega
     have N:k=[]:=eD p.1;subst N;obtain⟨b,f,l,O,I,_,R⟩:=hX (P:=P) g base t o.type e i z C bytes ht hi Y Z aa S T v n q.flatten w.1 ad 0 c [] (by simp) (by simp) (by simp) U V W;unfold Oper.wp js;simp only[D,jw,invoke,jI,Sem.run_bind,Sem.run_pure,fj,fo,gg,hZ,L,M,l];exact h b f (ae b f (by simpa using O)) (ef J w.1 I (by omega) X) I (R.imp id fun e=>⟨_,e,Nat.le_refl _⟩)
theorem aN{w:Array kb}{rest:List kb}(H:o.guard=none)(s x:jd)(t:eX)(I:o.op=.call {callee:=.builtin .append,args:= #[s,x],argTypes:= #[t,t]})(e:eX)(z:ed)(C bytes:Nat)(J:P.underlying t=some (.slice e))(K:(P.info? e).map (fun i=>(i.zero,i.size,i.bytes))=some (some z,C,bytes))(L:z.cells.size=C)(M:0<C){base B n m D c:Nat}{A:Option jm}{E b:ek}{v:ed}{G l:List (List ed)}(N:OwnRows b base e C v n G)(O:Below B E b)(R:a.eval s=v)(S:a.eval x=.slice A m c)(T:Rds b D A C m l)(U:∀r∈l,∀u∈r,u.oneCell'=true)(V:n+m≤maxLen)(W:(n+m)*bytes≤140737488355328)(X:base≤b.heap.size)(Y:B≤base)(h:∀f g,OwnRows g base e C f (n+m) (G++l)→Below B E g→b.grownBy g v.ownBlock→(f.ownBlock=v.ownBlock∨∃j,f.ownBlock=some j∧b.heap.size≤j)→jt P w Q rest (a.put o.dst f) g):jt P w Q (o::rest) a b:=
 jg H fun _ Z=>bQ s x t I e z C bytes J K L M N O R S T U V W X Y fun f g p q r k=>Z _ _ (h f g p q r k)
end
theorem oK:∀(b:List ed) (k:Nat) (cells:List ed),k+b.length≤cells.length→((b.zipIdx k).foldl (fun(c:Array ed) (p:ed×Nat)=>c.setIfInBounds p.2 p.1) cells.toArray)=(splice cells k b).toArray
 |[],k,cells,_=>by simp[splice]
 |x::b,k,cells,h=>by
  rw[List.zipIdx_cons,List.foldl_cons];have:=oK b (k+1) (cells.set k x) (by grind);rw[lM _ _ _ _ (by omega)]at this;simp_all
theorem qT{P:iP}(w:ek)(t e:eX)(row:List ed)(b:TypeInfo)(z:ed)(f:P.underlying t=some (.slice e))(g:P.info? e=some b)(i:b.zero=some z)(c:b.size=row.length)(m:0<row.length)(n:row.length≤1000):
 (Instr.buildSlice t 1 #[(0,.agg row.toArray)]).run P w=.ok (.slice (some ⟨w.heap.size,0,none⟩) 1 1) (w.alloc (.cells row.toArray e)):=by
 refine run_buildSlice w t e 1 _ row.toArray b z f g i (by rw[c];omega) (by rw[c];omega) ?_;have j:((Array.range (1*b.size)).map (z.cells[· %z.cells.size]!)).toList.length=row.length:=by simp[c]
 generalize (Array.range (1*b.size)).map (z.cells[· %z.cells.size]!)=cells at*;obtain⟨cl,rfl⟩:∃cl:List ed,cells=cl.toArray:=⟨cells.toList,by simp⟩;have k:cl.length=row.length:=by simpa using j
 have hf:=oK row 0 cl (by omega)
 have l:splice cl 0 row=row:=by
  exact ye6
 rw[l]at hf;simp only[Instr.fill,Value.cells,List.size_toArray,Nat.zero_mul,c,k];exact yc7
theorem cT{P:iP}{o:kb}{a:Act}{w:ek}{K:Act→ek→Prop}{Q:Exit→Act→ek→Prop}(t:eX)(x:jd)(c:o.op=.buildSlice t 1 #[(0,x)])(e:eX)(row:List ed)(z:ed)(C b:Nat)(f:a.eval x=.agg row.toArray)(g:P.underlying t=some (.slice e))(j:(P.info? e).map (fun i=>(i.zero,i.size,i.bytes))=some (some z,C,b))(m:row.length=C)(n:0<C)(p:C≤1000)(h:K (a.put o.dst (.slice (some ⟨w.heap.size,0,none⟩) 1 1)) (w.alloc (.cells row.toArray e))):o.wp P a w K Q:=by
 obtain⟨i,k,l,q,r⟩:=info_parts j;unfold Oper.wp js;simp only[c,Sem.run_bind,fo,gg,hZ,f,qT w t e row i z g k l (by omega) (by omega) (by omega),fj];exact h
theorem dL{P:iP}{c:Array kb}{rest:List kb}{o:kb}{a:Act}{w:ek}{Q:Exit→Act→ek→Prop}(f:o.guard=none)(t:eX)(x:jd)(g:o.op=.buildSlice t 1 #[(0,x)])(e:eX)(row:List ed)(z:ed)(C b:Nat)(j:a.eval x=.agg row.toArray)(k:P.underlying t=some (.slice e))(l:(P.info? e).map (fun i=>(i.zero,i.size,i.bytes))=some (some z,C,b))(m:row.length=C)(n:0<C)(p:C≤1000)(h:jt P c Q rest (a.put o.dst (.slice (some ⟨w.heap.size,0,none⟩) 1 1)) (w.alloc (.cells row.toArray e))):jt P c Q (o::rest) a w:=
 jg f fun _ q=>cT t x g e row z C b j k l m n p (q _ _ h)
theorem jX{w:ek}{g:Nat}{row:List ed}{t:eX}{fr:Nat×Nat}(h:w.heap[g]? =some (.cells row.toArray t fr)):Rds w w.heap.size (some ⟨g,0,none⟩) row.length 1 [row]:=by
 refine⟨rfl,by simp,fun _=>⟨g,0,rfl,af h,fun i r j u b c=> ?_⟩⟩;have e:i=0:=by have:=(ej.1 b).1;simpa using this
 subst e;simp at b;subst b;have:=ai h j u c;simpa using this
end
end Go.Proofs.YtlkpfnjdbgeifaaGreat
