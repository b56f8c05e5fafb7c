import Derived.Shelf.Slices.In.SortNone
import Derived.Test.YtlkpfnjdbgeifaaGreatFSortI
import Derived.Test.YtlkpfnjdbgeifaaGreatFCompI
import Derived.Test.YtlkpfnjdbgeifaaGreatFDevMs
set_option linter.unusedSimpArgs false
set_option linter.unusedVariables false
set_option maxRecDepth 100000
set_option maxHeartbeats 4000000
open List renaming eq_nil_of_length_eq_zero→ed,pairwise_cons→ej,getElem?_map→eD,getElem?_take_of_lt→eX,map_map→gg,replicate→hG,mem_map→hO
open Array renaming getElem?_append_left→ek,getElem?_toList→fo
open Go.Value renaming int→fj
namespace Go.Proofs.YtlkpfnjdbgeifaaGreat
open Go.Proofs.Tryz
open Go.Proofs.Tryz
open Go.RowKit
namespace dev
open Go.RowKit Go.Shelf Go.Lib Go.Sort
theorem lp(x:Int):∀l:List Int,(Ps x l).Perm (x::l)
 |[]=> .refl _
 |y::l=>by
  unfold Ps;split
  · rfl
  · exact((lp x l).cons y).trans (.swap x y l)
theorem iW:∀l:List Int,(MF l).Perm l
 |[]=> .refl _
 |x::l=>(lp x _).trans ((iW l).cons x)
theorem mu(x:Int):∀{l:List Int},l.Pairwise (· ≤·)→(Ps x l).Pairwise (· ≤·)
 |[],_=>by simp[Ps]
 |y::l,h=>by
  have c:=ej.1 h;unfold Ps;split
  · rename_i e
    refine ej.2 ⟨fun z b=> ?_,h⟩;grind
  · rename_i e
    refine ej.2 ⟨fun z b=> ?_,mu x c.2⟩;rcases List.mem_cons.1 ((lp x l).mem_iff.1 b)with rfl|b
    · omega
    simp_all
theorem jQ:∀l:List Int,(MF l).Pairwise (· ≤·)
 |[]=> .nil
 |x::l=>mu x (jQ l)
theorem AV(l:List Int):MF l=l.mergeSort fun x y=>decide (x≤y):=by
 have g:(l.mergeSort fun x y=>decide (x≤y)).Pairwise (· ≤·):=by
  have:=List.pairwise_mergeSort (le:=fun x y:Int=>decide (x≤y)) (fun a b c e f=>by grind) (fun a b=>by grind) l;exact this.imp fun h=>by simp_all
 exact List.Perm.eq_of_pairwise (fun a b _ _ e f=>Int.le_antisymm e f) (jQ l) g ((iW l).trans (List.mergeSort_perm l _).symm)
theorem kM(l:List Int):(MF l).length=l.length:=(iW l).length_eq
theorem xv{c:Type}[Inhabited c]{i:c→Value}{w k:World}{base g b n:Nat}{f:Array Value}{e:TypeId}{d:List c}(p:w.heap[g]? =some (.cells f e (0,0)))(l:base≤g)(q:n≤d.length)(r:d.length≤b)(m:f.size=b*1)(t:b*1≤maxLen)(o:k.heap[g]? =some (.cells (putCells i 0 d.toArray f) e (0,0))):k.ownsRow base e 1 (.slice (some ⟨g,0,none⟩) n b) n ((d.take n).map i):=by
 refine⟨by simp_all,.inr ⟨g,b,_,rfl,l,o,by omega,by omega,by simp[putCells,m],?_⟩⟩;apply List.ext_getElem?;intro j;by_cases hj:j<n
 · rw[eX (by omega),fo]
   unfold putCells;grind
 grind
theorem qt{w:World}{g c n:Nat}{b:Array Value}{e:TypeId}{zs:List Int}(f:w.heap[g]? =some (.cells b e (0,0)))(l:zs.length=n)(m:n≤c)(o:b.size=c*1)(i:b.toList.take (n*1)=ints .i64 zs):Holds (fj .i64) w g 0 zs.toArray:=by
 intro j hj;have k:j<zs.length:=by simpa using hj
 refine⟨?_,ao f _⟩;rw[Nat.zero_add,ae f,←fo,←eX (j:=n*1) (by omega),i,Cz .i64 zs j k,getElem!_pos zs.toArray j hj];simp
theorem et{w w':World}{g n:Nat}{d:Array Int}{os:Array Obj}{b:Array Value}{e:TypeId}(c:w.heap[g]? =some (.cells b e (0,0)))(f:w'=grow (putRow (fj .i64) (Sort.ahead w n) g 0 d) os):
 w.grownBy w' (some g)∧w'.heap[g]? =some (.cells (putCells (fj .i64) 0 d b) e (0,0)):=by
 subst f;have h:=af c;have j:(putRow (fj .i64) (Sort.ahead w n) g 0 d).heap.size=w.heap.size:=size_putRow _ _ _ _ _;constructor
 · refine⟨rfl,rfl,rfl,?_,fun i k l=> ?_⟩
   · simp
   · show((putRow (fj .i64) (Sort.ahead w n) g 0 d).heap++os)[i]? =_
     rw[ek (by omega)];show(w.heap.modify g _)[i]? =_;grind
 · show((putRow (fj .i64) (Sort.ahead w n) g 0 d).heap++os)[g]? =_
   rw[ek (by omega)];show(w.heap.modify g _)[g]? =_;rw[Array.getElem?_modify,c];simp[onCells]
theorem jP(base:Nat)(v:Value)(b:List Int)(w:World)(h:w.ownsRow base 3 1 v b.length (ints .i64 b))(z:b.length≤1000000):
 Calls prog 101 #[v] w fun e c=>e=.returned (.tuple #[])∧c.ownsRow base 3 1 v b.length (ints .i64 (MF b))∧w.grownBy c v.ownBlock:=by
 rcases h.2 with⟨rfl,l⟩|⟨g,m,A,rfl,o,f,p,B,k,q⟩
 · have:b=[]:=ed l
   subst this
   exact(Any.slices_Sort_int_none Tryz.MF none 0 w).mono fun e c ⟨j,i⟩=>by
    subst i;exact⟨j,h,World.grownBy.refl _ _⟩
 · have r:=qt (zs:=b) f rfl p k q
   refine(Any.slices_Sort_int Tryz.MF g 0 m b w r (af f) (by omega)).mono fun e c ⟨j,n,C,i⟩=> ?_;rw[←AV]at i;obtain⟨t,u⟩:=et f i;have D:=kM b;have:=xv (n:=b.length) (d:=MF b) f o (by omega) (by omega) k (by omega) u;rw[List.take_of_length_le (by omega)]at this;exact⟨j,this,t⟩
theorem u5(b:List Int):(compact b).length≤b.length:=by
 unfold compact compactUpTo;grind
theorem mA(base:Nat)(v:Value)(b:List Int)(w:World)(h:w.ownsRow base 3 1 v b.length (ints .i64 b))(A:b.length≤1000000):
 Calls prog 102 #[v] w fun e c=>∃f,e=.returned f∧c.ownsRow base 3 1 f (compact b).length (ints .i64 (compact b))∧w.grownBy c v.ownBlock∧f.ownBlock=v.ownBlock:=by
 rcases h.2 with⟨rfl,o⟩|⟨g,p,B,rfl,q,i,k,C,l,r⟩
 · have:b=[]:=ed o
   subst this
   exact(Any.slices_Compact_int_empty Tryz.Q5 none 0 w).mono fun e c ⟨j,m⟩=>by
    subst m;exact⟨_,j,h,World.grownBy.refl _ _,rfl⟩
 · have t:=qt (zs:=b) i rfl k l r
   refine(Any.slices_Compact_int Tryz.Q5 g 0 p b w t (by omega) k).mono fun e c ⟨j,n,m⟩=> ?_;obtain⟨u,z⟩:=et (w':=c) (n:=n) (d:=(compact b++hG (b.length-(compact b).length) 0).toArray) (os:= #[]) i (by simp_all);have D:=u5 b;have:=xv (n:=(compact b).length) (d:=compact b++hG (b.length-(compact b).length) 0) i q (by simp) (by simp_all) l (by omega) z;rw[List.take_left' rfl]at this;exact⟨_,j,this,u,rfl⟩
open JT (Nd JS)
theorem lu(l:List (Sh×Int))(y:Sh×Int):Ma (l++[y])=Ma l++if y.2=1 then [y.1.m]else []:=by
 unfold Ma;rw[List.filterMap_append];by_cases h:y.2=1<;>simp[h]
theorem oD(l:List (Sh×Int)):(Ma l).length≤l.length:=List.length_filterMap_le _ _
theorem Bl(N:Nd)(b r:Int){k n:Nat}(h:k<n):(Lw N b r n)[k]? =some (look N ⟨k,b,r⟩):=by
 unfold Lw;rw[eD,List.getElem?_range h];rfl
section
variable {w0:World}{base g m:Nat}{N:Nd}
theorem qh(h:JS w0 base g m N)(b r:Int)(H:wfI b)(I:wfI r):Calls prog 155 #[.pointer (some ⟨g,0,none⟩),.int .i64 b,.int .i64 r] w0 fun e Q=>
 ∃v,e=.returned v∧Mr w0 Q [] [⟨3,1,v,(Nx N b r).length,ints .i64 (Nx N b r)⟩]:=by
 have t:=qZ (E8 h b r H I);have z:=h.ok.geo;have R:=qZ (fun k:Nat=>fW h.ok ⟨k,b,r⟩)
 have S:=qZ (show∀q∈shs (shL (Lw N b r N.D)),q.length=23 by
  intro q f;simp only[shs,shL,gg,hO]at f;obtain⟨y,p,rfl⟩:=f;obtain⟨k,-,rfl⟩:=hO.1 p;exact bi (fW h.ok ⟨k,b,r⟩))
 have J:=qZ (show Nx N b r=Go.Lib.compact (MF (Ma (Lw N b r N.D)))from rfl);obtain⟨D,L⟩:∃D,D=N.D:=⟨_,rfl⟩;rw[←L]at t S J z;clear h H I L;go_enter func155, ntmps155;go_wp2_with fail;refine t.out.mono ?_;rintro e w ⟨u,v,rfl,hs⟩;obtain⟨T,cv,rfl⟩:=hs.form 0 rfl (by omega);obtain⟨U,V,rfl⟩:=hs.form 1 rfl (by omega);replace hs:=hs.empty 3 1 rfl;have X:=z.2.1;clear t z;go_wp2_with fail;go_loopw [7,21] (fun l i wr=>∃k:Nat,k≤D∧i=.int .i64 k∧Mr w0 wr [] [⟨3,1,l,(Ma (Lw N b r k)).length,ints .i64 (Ma (Lw N b r k))⟩,⟨3,1,.slice (some ⟨T,0,none⟩) D cv,D,ints .i64 (whL (Lw N b r D))⟩,⟨62,23,.slice (some ⟨U,0,none⟩) D V,D,(shs (shL (Lw N b r D))).flatten⟩]) (fun _ i _=>D-(intOf i).toNat)
 case atStart=>exact⟨0,by omega,rfl,hs⟩
 case round=>
  clear hs;obtain⟨k,Y,rfl,hs⟩:=hrel;by_cases W:k<D
  · have Z:(k:Int)<(D:Int):=by omega
    have M:=qZ (R.out k);have B:=qZ (pS N b r k);have E:=qZ (Bl N b r W);have j:=qZ (show(Ma (Lw N b r k)).length≤6 by have:=oD (Lw N b r k);rw[nJ]at this;omega);obtain⟨y,p⟩:∃y,y=look N ⟨k,b,r⟩:=⟨_,rfl⟩;rw[←p]at M B E;obtain⟨x,q⟩:=y;have aa:=qZ (bi M.out);have ab:=qZ (show(shs (shL (Lw N b r D)))[k]? =some x.v by simp only[shs,shL,gg,eD,E.out];rfl);have ad:=qZ (show(ints .i64 (whL (Lw N b r D)))[k]? =some (.int .i64 q) by simp only[ints,whL,gg,eD,E.out];rfl);clear p;by_cases f:q=1
    · subst f
      go_wp2_with (first|(refine ma ?_;try (clear hs;intro w hs))|(at_builtin;(refine bT hs 43 rfl rfl underlying43 AY rfl (by decide) (by first|rfl|assumption|(simp;done)|(exact(by assumption:Hid _).out)) rfl rfl (by first|exact aE _ _ _ _ _ _ _ _|exact aO _ _ _ _|exact av _ _|decide|(intro u hu;simp at hu;subst hu;rfl)|assumption) (by have:=j.out;unfold maxLen;omega) (by have:=j.out;omega) ?_;clear hs;intro v w hs)));go_roundw
      case rel=>
       refine⟨k+1,by omega,by go_num,?_⟩;have e1:ints .i64 (Ma (Lw N b r k++[(x,1)]))=ints .i64 (Ma (Lw N b r k))++[.int .i64 x.m]:=by rw[lu];simp[ints]
       have e2:(Ma (Lw N b r k++[(x,1)])).length=(Ma (Lw N b r k)).length+1:=by rw[lu];simp
       rw[B.out,e1,e2];exact hs.tail
      case measure=>simp[intOf];omega
    · have ae:(q==1)=false:=by simpa using f
      go_wp2_with (refine ma ?_;try (clear hs;intro w hs));go_roundw
      case rel=>
       refine⟨k+1,by omega,by go_num,?_⟩;have e1:Ma (Lw N b r k++[(x,q)])=Ma (Lw N b r k):=by rw[lu,if_neg f,List.append_nil]
       rw[B.out,e1];exact hs.tail
      case measure=>simp[intOf];omega
  · obtain rfl:k=D:=by omega
    have j:=qZ (show(Ma (Lw N b r k)).length≤6 by have:=oD (Lw N b r k);rw[nJ]at this;omega);go_wp2_with fail;refine(jP w0.heap.size _ (Ma (Lw N b r k)) _ (hs.sl (i:=0) rfl) (by have:=j.out;omega)).mono ?_;rintro e w ⟨rfl,n,o⟩;replace hs:=hs.app (s:=⟨3,1,_,_,_⟩) n o (.inl rfl);clear n o;go_wp2_with fail;have O:=kM (Ma (Lw N b r k));refine(mA w0.heap.size _ (MF (Ma (Lw N b r k))) _ (by rw[O];exact hs.sl (i:=0) rfl) (by have:=j.out;omega)).mono ?_;rintro e w ⟨v',rfl,n,o,P⟩;replace hs:=hs.app (s:=⟨3,1,_,_,_⟩) n o (.inl P);clear n o P O;go_wp2_with fail;go_ret;refine⟨_,rfl,?_⟩;rw[J.out];exact hs.swap.O1.swap.O1
end
end dev
end Go.Proofs.YtlkpfnjdbgeifaaGreat
