import Derived.Test.YtlkpfnjdbgeifaaGreatFFtMem
import Derived.Test.YtlkpfnjdbgeifaaGreatFSurvMs
set_option linter.unusedSimpArgs false
set_option linter.unusedVariables false
set_option maxRecDepth 100000
set_option maxHeartbeats 32000000
open List.Mem renaming tail→ed,head→ej
open Go.Region renaming wanted→ek,binds→jw
open List renaming mem_append_right→eD,pairwise_cons→gg,take_succ_cons→hX,drop_succ_cons→hZ,foldl_cons→jd,mem_cons→jg,foldl_nil→jm,take_zero→jI,drop_zero→kb,mem_append→kn,mem_cons_self→kr,filterMap_eq_nil_iff→lx,sublist_append_right→ly,sublist_cons_self→l8,perm_append_comm→nr,pairwise_append→o4,map_append→r4
open Go renaming World→eX,Value→fj,Calls→iP,bodyPost_ret→js,TypeId→kk,wpStill_nil→l4,undef→r2,maxLen→tm,results_tmp2→tr,bodyPost→zd,wp_load_mid→zl
open List.Sublist renaming cons_cons→fo,cons→l5,refl→z7
open Nat renaming le_refl→hG,zero_le→qc,mul_le_mul→sT
open Go.Proofs.Tryz renaming prog→hO,underlying35→jt,underlying224→kd,underlying3→ps,underlying220→px,underlying83→py,underlying84→pz,underlying85→qa,underlying116→tl,underlying26→xa,func195→z6
open List.Perm renaming swap→pn,append_right→y0
namespace Go.Proofs.YtlkpfnjdbgeifaaGreat
open Go.Proofs.Tryz
open Go.RowKit
section
section
variable {P:Program}{o:Oper}{a:Act}{K:Act→eX→Prop}{Q:Exit→Act→eX→Prop}{da dv:kk→Bool}{base:Nat}{A B:eX→Prop}{w0 w w':eX}{L:List Bk}{S:List Sl}
theorem Gw(c:Ms da dv base A B w0 w L S)(t:kk){x:Operand}(e:o.op=.box t x)(v:fj)(b:List fj)(f:a.eval x=v)(g:v.cells=b.toArray)(i:da t=false)(h:∀w',Ms da dv base A B w0 w' ((w.heap.size,b,t)::L) S→K (a.put o.dst (.pointer (some ⟨w.heap.size,0,none⟩))) w'):o.wp P a w K Q:=by
 unfold Oper.wp execOp;have j:=h _ (c.alloc b t i);simp[e,Instr.box,newVar,f,g,Result.andThen];exact j
theorem Ms.QK(h:Ms da dv base A B w0 w L S)(i:Below w.heap.size w w'){g:List fj}{t:kk}(j:w'.heap[w.heap.size]? =some (.cells g.toArray t (0,0)))(k:da t=false):Ms da dv base A B w0 w' ((w.heap.size,g,t)::L) S:=by
 have b:=h.below i;have l:=h.size;have m:=h.le;refine⟨b.sub,fun x c=> ?_,gg.2 ⟨fun x c e=> ?_,b.srt⟩,fun s f=>⟨(b.sls s f).1,(b.sls s f).2.1,fun x c q=> ?_⟩,b.sps,b.fr,b.le,b.sa,b.sb,b.a,b.b⟩
 · rcases jg.1 c with rfl|c
   · exact⟨j,by show base≤w.heap.size;omega,k,.inr l⟩
   · exact b.own x c
 · have:=h.lt c
   have e:w.heap.size=x.1:=e;omega
 · rcases jg.1 c with rfl|c
   · have q:s.v.ownBlock=some w.heap.size:=q
     have:=(h.slt f q).2;omega
   · exact(b.sls s f).2.2 x c q
end
end
namespace dev
open JT (Nd JS Ko)
open tal (Ty Kb)
open tab (Tb JZ LS)
theorem _root_.Go.Proofs.YtlkpfnjdbgeifaaGreat.Ms.Ra{base nb:Nat}{A j B u:eX→Prop}{p w q:eX}{L l:List Bk}{S m:List Sl}(h:Ms Kx Kx base A B p w L S)(g:Ms Kx Kx nb j u w q l m)(z:base≤nb)(n:∀x∈l,w.heap.size≤x.1):Ms Kx Kx base j B p q (l++L) (m++S):=by
 have c:=h.dev (A':=j) (oV z g.fr) g.a g.sa;have C:=h.size;have H:=h.le;have r:∀s∈m,∀k,s.v.ownBlock=some k→w.heap.size≤k:=fun s h k i=>by obtain⟨I,-,D⟩:=br (g.sls s h).1 i;exact D
 refine⟨c.sub,fun x b=> ?_,o4.2 ⟨g.srt,c.srt,fun x b y E e=> ?_⟩,fun s f=> ?_,o4.2 ⟨g.sps,c.sps,fun s f t G k i e=> ?_⟩,c.fr,c.le,c.sa,c.sb,c.a,c.b⟩
 · rcases kn.1 b with b|b
   · have o:=g.own x b
     have:=n x b;exact⟨o.1,by omega,o.2.2.1,.inr (by omega)⟩
   · exact c.own x b
 · have:=n x b
   have:=h.lt E;omega
 · rcases kn.1 f with f|f
   · refine⟨gF (g.sls s f).1 C,(g.sls s f).2.1,fun x b i=> ?_⟩
     rcases kn.1 b with b|b
     · exact(g.sls s f).2.2 x b i
     · have:=r s f _ i
       have:=h.lt b;omega
   · refine⟨(c.sls s f).1,(c.sls s f).2.1,fun x b i=> ?_⟩
     rcases kn.1 b with b|b
     · have:=n x b
       have:=(h.slt f i).2;omega
     · exact(c.sls s f).2.2 x b i
 · have:=r s f k i
   have:=(h.slt G e).2;omega
theorem Ie: hO.built 149 []=some ([.slice none 0 0]:List fj).toArray:=by kernel_rfl
theorem mi(b:eX):iP hO 65 #[] b fun e f=>e=.returned (.pointer (some ⟨b.heap.size,0,none⟩))∧f.heap[b.heap.size]? =some (.cells ([.slice none 0 0]:List fj).toArray 149 (0,0))∧Below b.heap.size b f:=by
 have c:=Mr.start b;go_enter func65, ntmps65;go_wp2_with (first|(refine ac rfl 149 _ rfl _ rfl _ Ie ?_)|(refine aG c 149 rfl rfl _ _ rfl rfl rfl ?_;clear c;intro w c));go_ret;exact⟨rfl,c.blk (i:=0) rfl,c.out⟩
theorem nn{N:Nd}(h:∀f∈Kc N,f.whole=true)(k:Nat):(NY N k).held=[]∧(NY N k).Mm=[]∧(NY N k).first=0:=by
 have b:∀j f,K4 (Kc N) j=some f→f.whole=true:=fun j f e=>h f (iU e).1
 have c:∀k,KU N (Kc N) k=[]:=fun k=>by
  unfold KU;rw[lx];intro j _;cases q:K4 (Kc N) j with
  |none=>rfl
  |some f=>simp[b j f q]
 have g:∀k,Nq N (Kc N) k=[]:=fun k=>by
  unfold Nq;rw[lx];intro j _;cases q:K4 (Kc N) j with
  |none=>rfl
  |some f=>simp[b j f q]
 have i:∀k,OG N (Kc N) k=[]:=fun k=>by
  unfold OG;rw[List.flatMap_eq_nil_iff];intro j _;cases q:K4 (Kc N) j with
  |none=>rfl
  |some f=>simp[b j f q]
 refine⟨?_,?_,?_⟩
 · show Go.Lib.compact (MF (OG N (Kc N) k))=[]
   rw[i];rfl
 · show KU N (Kc N) k++Nq N (Kc N) k=[]
   rw[c,g];rfl
 · show(KU N (Kc N) k).length=0
   rw[c];rfl
def Kr(N:Nd):Dv:=⟨N,KH N,Lm (Kc N) (Lj N) (Lj N),⟨-1,0,0,max (Lc (Kc N) 1) 1⟩⟩
theorem lh{N:Nd}(h:∀f∈Kc N,f.whole=true):KD N=Kr N:=by
 unfold KD Kr;rw[(nn h _).1];rfl
theorem mj{N:Nd}(h:∀f∈Kc N,f.whole=true)(c:N.off=false):Mo N=if(Kr N).clear.2≠0 then(Kr N).clear else(Kr N).clear.1.room:=by
 obtain⟨e,g,i⟩:=nn h (Lj N);have b:∀D:Dv,D.Mm []=(D,0):=fun _=>rfl
 unfold Mo;rw[c,if_neg (by simp)];unfold Qe;rw[e,g,i,lh h,List.take_nil,List.drop_nil,b];simp only[ne_eq,not_true_eq_false,if_false];rw[show(Kr N).Qg []=Kr N from rfl];split
 · rfl
 · rw[b]
   simp
theorem pV{N:Nd}(b:N.ok)(h:∀f∈Kc N,f.whole=true):Pw (Kr N):=by rw[←lh h];exact yI b
theorem qg{N:Nd}(b:N.ok)(h:∀f∈Kc N,f.whole=true):Mk (Kr N):=by rw[←lh h];exact yZ b
end dev
section
section
variable {P:Program}{ops:Array Oper}{Q:Exit→Act→eX→Prop}{rest:List Oper}{o:Oper}{a:Act}{da dv:kk→Bool}{base:Nat}{A B:eX→Prop}{w0 w:eX}{L:List Bk}{S:List Sl}
theorem dD(l:Ms da dv base A B w0 w L S)(t:kk){len:Nat}{aT:Array (Nat×Operand)}(m:o.guard=none)(n:o.op=.buildSlice t len aT){e:kk}{z:fj}{C:Nat}(b:List fj)(q:P.underlying t=some (.slice e))(c:(P.info? e).map (fun i=>(i.zero,i.size))=some (some z,C))(G:len*C≤10000)(H:0<len*C)(g:List (Nat×fj))(I:aT.toList.map (fun p=>(p.1,a.eval p.2))=g)(J:Instr.fill (fun i=>some (i*C,C)) ((Array.range (len*C)).map (z.cells[· %z.cells.size]!)) g=some b.toArray)(r:da e=false)(h:∀j,Ms da dv base A B w0 j ((w.heap.size,b,e)::L) S→wpList P ops Q rest (a.put o.dst (.slice (some ⟨w.heap.size,0,none⟩) len len)) j):wpList P ops Q (o::rest) a w:=by
 cases f:P.info? e with
 |none=>rw[f]at c;cases c
 |some i=>
  rw[f]at c;have k:=Option.some.inj c;have u:i.zero=some z:=congrArg Prod.fst k;have M:i.size=C:=congrArg Prod.snd k;refine wpList_plain m fun K D=> ?_;have E:=D _ _ (h _ (l.alloc b e r));refine wp_buildSlice t e len aT n b.toArray i z q f u (by grind) (by grind) ?_ E;simp_all
end
section
variable {da dv d:kk→Bool}{base:Nat}{A B:eX→Prop}{w0 w:eX}{L:List Bk}{S:List Sl}
theorem mx{C:Nat}:∀{b:List (List fj)},(∀r∈b,r.length=C)→b.flatten.length=b.length*C
 |[],_=>by simp
 |r::l,h=>by
  rw[List.flatten_cons,List.length_append,h r (kr ..),mx fun x c=>h x (List.mem_cons_of_mem _ c),List.length_cons,Nat.add_mul,Nat.one_mul,Nat.add_comm]
theorem Ms.Ou(h:Ms da dv base A B w0 w L S)(i:Nat){k C n:Nat}{e:kk}{rows:List (List fj)}(m:L[i]? =some (k,rows.flatten,e))(f:rows.length=n)(g:∀r∈rows,r.length=C)(p:n≤tm)(q:d e=false):RdT d w w.heap.size (some ⟨k,0,none⟩) C n rows:=by
 have j:=mx g;rw[f]at j;have l:=h.blk m;refine⟨OwnRows.rds (base:=0) (e:=e) (c:=n) ⟨⟨j,.inr ⟨k,n,_,rfl,qc _,l,hG _,p,by omega,?_⟩⟩,f,g⟩,fun b o t _=>by cases t;exact⟨_,_,_,l,q⟩⟩;grind
end
end
namespace dev
open JT (Nd JS Ko Flt Fr)
abbrev Mn(g m:Nat)(N:Nd)(b w:eX)(L:List Bk)(S:List Sl):Prop:=Ms Ko Ko b.heap.size (fun w=>JS w b.heap.size g m N) (fun _=>True) b w L S
section
variable {w0 w w':eX}{g m m':Nat}{N N':Nd}{L:List Bk}{S:List Sl}
theorem Mn.start(h:JS w w0.heap.size g m N)(b:Below w0.heap.size w0 w):Mn g m N w0 w [] []:=by
 have c:Ms Ko Ko w0.heap.size (fun _=>True) (fun _=>True) w0 w0 [] []:=Ms.start (fun _ h=>h) (hG _) (fun _ _ _ _=>trivial) (fun _ _ _ _=>trivial) trivial trivial;exact(c.below b).dev (A':=fun w=>JS w w0.heap.size g m N) (Kj.refl _ _) h (fun _ _ e a=>JS.chg (fun _ h=>h) a e)
theorem Mn.step(b:Mn g m N w0 w L S)(c:JS w' w0.heap.size g m' N')(e:Fr w0.heap.size g w w'):Mn g m' N' w0 w' L S:=
 b.dev (A':=fun w=>JS w w0.heap.size g m' N') (Go.Proofs.YtlkpfnjdbgeifaaGreat.dev.Fr.dvc e) c (fun _ _ f a=>JS.chg (fun _ h=>h) a f)
theorem CY(h:JS w w0.heap.size g m N)(f:Flt)(b:f.wf)(c:f.k=3∨f.k=4)(l:m≤100000):iP hO 45 #[.pointer (some ⟨g,0,none⟩),.agg f.v.toArray] w fun e w'=>e=.returned (.bool (N.KB f))∧JS w' w0.heap.size g (m+1) (N.KF f)∧Fr w0.heap.size g w w':=by
 obtain⟨Y,n,h⟩:=h;refine(JT.F9 h f b c (by omega)).mono ?_;rintro e w' ⟨rfl,⟨i,o,j⟩,k⟩;exact⟨rfl,⟨i,by omega,j⟩,k⟩
end
open JT (Nd JS Ko)
open tal (Ty Kb)
open tab (Tb JZ LS)
def ftV(g b c:Nat)(pg:Option Addr)(e:Nat):List fj:=[.pointer (some ⟨g,0,none⟩),.pointer (some ⟨b,0,none⟩),.pointer (some ⟨c,0,none⟩),.pointer pg,.pointer (some ⟨e,0,none⟩),.int .i64 0,.bool false]
theorem Hr(g b c e:Nat): hO.built 88 [(0,.pointer (some ⟨g,0,none⟩)),(1,.pointer (some ⟨b,0,none⟩)),(2,.pointer (some ⟨c,0,none⟩)),(4,.pointer (some ⟨e,0,none⟩))]=some (ftV g b c none e).toArray:=by kernel_rfl
structure MX where
 (tg tlb dg tg2 dg2 fg fg2:Nat)
theorem aw{L:Nat→Bool}{i j:Nat}(h:(j==i)=false):JW L i j=L j:=by unfold JW;simp_all
theorem fc(L:Nat→Bool)(i:Nat):JW L i i=true:=by unfold JW;simp
abbrev MtS(nb g m:Nat)(N:Nd)(b c e n:Nat)(T:Tb)(f:eX)(sv:Nat)(h:List fj)(x:MX)(i j k:Bool)(w:eX):Prop:=
 Ms Kx Kx nb (fun w=>JS w nb g m N∧JZ w b c e n T∧(i=true→Kb w x.tg x.tlb (KH N))) (fun _=>True) f w ((if k=true then [(x.fg,ftV g x.tg2 b none x.dg2, 88)]else [])++((if j=true then [(x.dg,[.slice none 0 0], 149)]else [])++[(sv,h, 118)])) []
structure MtJ (nb g m:Nat) (N:Nd) (lg mb cb n:Nat) (T:Tb) (w0:eX) (sv:Nat) (svc:List fj) (x:MX) (L:Nat→Bool) (w:eX):Prop where
 hs:MtS nb g m N lg mb cb n T w0 sv svc x (L 2) (L 5) (L 7) w
 t:L 2=true→w0.heap.size≤x.tg∧w0.heap.size≤x.tlb
 v:L 6=true→x.tg2=x.tg∧x.dg2=x.dg
 o:L 7=true→L 6=true
 o6:L 6=true→L 5=true∧L 2=true
 q:L 8=true→x.fg2=x.fg∧L 7=true
 s7:L 7=true→w0.heap.size≤x.fg
 s5:L 5=true→w0.heap.size≤x.dg
section
variable {nb g m lg mb cb n sv:Nat}{N:Nd}{T:Tb}{w0 w w':eX}{svc:List fj}{x:MX}{L:Nat→Bool}{i:Nat}
theorem MtJ.JW(h:MtJ nb g m N lg mb cb n T w0 sv svc x L w)(c:JW L i 2=L 2)(e:JW L i 5=L 5)(f:JW L i 6=L 6)(b:JW L i 7=L 7)(j:JW L i 8=L 8):MtJ nb g m N lg mb cb n T w0 sv svc x (JW L i) w:=
 ⟨by rw[c,e,b];exact h.hs,by rw[c];exact h.t,by rw[f];exact h.v,by rw[b,f];exact h.o,by rw[f,e,c];exact h.o6,by rw[j,b];exact h.q,by rw[b];exact h.s7,by rw[e];exact h.s5⟩
theorem MtJ.six(h:MtJ nb g m N lg mb cb n T w0 sv svc x L w)(j:L 2=false∨L 5=false∨L 6=false):L 6=false∧L 7=false∧L 8=false:=by
 have c:L 6=false:=by
  cases e:L 6 with
  |false=>rfl
  |true=>
   obtain⟨a,b⟩:=h.o6 e;simp_all
 have f:L 7=false:=by
  cases e:L 7 with
  |false=>rfl
  |true=>have:=h.o e;simp_all
 refine⟨c,f,?_⟩;cases e:L 8 with
 |false=>rfl
 |true=>have:=(h.q e).2;simp_all
theorem MtJ.of(h:MtJ nb g m N lg mb cb n T w0 sv svc x L w)(o:L 2=false){b c:Nat}(p:Below w.heap.size w w')(r:Kb w' b c (KH N))(u:w.heap.size≤b)(z:w.heap.size≤c):MtJ nb g m N lg mb cb n T w0 sv svc {x with tg:=b,tlb:=c} (Go.Proofs.YtlkpfnjdbgeifaaGreat.JW L 2) w':=by
 obtain⟨l,e,t⟩:=h.six (.inl o);have A:=h.hs.size;have f:=h.hs.below p;rw[e]at f;refine⟨?_,fun _=>⟨by grind,by grind⟩,fun q=> ?_,fun q=> ?_,fun q=> ?_,fun q=> ?_,fun q=> ?_,fun q=>h.s5 (by rw[aw rfl]at q;exact q)⟩
 · rw[fc,aw (i:=2) (j:=5) rfl,aw (i:=2) (j:=7) rfl,e]
   exact f.dev (A':=fun w=>JS w nb g m N∧JZ w lg mb cb n T∧(true=true→Kb w b c (KH N))) (Kj.refl _ _) ⟨f.a.1,f.a.2.1,fun _=>r⟩ (fun _ _ k a=>⟨JS.chg (fun _=>bD) a.1 k,JZ.chg rfl a.2.1 k,fun q=>Kb.chg rfl rfl (a.2.2 q) k⟩)
 · rw[aw rfl,l]at q;cases q
 · rw[aw rfl,e]at q;cases q
 · rw[aw rfl,l]at q;cases q
 · rw[aw rfl,t]at q;cases q
 · rw[aw rfl,e]at q;cases q
theorem MtJ.JX(h:MtJ nb g m N lg mb cb n T w0 sv svc x L w)(c:L 5=false)(k:Below w.heap.size w w')(l:w'.heap[w.heap.size]? =some (.cells ([.slice none 0 0]:List fj).toArray 149 (0,0))):MtJ nb g m N lg mb cb n T w0 sv svc {x with dg:=w.heap.size} (Go.Proofs.YtlkpfnjdbgeifaaGreat.JW L 5) w':=by
 obtain⟨e,b,o⟩:=h.six (.inr (.inl c));have p:=h.hs.size;have f:=h.hs;rw[b,c]at f;refine⟨?_,fun q=>h.t (by rw[aw rfl]at q;exact q),fun q=> ?_,fun q=> ?_,fun q=> ?_,fun q=> ?_,fun q=> ?_,fun _=>p⟩
 · rw[fc,aw (i:=5) (j:=2) rfl,aw (i:=5) (j:=7) rfl,b]
   exact Ms.QK f k l rfl
 · rw[aw rfl,e]at q;cases q
 · rw[aw rfl,b]at q;cases q
 · rw[aw rfl,e]at q;cases q
 · rw[aw rfl,o]at q;cases q
 · rw[aw rfl,b]at q;cases q
theorem MtJ.bld(h:MtJ nb g m N lg mb cb n T w0 sv svc x L w)(c:L 2=true)(e:L 5=true)(k:L 6=false):MtJ nb g m N lg mb cb n T w0 sv svc {x with tg2:=x.tg,dg2:=x.dg} (Go.Proofs.YtlkpfnjdbgeifaaGreat.JW L 6) w:=by
 obtain⟨-,b,l⟩:=h.six (.inr (.inr k));have f:=h.hs;rw[b]at f;refine⟨?_,fun _=>h.t c,fun _=>⟨rfl,rfl⟩,fun q=> ?_,fun _=>⟨by rw[aw rfl];exact e,by rw[aw rfl];exact c⟩,fun q=> ?_,fun q=> ?_,fun _=>h.s5 e⟩
 · rw[aw (i:=6) (j:=2) rfl,aw (i:=6) (j:=5) rfl,aw (i:=6) (j:=7) rfl,b]
   exact f
 · rfl
 · rw[aw rfl,l]at q;cases q
 · rw[aw rfl,b]at q;cases q
theorem MtJ.boxed(h:MtJ nb g m N lg mb cb n T w0 sv svc x L w)(b:L 6=true)(f:L 7=false){k:Nat}(l:w0.heap.size≤k)(c:Ms Kx Kx nb (fun w=>JS w nb g m N∧JZ w lg mb cb n T∧(L 2=true→Kb w x.tg x.tlb (KH N))) (fun _=>True) w0 w' ((k,ftV g x.tg2 lg none x.dg2, 88)::((if L 7=true then [(x.fg,ftV g x.tg2 lg none x.dg2, 88)]else [])++((if L 5=true then [(x.dg,[.slice none 0 0], 149)]else [])++[(sv,svc, 118)]))) []):MtJ nb g m N lg mb cb n T w0 sv svc {x with fg:=k} (Go.Proofs.YtlkpfnjdbgeifaaGreat.JW L 7) w':=by
 have o:L 8=false:=by
  cases e:L 8 with
  |false=>rfl
  |true=>have:=(h.q e).2;simp_all
 rw[f]at c;refine⟨?_,fun q=>h.t (by rw[aw rfl]at q;exact q),fun q=>h.v b,fun _=>by rw[aw rfl];exact b,fun _=>⟨by rw[aw rfl];exact(h.o6 b).1,by rw[aw rfl];exact(h.o6 b).2⟩,fun q=> ?_,fun _=>l,fun q=>h.s5 (by rw[aw rfl]at q;exact q)⟩
 · rw[fc,aw (i:=7) (j:=2) rfl,aw (i:=7) (j:=5) rfl]
   exact c
 · rw[aw rfl,o]at q;cases q
theorem MtJ.put(h:MtJ nb g m N lg mb cb n T w0 sv svc x L w)(b:L 7=true):MtJ nb g m N lg mb cb n T w0 sv svc {x with fg2:=x.fg} (Go.Proofs.YtlkpfnjdbgeifaaGreat.JW L 8) w:=by
 refine⟨?_,fun q=>h.t (by rw[aw rfl]at q;exact q),fun q=>h.v (by rw[aw rfl]at q;exact q),fun _=>by rw[aw rfl];exact h.o b,fun _=>⟨by rw[aw rfl];exact(h.o6 (h.o b)).1,by rw[aw rfl];exact(h.o6 (h.o b)).2⟩,fun _=>⟨rfl,by rw[aw rfl];exact b⟩,fun _=>h.s7 b,fun q=>h.s5 (by rw[aw rfl]at q;exact q)⟩;rw[aw (i:=8) (j:=2) rfl,aw (i:=8) (j:=5) rfl,aw (i:=8) (j:=7) rfl];exact h.hs
end
structure Tr3 (P1 P2 P3:eX→Prop) (i k:Nat) (L:Nat→Bool) (w:eX):Prop where
 a:L i=false→P1 w
 b:L i=true→L k=false→P2 w
 c:L k=true→P3 w
 d:L k=true→L i=true
theorem Tr3.JW{P1 P2 b:eX→Prop}{i k j:Nat}{L:Nat→Bool}{w:eX}(h:Tr3 P1 P2 b i k L w)(e1:Go.Proofs.YtlkpfnjdbgeifaaGreat.JW L j i=L i)(e2:Go.Proofs.YtlkpfnjdbgeifaaGreat.JW L j k=L k):Tr3 P1 P2 b i k (Go.Proofs.YtlkpfnjdbgeifaaGreat.JW L j) w:=
 ⟨fun q=>h.a (by simp_all),fun c e=>h.b (by simp_all) (by simp_all),fun q=>h.c (by simp_all),fun q=>by rw[e1];exact h.d (by simp_all)⟩
open JT (Nd JS Ko)
open tal (Ty Kb)
open tab (Tb JZ LS)
theorem Ez:(hO.info? 85).map (·.size)=some 1:=by kernel_rfl
theorem Tr3.all{P1 P2 b:eX→Prop}{i k:Nat}{L:Nat→Bool}{w:eX}(h:Tr3 P1 P2 b i k L w){Q:Prop}(e:P1 w→Q)(f:P2 w→Q)(g:b w→Q):Q:=by
 cases q:L k with
 |true=>exact g (h.c q)
 |false=>
  cases c:L i with
  |true=>exact f (h.b c q)
  |false=>exact e (h.a c)
section
variable {w0 w w':eX}{nb g m lg mb cb nt tg tlb pk:Nat}{N:Nd}{L:List Bk}
theorem MtS.full{T:Tb}{sv:Nat}{c:List fj}{x:MX}(h:MtS nb g m N lg mb cb nt T w0 sv c x true true true w):Ms Kx Kx nb (fun w=>JS w nb g m N∧JZ w lg mb cb nt T∧Kb w x.tg x.tlb (KH N)) (fun _=>True) w0 w [(x.dg,[.slice none 0 0], 149),(x.fg,ftV g x.tg2 lg none x.dg2, 88),(sv,c, 118)] []:=by
 have b:Ms Kx Kx nb (fun w=>JS w nb g m N∧JZ w lg mb cb nt T∧(true=true→Kb w x.tg x.tlb (KH N))) (fun _=>True) w0 w [(x.dg,[.slice none 0 0], 149),(x.fg,ftV g x.tg2 lg none x.dg2, 88),(sv,c, 118)] []:=h.perm (pn _ _ _) (.refl _);exact b.dev (A':=fun w=>JS w nb g m N∧JZ w lg mb cb nt T∧Kb w x.tg x.tlb (KH N)) (Kj.refl _ _) ⟨b.a.1,b.a.2.1,b.a.2.2 rfl⟩ (fun _ _ e a=>⟨JS.chg (fun _=>bD) a.1 e,JZ.chg rfl a.2.1 e,Kb.chg rfl rfl a.2.2 e⟩)
theorem yY(f:Ms Kx Kx nb (fun w=>JS w nb g m N∧JZ w lg mb cb nt (Lm (Kc N) (Lj N) (Lj N))∧Kb w tg tlb (KH N)) (fun _=>True) w0 w L [])(h:w.heap.size=pk)(i:Below pk w w')(j:w'.heap[pk]? =some (.cells ([.pointer (some ⟨g,0,none⟩),.pointer (some ⟨tg,0,none⟩),.pointer (some ⟨lg,0,none⟩),.int .i64 (-1),.int .i64 0,.int .i64 0,.int .i64 (max (Lc (Kc N) 1) 1)]:List fj).toArray 192 (0,0)))(c:nb≤tg∧nb≤tlb∧nb≤lg∧nb≤mb∧nb≤cb)(k:g<mb∧g<cb)(q:nt≤600)(l:N.ok)(n:∀d b,(N.blk d b).KP≤N.ops):Mw (⟨nb,g,tg,tlb,lg,mb,cb,pk⟩:Pl) nb m 600 (Kr N) (fun _=>True) w0 w' L []:=by
 have e:=f.below (show Below w.heap.size w w' by rw[h];exact i);have r:=f.size;have t:=f.le;have o:=(cV N l.geo.2.1).1;refine e.dev (A':=fun w=>Kk w (⟨nb,g,tg,tlb,lg,mb,cb,pk⟩:Pl) m 600 (Kr N)) (Kj.refl _ _) ⟨e.a.1,e.a.2.2,⟨nt,by show nt≤600+3*N.ops;omega,e.a.2.1⟩,j,⟨c.1,c.2.1,c.2.2.1,c.2.2.2.1,c.2.2.2.2,by show nb≤pk;omega⟩,k,o,n⟩ (fun _ _ p a=>a.chg p)
end
section
variable {w0:eX}{nb g m:Nat}{N:Nd}
theorem fx(h:JS w0 nb g m N)(ag:N.off=false)(aH:nb≤g∧g<w0.heap.size)(aI:∀d b,(N.blk d b).KP≤N.ops)(Z:∀bd∈Kc N,bd.whole=true)(hT:tot N+2000000000≤100000000000000)(hm:m≤100000)(h0:(Mo N).2=0):iP hO 33 #[.pointer (some ⟨g,0,none⟩)] w0 fun e w'=>∃l D r M f E H z,e=.returned (.tuple #[.pointer (some ⟨l,0,none⟩),.int .i64 0])∧Mv (⟨nb,g,r,M,f,E,H,z⟩:Pl) nb l D m 600 (Ki (Mo N).1) (.slice none 0 0) (fun _=>True) w0 w' [] []∧w0.heap.size≤l∧w0.heap.size≤D:=by
 have ah:=qZ aH;have bf:=qZ aI;have ai:=qZ h.ok;have aK:=qZ (i4 h.ok.geo);have bg:Hid (O8 (N.D:Int) (N.B:Int) (N.P:Int)=(Lj N:Int)):=qZ (Int.toNat_of_nonneg (xK _ _ _)).symm;have aL:=qZ (ix (N:=N) (Kc N) 1 (i6 h.ok) (by decide) (by decide));have aM:=qZ (qg h.ok Z);have aN:=qZ (pV h.ok Z);have aa:=mj Z ag
 have aj:(Kr N).clear.2=0:=by
  by_cases q:(Kr N).clear.2=0
  · exact q
  · rw[aa,if_pos q]at h0;exact absurd h0 q
 rw[if_neg (by simp[aj])]at aa;have aQ:(Kr N).clear.1.room.2=0:=by rw[aa]at h0;exact h0
 have aR:=qZ aa;have bh:=qZ aj;have aS:=qZ aQ;have HM:=qZ hm;have ak:=qZ hT;have aT:=qZ (fun ab (hW:JS ab nb g m N) (hg:nb≤g∧g<ab.heap.size)=>sP hW ag hg (Lj N) (i4 h.ok.geo) Z);have hs:Ms Kx Kx nb (fun w=>JS w nb g m N) (fun _=>True) w0 w0 [] []:=Ms.start (fun _ h=>h) (by omega) (fun _ _ V a=>JS.chg (fun _=>bD) a V) (fun _ _ _ _=>trivial) h trivial;clear h ag aH aI Z hT hm h0 aa aj aQ;go_enter func33, ntmps33;go_wp2_with fail;refine(eI hs.a).mono ?_;rintro e wa ⟨rfl,aU⟩;replace hs:=hs.below aU;clear aU;go_wp2_with fail;refine(gP _ _ _ _).mono ?_;rintro e wb ⟨rfl,aV⟩;replace hs:=hs.below aV;clear aV;rw[bg.out];go_wp2_with fail;have bj:=hs.size;have bk:=ah.out;refine(aT.out _ hs.a (by omega)).mono ?_;rintro e w1 ⟨f,E,H,nt,rfl,aW,aX,bl,bn,bo,al⟩;have aY:=qZ (show w0.heap.size≤f∧w0.heap.size≤E∧w0.heap.size≤H by omega);have bp:=qZ aW;replace hs:Ms Kx Kx nb (fun w=>JS w nb g m N∧JZ w f E H nt (Lm (Kc N) (Lj N) (Lj N))∧(false=true→Kb w 0 0 (KH N))) (fun _=>True) w0 w1 [] []:=(hs.below al).dev (Kj.refl _ _) ⟨(hs.below al).a,aX,fun q=>absurd q (by simp)⟩ (fun _ _ V a=>⟨JS.chg (fun _=>bD) a.1 V,JZ.chg rfl a.2.1 V,fun q=>absurd q (by simp)⟩);clear aW aX bl bn bo al bj bk aT;obtain⟨I,ae⟩:∃I,I=Lc (Kc N) 1:=⟨_,rfl⟩;obtain⟨pgs,a1⟩:∃pgs:Int,pgs=((Kc N).length:Int):=⟨_,rfl⟩;rw[←ae,←a1];have bq:=qZ ae;have a2:=qZ (show-9223372036854775808≤I∧I≤9223372036854775807 by have:=aL.out;rw[←ae]at this;omega);clear ae a1 aL;go_upto_region 4 with(first|(obtain⟨sv,a3⟩:∃sv,sv=w1.heap.size:=⟨_,rfl⟩;refine az hs 118 rfl rfl _ (svV none 0 0) kJ rfl rfl ?_;clear hs;intro w hs;simp only[←a3]at hs⊢;clear a3)|(refine aJ hs 118 rfl rfl rfl rfl ei rfl rfl (by intro u hu;simp[svV]at hu;rcases hu with rfl|rfl|rfl|rfl|rfl|rfl<;>rfl) ?_;clear hs;intro w hs))
 refine dz (X:=MX) (fun ux=> [(some 26,g),(some 27,g),(some 28,ux.tg),(some 29,sv),(some 30,f),(some 31,ux.dg),(some 32,.agg (ftV g ux.tg2 f none ux.dg2).toArray),(some 33,ux.fg),(some 6,ux.fg2)])
  (fun ux L w'=>MtJ nb g m N f E H nt (Lm (Kc N) (Lj N) (Lj N)) w0 sv (svV (some ⟨f,0,none⟩) I pgs) ux L w') ⟨⟨0,0,0,0,0,0,0⟩,fun L hL=>⟨by rw[hL 2,hL 5,hL 7];exact hs.drew,fun q=>absurd q (by simp[hL 2]),fun q=>absurd q (by simp[hL 6]),fun q=>absurd q (by simp[hL 7]),fun q=>absurd q (by simp[hL 6]),fun q=>absurd q (by simp[hL 8]),fun q=>absurd q (by simp[hL 7]),fun q=>absurd q (by simp[hL 5])⟩⟩ ?_ ?_
 · refine⟨rr,rr,?_,rr,?_,?_,?_,?_,?_,trivial⟩
   all_goals
    intro ux L w' hL hpre hJ a ha he;simp[jw]at hpre
   · refine dM ?_
     intro K HK;refine(GQ hJ.out.hs.a.1).mono ?_;rintro e W ⟨r,M,rfl,ht,q1,q2,Y⟩;exact HK.out _ _ ⟨{ux with tg:=r,tlb:=M},_,rfl,rfl,hJ.out.of hL Y ht q1 q2⟩
   · have hm:=hJ.out.hs
     have U:=hm.LM (k:=sv) (j:=0) (eD _ (eD _ (ej _))) (v:=.pointer (some ⟨f,0,none⟩)) rfl;exact cH
   · refine dM ?_
     intro K HK;refine(mi w').mono ?_;rintro e W ⟨rfl,V,Y⟩;exact HK.out _ _ ⟨{ux with dg:=w'.heap.size},_,rfl,rfl,hJ.out.JX hL Y V⟩
   · refine Wn ?_
     have br:=aZ 0;have bs:=aZ 2;have bt:=aZ 4;have bu:=aZ 5;exact ba 88 _ rfl _ (show [(0,a.eval (.tmp 26)),(1,a.eval (.tmp 28)),(2,a.eval (.tmp 30)),(4,a.eval (.tmp 31))]=_ by rw[br,bs,bt,bu]) _ (Hr g ux.tg f ux.dg) ⟨{ux with tg2:=ux.tg,dg2:=ux.dg},_,rfl,rfl,hJ.out.bld (by simp[hpre]) (by simp[hpre]) hL⟩
   · refine Wn ?_
     have bz:=aZ 6;have h6:L 6=true:=by simp[hpre]
     exact Gw hJ.out.hs 88 rfl _ (ftV g ux.tg2 f none ux.dg2) bz rfl rfl fun W hw=>⟨{ux with fg:=w'.heap.size},_,rfl,rfl,hJ.out.boxed h6 hL hJ.out.hs.size hw⟩
   · refine Wn ?_
     have bA:=aZ 7;exact cZ (.tmp 33) (.inr rfl) _ bA ⟨{ux with fg2:=ux.fg},_,rfl,rfl,hJ.out.put (by simp[hpre])⟩
 · intro ux L w' hL hJ
   have h2:=hL 2 (by decide);have h5:=hL 5 (by decide);have h6:=hL 6 (by decide);have h7:=hL 7 (by decide);have h8:=hL 8 (by decide);have hs:=hJ.hs;rw[h2,h5,h7]at hs;obtain⟨a4,a5⟩:=hJ.t h2;obtain⟨a6,a7⟩:=hJ.v h6;obtain⟨hq,-⟩:=hJ.q h8;have an:=hJ.s7 h7;have ao:=hJ.s5 h5;clear hJ hL h2 h5 h6 h7 h8;obtain⟨r,M,D,bw,bx,l,bB⟩:=ux;simp only at a6 a7 hq a4 a5 an ao;obtain rfl:r=bw:=a6.symm;obtain rfl:D=bx:=a7.symm;obtain rfl:l=bB:=hq.symm;obtain⟨w5,ar⟩:∃w5,w5=w':=⟨_,rfl⟩;rw[←ar]at hs;simp only[←ar];clear ar w';have hs:=MtS.full hs;simp only[jd,jm];go_simp;have bC:=qZ (show nb≤r∧nb≤M∧nb≤f∧nb≤E∧nb≤H by have:=aY.out;have:=ah.out;omega);have bE:=qZ (show g<E∧g<H by have:=aY.out;have:=ah.out;omega);have bF:=qZ (show w0.heap.size≤l∧w0.heap.size≤D from⟨an,ao⟩);clear a4 a5 an ao;go_upto_region 5 with fail
   obtain⟨z,a8⟩:∃z,z=w5.heap.size:=⟨_,rfl⟩
   refine dz (X:=Unit) (fun _=> [(some 34,l),(some 35,g),(some 36,l),(some 37,l),(some 38,.pointer (some ⟨l,1,none⟩)),(some 39,r),(some 40,l),(some 41,l),(some 42,.pointer (some ⟨l,2,none⟩)),(some 43,f),(some 44,.pointer (some ⟨sv,4,none⟩)),(some 45,I),(some 46,z),(some 47,l),(some 48,.pointer (some ⟨l,3,none⟩)),(none,r2)])
    (fun _ L w'=>Tr3 (fun O=>Ms Kx Kx nb (fun w=>JS w nb g m N∧JZ w f E H nt (Lm (Kc N) (Lj N) (Lj N))∧Kb w r M (KH N)) (fun _=>True) w0 O [(D,[.slice none 0 0], 149),(l,ftV g r f none D, 88),(sv,(svV (some ⟨f,0,none⟩) I pgs), 118)] []∧O.heap.size=z) (fun O=>Mw (⟨nb,g,r,M,f,E,H,z⟩:Pl) nb m 600 (Kr N) (fun _=>True) w0 O [(D,[.slice none 0 0], 149),(l,ftV g r f none D, 88),(sv,(svV (some ⟨f,0,none⟩) I pgs), 118)] []) (fun O=>Mw (⟨nb,g,r,M,f,E,H,z⟩:Pl) nb m 600 (Kr N) (fun _=>True) w0 O [(D,[.slice none 0 0], 149),(l,ftV g r f (some ⟨z,0,none⟩) D, 88),(sv,(svV (some ⟨f,0,none⟩) I pgs), 118)] []) 12 15 L w') ⟨(),fun L hL=>⟨fun _=>⟨hs.drew,a8.symm⟩,fun q=>absurd q (by simp[hL 12]),fun q=>absurd q (by simp[hL 15]),fun q=>absurd q (by simp[hL 15])⟩⟩ ?_ ?_
   · refine⟨rr,rr,rr,rr,rr,?_,rr,rr,rr,?_,rr,?_,?_,rr,rr,?_,trivial⟩
     all_goals
      intro ux L w' hL hpre hJ a ha he;simp[jw]at hpre
     · have U:w'.cell? ⟨l,1,none⟩=some (.pointer (some ⟨r,0,none⟩)):=hJ.out.all (fun h=>h.1.LM (ed _ (ej _)) rfl) (fun h=>h.LM (ed _ (ej _)) rfl) (fun h=>h.LM (ed _ (ej _)) rfl)
       exact cH
     · have U:w'.cell? ⟨l,2,none⟩=some (.pointer (some ⟨f,0,none⟩)):=hJ.out.all (fun h=>h.1.LM (ed _ (ej _)) rfl) (fun h=>h.LM (ed _ (ej _)) rfl) (fun h=>h.LM (ed _ (ej _)) rfl)
       exact cH
     · have U:w'.cell? ⟨sv,4,none⟩=some (.int .i64 I):=hJ.out.all (fun h=>h.1.LM (ed _ (ed _ (ej _))) rfl) (fun h=>h.LM (ed _ (ed _ (ej _))) rfl) (fun h=>h.LM (ed _ (ed _ (ej _))) rfl)
       exact cH
     · refine dM ?_
       intro K HK;refine(nP w' g r f I a2.out.1 a2.out.2).mono ?_;rintro e W ⟨rfl,a9,Y⟩;have hm:=hJ.out.a hL;rw[show w'.heap.size=z from hm.2]at a9 Y⊢;exact HK.out _ _ ⟨ux,_,rfl,rfl,⟨fun q=>absurd q (by simp[JW]),fun _ _=>yY hm.1 hm.2 Y (by rw[←bq.out];exact a9) bC.out bE.out bp.out ai.out bf.out,fun q=>absurd q (by rw[aw rfl];intro q;exact absurd (hJ.out.d q) (by simp[hL])),fun q=>fc _ _⟩⟩
     · refine Wn ?_
       have bG:=aZ 12;have bH:=aZ 14;have au:L 12=true:=by simp[hpre]
       refine eL (L':=[]) (hJ.out.b au hL) 85 rfl bH bG Ez (by show 3<7;decide) rfl fun W hw=>⟨(),r2,rfl,rfl,⟨fun q=>absurd q (by rw[aw rfl,au];simp),fun _ q=>absurd q (by rw[fc];simp),fun _=>hw,fun _=>by rw[aw rfl];exact au⟩⟩
   · intro ux L w' hL hJ
     have hs:=hJ.c (hL 15 (by decide));clear hJ hL a8;obtain⟨w6,ax⟩:∃w6,w6=w':=⟨_,rfl⟩;rw[←ax]at hs;simp only[←ax];clear ax w';simp only[jd,jm];go_simp;go_wp2_with (refine ma ?_;try (clear hs;intro w hs));go_loopw [52] (fun kv wr=>kv=.int .i64 0∧Mw (⟨nb,g,r,M,f,E,H,z⟩:Pl) nb m 600 (Kr N) (fun _=>True) w0 wr [(D,[.slice none 0 0], 149),(l,ftV g r f (some ⟨z,0,none⟩) D, 88),(sv,(svV (some ⟨f,0,none⟩) I pgs), 118)] []) (fun _ _=>0)
     case atStart=>exact⟨rfl,hs⟩
     case round=>
      clear hs;obtain⟨rfl,hs⟩:=hrel;have bb:=qZ (show tot (Kr N).N+6100000*210≤100000000000000 by have:=ak.out;show dev.tot N+6100000*210≤100000000000000;omega);go_upto_region 11 with fail
      refine bm 18 (by kernel_rfl) (by kernel_rfl) ?_;intro wd T;replace hs:=hs.drew;rw[←T]at hs;clear T;simp only[hX,jI,hZ,kb];repeat (first|(refine aq 1 hs rfl 83 (by first|rfl|(simp[ek];done)|(go_simp;done)) rfl rfl py rfl rfl ?_)|(refine aq 1 hs rfl 84 (by first|rfl|(simp[ek];done)|(go_simp;done)) rfl rfl pz rfl rfl ?_)|(refine aq 1 hs rfl 85 (by first|rfl|(simp[ek];done)|(go_simp;done)) rfl rfl qa rfl rfl ?_)|(refine aq 2 hs rfl 116 (by first|rfl|(simp[ek];done)|(go_simp;done)) rfl rfl tl rfl rfl ?_)|(refine aq 2 hs rfl 3 (by first|rfl|(simp[ek];done)|(go_simp;done)) rfl rfl ps rfl rfl ?_)|(refine wpStill_step (fun K hK=> ?_);go_simp;refine hK _ ?_;clear hK K))
      refine l4 ?_;have ad:=qZ (show(Kr N).Mm []=(Kr N,0)from rfl);have bc:=qZ (fun ab:eX=>(⟨⟨rfl,by simp[ens],fun q=>absurd q (by omega)⟩,fun b o q=>by cases q⟩:RdT Kx ab ab.heap.size none 19 0 (ens [])));go_wp2_with fail;refine(ny hs.a aM.out aN.out (show(Kr N).T.logical≤200 by rw[show(Kr N).T.logical=Lj N from im _ _ _];exact aK.out) [] (by simp) (A:=none) (n:=0) (cc:=0) (bc.out _) (by omega) (hG _) (by simp) bb.out (by omega) HM.out).mono ?_;rw[ad.out];rintro e w7 ⟨rfl,R,S⟩;replace hs:=Mw.dv hs (hG _) R S;clear R S ad bb;go_wp2_with (refine ma ?_;try (clear hs;intro w hs));go_loopw [88] (fun kv wr=>kv=.int .i64 0∧Mw (⟨nb,g,r,M,f,E,H,z⟩:Pl) nb m 600 (Kr N) (fun _=>True) w0 wr [(D,[.slice none 0 0], 149),(l,ftV g r f (some ⟨z,0,none⟩) D, 88),(sv,(svV (some ⟨f,0,none⟩) I pgs), 118)] []) (fun _ _=>0)
      case atStart=>exact⟨rfl,hs⟩
      case round=>
       clear hs;obtain⟨rfl,hs⟩:=hrel;go_upto_region 19 with fail
       refine dz (X:=Unit) (fun _=> [(some 99,g),(some 100,l),(some 101,l),(some 102,.pointer (some ⟨l,1,none⟩)),(some 103,r),(some 104,l),(some 105,l),(some 106,.pointer (some ⟨l,2,none⟩)),(some 107,f),(some 108,l),(some 109,l),(some 110,.pointer (some ⟨l,3,none⟩)),(some 111,z),(some 112,.int .i64 (Kr N).p.op),(some 113,.int .i64 (Kr N).clear.2),(some 12,.int .i64 (Kr N).clear.2)])
        (fun _ L w'=>Tr3 (fun O=>Mw (⟨nb,g,r,M,f,E,H,z⟩:Pl) nb m 600 (Kr N) (fun _=>True) w0 O [(D,[.slice none 0 0], 149),(l,ftV g r f (some ⟨z,0,none⟩) D, 88),(sv,(svV (some ⟨f,0,none⟩) I pgs), 118)] []) (fun O=>Mw (⟨nb,g,r,M,f,E,H,z⟩:Pl) nb m 600 (Kr N) (fun _=>True) w0 O [(D,[.slice none 0 0], 149),(l,ftV g r f (some ⟨z,0,none⟩) D, 88),(sv,(svV (some ⟨f,0,none⟩) I pgs), 118)] []) (fun O=>Mw (⟨nb,g,r,M,f,E,H,z⟩:Pl) nb m 600 ((Kr N).clear.1) (fun _=>True) w0 O [(D,[.slice none 0 0], 149),(l,ftV g r f (some ⟨z,0,none⟩) D, 88),(sv,(svV (some ⟨f,0,none⟩) I pgs), 118)] []) 13 14 L w') ⟨(),fun L hL=>⟨fun _=>hs.drew,fun q=>absurd q (by simp[hL 13]),fun q=>absurd q (by simp[hL 14]),fun q=>absurd q (by simp[hL 14])⟩⟩ ?_ ?_
       · refine⟨rr,rr,rr,rr,?_,rr,rr,rr,?_,rr,rr,rr,?_,?_,?_,rr,trivial⟩
         all_goals
          intro ux L w' hL hpre hJ a ha he;simp[jw]at hpre
         · have U:w'.cell? ⟨l,1,none⟩=some (.pointer (some ⟨r,0,none⟩)):=hJ.out.all (fun h=>h.LM (ed _ (ej _)) rfl) (fun h=>h.LM (ed _ (ej _)) rfl) (fun h=>h.LM (ed _ (ej _)) rfl)
           exact cH
         · have U:w'.cell? ⟨l,2,none⟩=some (.pointer (some ⟨f,0,none⟩)):=hJ.out.all (fun h=>h.LM (ed _ (ej _)) rfl) (fun h=>h.LM (ed _ (ej _)) rfl) (fun h=>h.LM (ed _ (ej _)) rfl)
           exact cH
         · have U:w'.cell? ⟨l,3,none⟩=some (.pointer (some ⟨z,0,none⟩)):=hJ.out.all (fun h=>h.LM (ed _ (ej _)) rfl) (fun h=>h.LM (ed _ (ej _)) rfl) (fun h=>h.LM (ed _ (ej _)) rfl)
           exact cH
         · refine dM ?_
           intro K HK;refine(bZ (hJ.out.a hL).a).mono ?_;rintro e W ⟨rfl,rfl⟩;have hm:=hJ.out.a hL;exact HK.out _ _ ⟨ux,_,rfl,rfl,⟨fun q=>absurd q (by rw[fc];simp),fun _ _=>hm,fun q=>absurd (hJ.out.d (by rw[aw rfl]at q;exact q)) (by simp[hL]),fun _=>fc _ _⟩⟩
         · refine dM ?_
           intro K HK;refine(iC (hJ.out.b (by simp[hpre]) hL).a (by have:=ak.out;show dev.tot N+1000≤100000000000000;omega) HM.out).mono ?_;rintro e W ⟨rfl,R,S⟩;have ay:L 13=true:=by simp[hpre]
           exact HK.out _ _ ⟨ux,_,rfl,rfl,⟨fun q=>absurd q (by rw[aw rfl,ay];simp),fun _ q=>absurd q (by rw[fc];simp),fun _=>Mw.dv (hJ.out.b ay hL) (hG _) R S,fun _=>by rw[aw rfl];exact ay⟩⟩
       · intro ux L w' hL hJ
         have hs:=hJ.c (hL 14 (by decide));clear hJ hL;obtain⟨w8,aA⟩:∃w8,w8=w':=⟨_,rfl⟩;rw[←aA]at hs;simp only[←aA];clear aA w';simp only[jd,jm];go_simp;have aB:=fJ (Kr N);have bI:=aB.n.tot
         have aC:Hid (tot (Kr N).clear.1.N+1900000000≤100000000000000):=qZ (by
          have U:=ak.out;have q1:=ai.out.geo;have q2:(KH N).B=N.B:=(cV N ai.out.geo.2.1).1.2.1;have q3:(Kr N).N.D*(Kr N).Y.B≤6*16:=sT q1.2.1 (by show(KH N).B≤16;omega);have q4:dev.tot (Kr N).N=dev.tot N:=rfl;omega)
         have aD:=qZ (show(Kr N).clear.1.T.logical≤200 by rw[aB.t,show(Kr N).T.logical=Lj N from im _ _ _];exact aK.out);have aF:=qZ (fy aM.out);have aG:=qZ (fq aN.out);clear aB bI;obtain⟨af,hD⟩:∃af,af=(Kr N).clear.1:=⟨_,rfl⟩;rw[bh.out];rw[←hD]at hs aC aD aF aG aS aR;clear hD;have ad:=qZ (show af.Mm []=(af,0)from rfl);go_upto_region 22 with fail
         refine bm 18 (by kernel_rfl) (by kernel_rfl) ?_;intro wd T;replace hs:=hs.drew;rw[←T]at hs;clear T;simp only[hX,jI,hZ,kb];repeat (first|(refine aq 1 hs rfl 83 (by first|rfl|(simp[ek];done)|(go_simp;done)) rfl rfl py rfl rfl ?_)|(refine aq 1 hs rfl 84 (by first|rfl|(simp[ek];done)|(go_simp;done)) rfl rfl pz rfl rfl ?_)|(refine aq 1 hs rfl 85 (by first|rfl|(simp[ek];done)|(go_simp;done)) rfl rfl qa rfl rfl ?_)|(refine aq 2 hs rfl 116 (by first|rfl|(simp[ek];done)|(go_simp;done)) rfl rfl tl rfl rfl ?_)|(refine aq 2 hs rfl 3 (by first|rfl|(simp[ek];done)|(go_simp;done)) rfl rfl ps rfl rfl ?_)|(refine wpStill_step (fun K hK=> ?_);go_simp;refine hK _ ?_;clear hK K))
         refine l4 ?_;go_wp2_with fail;refine(ny hs.a aF.out aG.out aD.out [] (by simp) (A:=none) (n:=0) (cc:=0) (bc.out _) (by omega) (hG _) (by simp) (by have:=aC.out;omega) (by omega) HM.out).mono ?_;rw[ad.out];rintro e w8 ⟨rfl,R,S⟩;replace hs:=Mw.dv hs (hG _) R S;clear R S ad;go_upto_region 25 with fail
         refine bm 13 (by kernel_rfl) (by kernel_rfl) ?_;intro wd T;replace hs:=hs.drew;rw[←T]at hs;clear T;simp only[hX,jI,hZ,kb];repeat (first|(refine aq 1 hs rfl 83 (by first|rfl|(simp[ek];done)|(go_simp;done)) rfl rfl py rfl rfl ?_)|(refine aq 1 hs rfl 84 (by first|rfl|(simp[ek];done)|(go_simp;done)) rfl rfl pz rfl rfl ?_)|(refine aq 1 hs rfl 85 (by first|rfl|(simp[ek];done)|(go_simp;done)) rfl rfl qa rfl rfl ?_)|(refine wpStill_step (fun K hK=> ?_);go_simp;refine hK _ ?_;clear hK K))
         refine l4 ?_;go_wp2_with fail;refine(gC hs.a aF.out aG.out aD.out (by have:=aC.out;omega) (by omega) HM.out).mono ?_;rintro e w9 ⟨rfl,R,S⟩;replace hs:=Mw.dv hs (hG _) R S;clear R S;rw[aS.out];go_wp2_with fail;have bJ:=Ms.less (hs.perm (pn _ _ _) (.refl _)) (List.sublist_append_left [_,_] [_]) (.refl _);refine js (tr rfl _ _ _) rfl ⟨l,D,r,M,f,E,H,z,rfl,?_,bF.out⟩;rw[aR.out];exact bJ.empty 90 19 rfl
end
open JT (Nd JS Ko)
section
variable {N:Nd}{R:Nat→List RR}
theorem o5(c:Lg N R)(g:∀d,K8 N d=false):∀f∈Kc N,f.whole=true:=fun f h=>by
 obtain⟨b,e,r,s,x,-,-,-,-,rfl⟩:=(oH c g).1 h;rfl
theorem oF(g:N.ok)(h:∀f∈Kc N,f.whole=true)(m:N.off=false)(l:(Mo N).2=0){k:Nat}(o:dev.tot N+10000000+1000000000*k≤100000000000000)(p:k≤1000000):Fw (Ki (Mo N).1) k 0:=by
 have c:=g.geo;have i:=mj h m
 have r:(Kr N).clear.2=0:=by
  by_cases q:(Kr N).clear.2=0
  · exact q
  · rw[i,if_pos q]at l;exact absurd l q
 rw[if_neg (by omega)]at i;have t:(Kr N).T.logical≤200:=by rw[show(Kr N).T.logical=Lj N from im _ _ _];exact i4 c
 have b:=fJ (Kr N);have j:=iB (Kr N).clear.1;have u:=b.trans j;have w:(KH N).B=N.B:=(cV N c.2.1).1.2.1
 have z:Oq (Kr N).clear.1≤6000000:=by
  refine jW (by rw[b.t];omega) ?_ ?_
  · rw[b.n.geo.1];exact c.2.1
  · rw[b.y.2.1];show(KH N).B≤16;omega
 have A:(Kr N).N.D*(Kr N).Y.B≤6*16:=sT c.2.1 (by show(KH N).B≤16;omega);have C:=b.n.tot;have D:=j.n.tot;have E:dev.tot (Kr N).N=dev.tot N:=rfl;rw[i];exact⟨eU (fy (qg g h)),eR (fq (pV g h)),by show(Kr N).clear.1.room.1.T.logical≤200;rw[j.t,b.t];omega,fun e n=>(by cases n),qc _,⟨Int.le_refl _,by show(0:Int)+(k:Int)≤1000000000000000;omega⟩,by show dev.tot (Kr N).clear.1.room.1.N+1000000000*k+0≤100000000000000;omega⟩
end
end dev
theorem yat{A:Prop}(h:A:=by
 go_wp2_with (first|(refine ac rfl 35 _ rfl _ rfl _ bP ?_)|(refine ma ?_;try (clear hs;intro w hs)));change bodyPost _ _ _ _ _ _;exact bodyPost_ret (hs.Nn 3 rfl rfl _ rfl underlying35 rfl bh (by first|rfl|exact(by assumption:Hid _).out)) rfl ⟨by rw[HR.out];rfl,hs.out⟩):A:=h
theorem ybg{A:Prop}(h:A:=by
 change bodyPost _ _ _ _ _ _;exact bodyPost_ret (hs.Nn 2 rfl rfl _ rfl underlying35 rfl bh (by first|rfl|exact(by assumption:Hid _).out)) rfl ⟨by rw[HR.out];rfl,hs.out⟩):A:=h
theorem ybw{A:Prop}(h:A:=by
 go_wp2_with (first|(refine ac rfl 35 _ rfl _ rfl _ bP ?_)|(refine ma ?_;try (clear hs;intro w hs)));change bodyPost _ _ _ _ _ _;exact bodyPost_ret (hs.Nn 0 rfl rfl _ rfl underlying35 rfl bh (by first|rfl|exact(by assumption:Hid _).out)) rfl ⟨by rw[HR.out];rfl,hs.out⟩):A:=h
theorem yej{A:Prop}(h:A:=by
 rintro e w'' ⟨rfl,hb⟩;exact HK.out _ _ ⟨ux,_,rfl,rfl,hJ.out.below (fun _ z=>z.below hb) rfl rfl⟩):A:=h
namespace dev
open JT (Nd JS)
open tab (Tb JZ At6)
open JX (KI EUp)
def Fv.rdT(F:Fv)(j:Int):List Nat×Int:=match tab.Kh F.D.T.f j with
 |none=>(an,0)
 |some a=>if a.o=2 then(an,0)else if a.o=4 then(an,10)else
  if(Km F.D.N a.b a.r a.s a.m).2≠0∨(Km F.D.N a.b a.r a.s a.m).1.l≠j∨(Km F.D.N a.b a.r a.s a.m).1.s≠a.q then(an,10)else((Km F.D.N a.b a.r a.s a.m).1.d,0)
section
variable {F:Fv}{j:Int}
theorem Bo(h:F.KR≠0):F.read j=(an,F.KR):=by unfold Fv.read;rw[if_pos h]
theorem xo(h:F.KR=0)(b:j<0∨(F.logical:Int)≤j):F.read j=(an,3):=by unfold Fv.read;rw[if_neg (by rw[h];simp),if_pos b]
theorem fS(h:F.KR=0)(b:¬(j<0∨(F.logical:Int)≤j)):F.read j=match OA F.JX j with|some e=>(e.d,0)|none=>F.rdT j:=by
 unfold Fv.read Fv.rdT;rw[if_neg (by rw[h];simp),if_neg b];cases OA F.JX j with
 |some e=>rfl
 |none=>cases tab.Kh F.D.T.f j<;>rfl
theorem EA{e:En}(h:F.KR=0)(b:¬(j<0∨(F.logical:Int)≤j))(c:OA F.JX j=some e):F.read j=(e.d,0):=by rw[fS h b,c]
theorem E9(h:F.KR=0)(b:¬(j<0∨(F.logical:Int)≤j))(c:OA F.JX j=none):F.read j=F.rdT j:=by rw[fS h b,c]
theorem Bs(h:tab.Kh F.D.T.f j=none):F.rdT j=(an,0):=by unfold Fv.rdT;rw[h]
theorem Br{a:At6}(h:tab.Kh F.D.T.f j=some a):F.rdT j=if a.o=2 then(an,0)else if a.o=4 then(an,10)else if(Km F.D.N a.b a.r a.s a.m).2≠0∨(Km F.D.N a.b a.r a.s a.m).1.l≠j∨(Km F.D.N a.b a.r a.s a.m).1.s≠a.q then(an,10)else((Km F.D.N a.b a.r a.s a.m).1.d,0):=by unfold Fv.rdT;rw[h]
end
theorem bP: hO.built 35 []=some (An .u8 an).toArray:=by kernel_rfl
theorem uo(e:En):e.v=[.int .i64 e.l,.int .i64 e.s,.int .i64 e.r]++(An .u8 e.d++[]):=by
 rw[List.append_nil];rfl
section
variable {w w' W:eX}{pl:Pl}{bs fg dg m c k r:Nat}{F:Fv}
theorem Kk.bel{D:Dv}(h:Kk w pl m c D)(b:Below w.heap.size w w'):Kk w' pl m c D:=h.chg (Kj.Mj b)
theorem sC{g:Nat}{o:Obj}(h:Upd g o w w')(b:w.heap[g]? =some o):Below w.heap.size w w':=⟨h.os,h.tape,h.output,Nat.le_of_eq h.size.symm,fun k f=>by
 by_cases e:k=g
 · subst e;rw[h.at_,b]
 · exact h.block k e⟩
theorem yF(h:Kk w pl m c F.D)(b:w.heap[fg]? =some (.cells (F.v pl dg).toArray 88 (0,0)))(f:F.KR=0):iP hO 48 #[fg] w fun e w'=>e=.returned (.int .i64 0)∧Below w.heap.size w w':=by
 have g:=qZ (JT.Ja h.JT);unfold Fv.KR at f;cases e:(F.off ||F.D.N.off)with
 |true=>rw[e]at f;exact absurd f (by decide)
 |false=>
  obtain⟨e1,e2⟩:=Bool.or_eq_false_iff.1 e;rw[e2]at g;have c0:w.cell? ⟨fg,0,none⟩=some (.pointer (some ⟨pl.g,0,none⟩)):=by rw[ae b];rfl
  have c6:w.cell? ⟨fg,6,none⟩=some (.bool false):=by rw[ae b];show some (Value.bool F.off)=_;rw[e1]
  have ff:=ao b 6;have j:=ar b (i:=6) (.bool false);have HB:=qZ (sC j (by rw[b];unfold Fv.v;rw[e1];rfl));have c7:(w.setCell ⟨fg,6,none⟩ (.bool false)).cell? ⟨fg,6,none⟩=some (.bool false):=by rw[ae j.at_];rfl
  have l:=oG;clear h b f e e1 e2 j;go_enter func48, ntmps48;go_wp2_with fail;refine g.out.mono ?_;rintro e n ⟨rfl,rfl⟩;clear g;exact Gu
theorem vq(h:Kk w pl m c F.D)(h1:w.heap[fg]? =some (.cells (F.v pl dg).toArray 88 (0,0)))(h2:KI w bs dg F.JX)(hw:Fw F k r)(h0:F.KR=0)(j:Int)(hj:wfI j):iP hO 22 #[fg,j] w fun e w'=>e=.returned (.tuple #[.agg (An .u8 (F.read j).1).toArray,.int .i64 (F.read j).2])∧Below w.heap.size w w':=by
 have aq:=qZ (show∀e∈F.JX,e.ok from fun e he=>(hw.dk e he).1);have aK:=qZ hw.len;have HJ:=qZ hj;have ar:=qZ hw.pw.tw;have I:=qZ h0;have V:=qZ h2;have au:=qZ h1;have c0:w.cell? ⟨fg,0,none⟩=some (.pointer (some ⟨pl.g,0,none⟩)):=by rw[ae h1];rfl
 have c2:w.cell? ⟨fg,2,none⟩=some (.pointer (some ⟨pl.lg,0,none⟩)):=by rw[ae h1];rfl
 have c4:w.cell? ⟨fg,4,none⟩=some (.pointer (some ⟨dg,0,none⟩)):=by rw[ae h1];rfl
 have Y:=qZ c0;obtain⟨W,hW⟩:∃W,W=w:=⟨_,rfl⟩;have hs:=Mr.start W;have E:=qZ h;rw[←hW]at E V au Y c0 c2 c4⊢;clear hw hj h0 h1 h2 h hW;go_enter func22, ntmps22;go_upto_region 1 with(refine ma ?_;try (clear hs;intro w hs))
 go_wp2_with fail;refine(yF (F:=F) (E.out.bel hs.out) (aa au.out hs.out) I.out).mono ?_;rintro e1 w1 ⟨rfl,aw⟩;replace hs:=hs.below aw;clear aw;by_cases aL:j<0
 · have HR:=qZ (show F.read j=(an,3)from xo I.out (.inl aL))
   exact ybw
 · go_wp2_with fail
   refine(iz (F:=F) (E.out.bel hs.out) (JT.po Y.out hs.out)).mono ?_;rintro e2 w2 ⟨rfl,ay⟩;replace hs:=hs.below ay;clear ay;by_cases aM:(F.logical:Int)≤j
   · have HR:=qZ (show F.read j=(an,3)from xo I.out (.inr aM))
     exact ybw
   · have aA:=qZ (show¬(j<0∨(F.logical:Int)≤j)from fun q=>by rcases q with q|q<;>omega)
     have n:=qZ (fun W (h:KI W bs dg F.JX)=>JX.Fy h j (by have:=aK.out;omega));rw[show JX.OA F.JX j=OA F.JX j from rfl]at n;cases D:OA F.JX j with
     |some e=>
      have HR:=qZ (show F.read j=(e.d,0)from EA I.out aA.out D);rw[D]at n;have Z:e∈F.JX:=List.mem_of_find?_eq_some D;have ab:=qZ (show e.v.length=19 from ax (aq.out e Z).1 _ _ _);have ad:=qZ (show(An .u8 e.d).length=16 by rw[ah];exact(aq.out e Z).1);clear D Z;go_wp2_with (refine ma ?_;try (clear hs;intro w hs));refine(n.out _ (V.out.below hs.out)).mono ?_;rintro e3 w3 ⟨rfl,M⟩;replace hs:=hs.below M;clear M n;go_upto_region 8 with(refine ma ?_;try (clear hs;intro w hs))
      replace hs:=hs;rw[uo e]at hs;go_wp2_with (first|(refine bS 0 3 (c1:=[.int .i64 e.l,.int .i64 e.s,.int .i64 e.r]) (c2:=An .u8 e.d) (c3:=[]) hs rfl rfl 35 rfl rfl rfl jt rfl bh ad.out ?_)|(refine ma ?_;try (clear hs;intro w hs)));change zd _ _ _ _ _ _;exact js (hs.Nn 1 rfl rfl _ rfl jt rfl bh (by first|rfl|exact(by assumption:Hid _).out)) rfl ⟨by rw[HR.out];rfl,hs.out⟩
     |none=>
      have af:=qZ (E9 I.out aA.out D);rw[D]at n;have ab:=qZ (show JX.z0.v.length=19 from rfl);clear D;go_wp2_with (refine ma ?_;try (clear hs;intro w hs));refine(n.out _ (V.out.below hs.out)).mono ?_;rintro e3 w3 ⟨rfl,M⟩;replace hs:=hs.below M;clear M n;obtain⟨R,aB⟩:∃R,R=w3.heap.size:=⟨_,rfl⟩;go_upto_region 9 with(refine ma ?_;try (clear hs;intro w hs))
      simp only[←aB]at hs⊢;clear aB;obtain⟨nt,aN,ag⟩:=(E.out.bel hs.out).tab;have aC:=qZ (tab.Fy ag j HJ.out)
      have aD:=qZ (show∀a,tab.Kh F.D.T.f j=some a→wfI a.b∧wfI a.r∧wfI a.s from fun a ha=>by
       have hm:=tab.xT ha;exact⟨ag.ok.bwf _ hm,(ar.out _ hm).1,(ar.out _ hm).2⟩)
      clear aN ag;go_wp2_with (refine ma ?_;try (clear hs;intro w hs));refine aC.out.mono ?_;rintro e4 w4 ⟨rfl,aF⟩;replace hs:=hs.below aF;clear aF aC;obtain⟨f,ai⟩:∃f,f=w4.heap.size:=⟨_,rfl⟩;cases S:tab.Kh F.D.T.f j with
      |none=>
       have HR:=qZ (show F.read j=(an,0) by rw[af.out,Bs S]);clear ai;go_wp2_with (first|(refine ma ?_;try (clear hs;intro w hs))|(refine ac rfl 35 _ rfl _ rfl _ bP ?_));exact ybg
      |some a'=>
       have aj:=qZ (show F.read j=_ by rw[af.out,Br S]);obtain⟨IE,Iu,aG⟩:=aD.out a' S;have aQ:=qZ IE;have aR:=qZ Iu;have aS:=qZ aG;clear S IE Iu aG af aD;rw[show At6.of (some a')=a' from rfl];go_upto_region 10 with(first|(refine az hs 96 rfl rfl _ At6.zero.v wX rfl rfl ?_;clear hs;intro w hs)|(refine aJ hs 96 rfl rfl rfl rfl xj rfl rfl (tab.nZ _) ?_;clear hs;intro w hs))
       simp only[←ai]at hs⊢;clear ai;have c5:=hs.cell 0 5 rfl (v:=.int .i64 a'.o) rfl;by_cases H:a'.o=2
       · have HR:=qZ (show F.read j=(an,0) by rw[aj.out,if_pos H])
         rw[H]at c5;go_wp2_with (first|(refine ac rfl 35 _ rfl _ rfl _ bP ?_)|(refine ma ?_;try (clear hs;intro w hs)));exact ybg
       have al:=qZ (show F.read j=_ by rw[aj.out,if_neg H]);have aH:(a'.o==2)=false:=by simpa using H
       clear aj;by_cases N:a'.o=4
       · have HR:=qZ (show F.read j=(an,10) by rw[al.out,if_pos N])
         rw[N]at c5 H aH;go_wp2_with (first|(refine ac rfl 35 _ rfl _ rfl _ bP ?_)|(refine ma ?_;try (clear hs;intro w hs)));exact ybg
       have O:=qZ (show F.read j=_ by rw[al.out,if_neg N]);have aT:(a'.o==4)=false:=by simpa using N
       clear al;obtain⟨x,hx⟩:∃x,x=Km F.D.N a'.b a'.r a'.s a'.m:=⟨_,rfl⟩;have ao:x.1.ok:=by rw[hx];exact qV E.out.JT.ok _ _ _ _
       have aI:=qZ (fun W (h:JS W pl.base pl.g m F.D.N)=>dH h a'.b a'.r a'.s a'.m aQ.out aR.out aS.out);rw[←hx]at aI O;have ab:=qZ (show x.1.v.length=19 from ax ao.1 _ _ _);have ad:=qZ (show(An .u8 x.1.d).length=16 by rw[ah];exact ao.1);clear hx ao;go_upto_region 14 with fail
       clear c5 H aH N aT
       refine dz (X:=Nat) (fun ux=> [(some 64,fg),(some 65,fg),(some 66,fg),(some 67,pl.g),(some 68,f),(some 69,.agg #[a'.b,a'.r,a'.s]),(some 70,.pointer (some ⟨f,3,none⟩)),(some 71,a'.m),(some 72,.tuple #[.agg x.1.v.toArray,x.2]),(some 63,.tuple #[.agg x.1.v.toArray,x.2]),(some 73,.agg x.1.v.toArray),(some 74,x.2),(some 11,ux),(none,r2),(some 12,x.2)])
        (fun ux L w'=>L8 (fun w L=>Mr W w L []) [(f,a'.v, 96),(R,JX.z0.v, 90),(W.heap.size,An .u8 an, 35)] 90 x.1.v (enV 0 0 0 an) 12 13 ux L w') ⟨0,fun L hL=>L8.start hs.drew (hL 12) (hL 13)⟩ ?_ ?_
       · refine⟨rr,rr,rr,?_,rr,?_,rr,?_,?_,rr,rr,rr,?_,?_,rr,trivial⟩
         all_goals
          intro ux L w' hL hpre hJ a ha he;simp[jw]at hpre
         · obtain⟨L',hm,-⟩:=hJ.out.ms
           have q0:=JT.po Y.out hm.out;exact cH
         · refine Wn ?_
           obtain⟨L',hm,-⟩:=hJ.out.ms;have aU:=aZ 4;exact zl 94 (.tmp 68) rfl f 0 aU [.int .i64 a'.b,.int .i64 a'.r,.int .i64 a'.s] _ (bN (hm.own _ (eD _ (ej _))).1 [] [.int .i64 a'.b,.int .i64 a'.r,.int .i64 a'.s] [.int .i64 a'.m,.int .i64 a'.q,.int .i64 a'.o] rfl 0 rfl) underlying94 rfl nD ⟨ux,_,rfl,rfl,hJ.out.JW rfl rfl⟩
         · obtain⟨L',hm,-⟩:=hJ.out.ms
           have q0:=hm.LM (k:=f) (j:=3) (eD _ (ej _)) (v:=.int .i64 a'.m) rfl;exact cH
         · refine dM ?_
           intro K HK;refine(aI.out w' (by obtain⟨L',hm,-⟩:=hJ.out.ms;exact(E.out.bel hm.out).JT)).mono ?_;exact yej
         · exact yce
         · refine Wn ?_
           obtain⟨L2,hm⟩:=hJ.out.at_ (by simp[hpre]) hL;have aW:=aZ 12;have aX:=aZ 10;refine mI hm 90 rfl aW aX aV ab.out rfl (aO _ _ _ _) fun w'' hw=>⟨ux,r2,rfl,rfl,?_⟩
           exact L8.full hw (by simp[hpre])
       · intro ux L w' hL hJ
         obtain⟨L2,hm⟩:=hJ.done (hL 12 (by decide)) (hL 13 (by decide));have hs:Mr W w' ((ux,x.1.v, 90)::[(f,a'.v, 96),(R,JX.z0.v, 90),(W.heap.size,An .u8 an, 35)]) []:=Ms.less hm (fo _ (ly _ _)) (.refl _);clear hm hJ hL;generalize ux=xk at*;simp only[jd,jm];go_simp;have e0:=hs.cell 0 0 rfl (v:=.int .i64 x.1.l) rfl;have e1:=hs.cell 0 1 rfl (v:=.int .i64 x.1.s) rfl;have e4:=hs.cell 1 4 rfl (v:=.int .i64 a'.q) rfl;obtain⟨en,er⟩:=x;by_cases z0:er=0
         · subst z0
           by_cases T:en.l=j
           · have aY:(en.l !=j)=false:=by simpa using T
             by_cases U:en.s=a'.q
             · have a1:(en.s !=a'.q)=false:=by simpa using U
               have HR:=qZ (show F.read j=(en.d,0) by rw[O.out,if_neg (fun q=>by rcases q with q|q|q;exact q rfl;exact q T;exact q U)]);go_upto_region 17 with fail
               rw[uo en]at hs;go_wp2_with (first|(refine bS 0 3 (c1:=[.int .i64 en.l,.int .i64 en.s,.int .i64 en.r]) (c2:=An .u8 en.d) (c3:=[]) hs rfl rfl 35 rfl rfl rfl jt rfl bh ad.out ?_)|(refine ma ?_;try (clear hs;intro w hs)));change zd _ _ _ _ _ _;exact js (hs.Nn 3 rfl rfl _ rfl jt rfl bh (by first|rfl|exact(by assumption:Hid _).out)) rfl ⟨by rw[HR.out];rfl,hs.out⟩
             · have a1:(en.s !=a'.q)=true:=by simpa using U
               have HR:=qZ (show F.read j=(an,10) by rw[O.out,if_pos (.inr (.inr U))]);exact yat
           · have aY:(en.l !=j)=true:=by simpa using T
             have HR:=qZ (show F.read j=(an,10) by rw[O.out,if_pos (.inr (.inl T))]);exact yat
         · have a2:(er !=0)=true:=by simpa using z0
           have HR:=qZ (show F.read j=(an,10) by rw[O.out,if_pos (.inl z0)]);exact yat
theorem lQ{b:eX}{base:Nat}{v:fj}{B:eX→Prop}{f:List Bk}{S:List Sl}(hs:Mv pl base fg dg m c F v B b w f S)(i:F.KR≠0)(j:Int):iP hO 22 #[fg,j] w fun e w'=>e=.returned (.tuple #[.agg (An .u8 (F.read j).1).toArray,.int .i64 (F.read j).2])∧Mv pl base fg dg m c F.ref v B b w' f S:=by
 obtain⟨g,l⟩:∃g,g=w.heap.size:=⟨_,rfl⟩;go_enter func22, ntmps22;go_upto_region 1 with(refine ma ?_;try (clear hs;intro w hs))
 simp only[←l]at hs⊢;clear l;go_wp2_with fail;refine(eE (Mw.mid (P:=[(_,_,_)]) hs)).mono ?_;rintro e1 o ⟨rfl,n⟩;replace hs:Mw pl base m c F.D B b o ((g,An .u8 an, 35)::(fg,Fv.v F.ref pl dg, 88)::(dg,[v], 149)::f) (⟨90,19,v,F.JX.length,(ens F.JX).flatten⟩::S):=Mw.P8 (P:=[(_,_,_)]) n;clear n;have q:(F.KR !=0)=true:=by simpa using i
 have p:=qZ (show F.read j=(an,F.KR)from Bo i);go_wp2_with (first|(refine ac rfl 35 _ rfl _ rfl _ bP ?_)|(refine ma ?_;try (clear hs;intro w hs)));change zd _ _ _ _ _ _;exact js (hs.Nn 0 rfl rfl _ rfl jt rfl bh (by first|rfl|exact(by assumption:Hid _).out)) rfl ⟨by rw[p.out];rfl,hs.drop 1⟩
theorem vp{F:Fv}(h:F.KR=0):F.ref=F:=by
 unfold Fv.KR at h;unfold Fv.ref;cases e:(F.off ||F.D.N.off)with
 |true=>rw[e]at h;exact absurd h (by decide)
 |false=>
  obtain⟨b,f⟩:=Bool.or_eq_false_iff.1 e;rw[←b]
theorem xp{g:eX}{base:Nat}{v:fj}{B:eX→Prop}{l:List Bk}{S:List Sl}(b:Mv pl base fg dg m c F v B g w l S)(n:Fw F k r)(j:Int)(hj:wfI j):iP hO 22 #[fg,j] w fun e w'=>e=.returned (.tuple #[.agg (An .u8 (F.read j).1).toArray,.int .i64 (F.read j).2])∧Mv pl base fg dg m c F.ref v B g w' l S:=by
 by_cases f:F.KR=0
 · refine(vq b.a (b.blk (i:=0) rfl) (Mw.LW (i:=1) (j:=0) b rfl rfl fun e o=>(n.dk e o).1) n f j hj).mono ?_
   rintro e w' ⟨rfl,p⟩;rw[vp f];exact⟨rfl,b.below p⟩
 · exact lQ b f j
end
open JT (Nd JS Ko)
def PY(F:Fv)(k:Nat):List (List Nat):=(List.range k).map fun i:Nat=>(F.read (i:Int)).1
theorem Aj(F:Fv)(k:Nat):((PY F (k+1)).map (An .u8)).flatten=((PY F k).map (An .u8)).flatten++An .u8 (F.read (k:Int)).1:=by
 unfold PY;rw[List.range_succ,r4,r4,List.flatten_append];simp
theorem eP:(hO.info? 35).map (fun i=>(i.zero,i.size,i.bytes))=some (some (.agg (An .u8 an).toArray),16,16):=by kernel_rfl
section
variable {w w0:eX}{pl:Pl}{base fg dg m c k r:Nat}{F:Fv}{v:fj}{B:eX→Prop}{Lb:List Bk}{S:List Sl}
theorem Gt{M:Nat}(h:Kk w pl m c F.D)(b:w.heap[fg]? =some (.cells (F.v pl dg).toArray 88 (0,0)))(f:JX.KI w M dg F.JX)(p:Fw F k r)(t:F.KR=0)(z:∀i:Nat,i<F.logical→(F.read (i:Int)).2=0∧(F.read (i:Int)).1.length=16):iP hO 34 #[.pointer (some ⟨fg,0,none⟩)] w fun e D=>∃l,e=.returned (.tuple #[l,.int .i64 0])∧D.ownsRow w.heap.size 35 16 l F.logical ((PY F F.logical).map (An .u8)).flatten∧Below w.heap.size w D:=by
 have E:=qZ z;have N:=qZ p;have O:=qZ t;have P:F.logical≤200:=i4 h.JT.ok.geo;have ad:=oG;obtain⟨W,H⟩:∃W,W=w:=⟨_,rfl⟩;rw[←H]at h b f⊢;have I:=qZ h;have Q:=qZ b;have R:=qZ f;have c0:W.cell? ⟨fg,0,none⟩=some (.pointer (some ⟨pl.g,0,none⟩)):=by rw[ae b];rfl
 have T:=qZ c0;have hs:=Mr.start W;clear t z p h b f H c0;go_enter func34, ntmps34;go_wp2_with fail;refine(iz (F:=F) I.out T.out).mono ?_;rintro e U ⟨rfl,J⟩;replace hs:Mr W U [] [⟨35,16,.slice none 0 0,0,((PY F 0).map (An .u8)).flatten⟩]:=(hs.below J).empty 35 16 rfl;clear J;obtain⟨n,g⟩:∃n,n=F.logical:=⟨_,rfl⟩;rw[←g]at P E⊢;have V:=qZ g;clear g;go_wp2_with fail;go_loopw [4,12] (fun X j wr=>∃q:Nat,q≤n∧j=.int .i64 (q:Int)∧Mr W wr [] [⟨35,16,X,q,((PY F q).map (An .u8)).flatten⟩]) (fun _ j _=>n-(intOf j).toNat)
 case atStart=>exact⟨0,by omega,rfl,hs⟩
 case round=>
  clear hs;obtain⟨q,hq,rfl,hs⟩:=hrel;by_cases Y:q<n
  · have af:(q:Int)<(n:Int):=by omega
    have o:=E.out q Y;have Z:=qZ (show(An .u8 (F.read (q:Int)).1).length=16 by rw[ah];exact o.2);have ab:=qZ (Aj F q);go_wp2_with fail;refine(vq (I.out.bel hs.out) (aa Q.out hs.out) (R.out.below hs.out) N.out O.out (q:Int) (bw (by omega) (by omega))).mono ?_;rw[o.1];rintro e w2 ⟨rfl,L⟩;replace hs:=hs.below L;clear L o;go_wp2_with (first|(refine ma ?_;try (clear hs;intro w hs))|(at_builtin;(refine bT hs 58 rfl rfl underlying58 eP rfl (by decide) Z.out rfl rfl (av _ _) (by unfold tm;omega) (by omega) ?_;clear hs;intro l w hs)));go_roundw
    case rel=>exact⟨q+1,by omega,by go_num,by rw[ab.out];exact hs.drop 2⟩
    case measure=>first|(simp[intOf];done)|(simp[intOf];omega)
  · obtain rfl:q=n:=by omega
    go_wp2_with fail;rw[V.out]at hs⊢;exact js (tr rfl _ _ _) rfl ⟨_,rfl,hs.sl (i:=0) rfl,hs.out⟩
theorem AM(b:Mv pl base fg dg m c F v B w0 w Lb S)(g:Fw F k r)(i:Fh pl base m c)(h:F.whole.2=true):iP hO 40 #[.pointer (some ⟨fg,0,none⟩),.int .i64 50] w fun e j=>e=.returned (.int .i64 0)∧∃f,Mv pl base fg dg m c F.whole.1 f B w0 j Lb S:=by
 have l:=qZ (su b g i);have H:=qZ h;clear b g i h;go_enter func40, ntmps40;go_wp2_with fail;go_loopw [11] (fun n wr=>n=.int .i64 0∧wr=w) (fun _ _=>0)
 case atStart=>exact⟨rfl,rfl⟩
 case round=>
  obtain⟨rfl,rfl⟩:=hrel;go_wp2_with fail;refine l.out.mono ?_;rw[H.out];rintro e o ⟨rfl,f,b,-⟩;go_wp2_with fail;go_ret;first|exact⟨rfl,f,b⟩|exact⟨f,b⟩
end
end dev
theorem yb0{A:Prop}(h:A:=by
 clear hs2 hf;go_wp2_with (first|(refine ac rfl 220 _ rfl _ rfl _ (IM _) ?_)|(refine aJ hs 220 rfl rfl rfl rfl ip HT.out rfl (vz _ _) ?_;clear hs;intro w hs));exact bodyPost_ret (hs.Qu 0 rfl rfl _ rfl underlying220 rfl ip HT.out) rfl ⟨rfl,v',hs.drop 2,HF.out⟩):A:=h
namespace dev.pl
open dev
open JT (Nd JS Ko)
theorem xx(x:Addr)(w:eX):(binOp .eql 217 (.pointer (some x)) (.pointer none)).run hO w=.ok (.bool false) w:=run_eql_pointer_nil w 217 (some x) (by kernel_rfl: hO.underlying 217 =some (.pointer (hO.pointee 217)))
theorem FQ(w:eX):iP hO 249 #[.slice none 0 0] w fun e b=>e=.returned (.slice none 0 0)∧w=b:=by
 have c:=fun W:eX=>Lib.run_eql_slice_nil (P:= hO) W 261 75 none 0 0 0 0 underlying261
 go_enter func249, ntmps249;go_wp2
 go_ret;exact⟨rfl,rfl⟩
theorem JJ{w:eX}{b:Nat}(h:w.heap[b]? =some (.cells ([.slice none 0 0]:List fj).toArray 295 (0,0)))(t:Int):iP hO 231 #[b,t] w fun e c=>e=.returned (.slice none 0 0)∧Below w.heap.size w c:=by
 have j:=JT.lV;have c0:w.cell? ⟨b,0,none⟩=some (.slice none 0 0):=by rw[ae h];rfl
 have ff:=ao h 0;have f:=ar h (i:=0) (.slice none 0 0);have HB:=qZ (sC f h);go_enter func231, ntmps231;go_wp2_with fail;go_loopw [5] (fun g wr=>g=.int .i64 0∧wr=w) (fun _ _=>0)
 case atStart=>exact⟨rfl,rfl⟩
 case round=>
  obtain⟨rfl,rfl⟩:=hrel;go_wp2_with fail;refine(FQ _).mono ?_;rintro e k ⟨rfl,rfl⟩;exact Gu
theorem IU{w:eX}{b g m base:Nat}{N:Nd}(h:w.heap[b]? =some (.cells ([.slice none 0 0]:List fj).toArray 295 (0,0)))(c:JS w base g m N):iP hO 194 #[b,g] w fun e f=>e=.returned (.int .i64 0)∧Below w.heap.size w f:=by
 have i:=qZ (JT.BK c);have j:=qZ (fun t=>JJ h t);clear h c;go_enter func194, ntmps194;go_wp2_with fail;refine i.out.mono ?_;rintro e n ⟨rfl,rfl⟩;go_wp2_with fail;refine(j.out _).mono ?_;rintro e k ⟨rfl,hb⟩;go_wp2_with fail;go_loopw [14] (fun l wr=>l=.int .i64 0∧wr=k) (fun _ _=>0)
 case atStart=>exact⟨rfl,rfl⟩
 case round=>
  obtain⟨rfl,rfl⟩:=hrel;exact IA
theorem pn_b: hO.built 295 []=some ([.slice none 0 0]:List fj).toArray:=by kernel_rfl
theorem Ht(W:eX):iP hO 193 #[.agg ([.int .i64 3,.int .i64 8,.int .i64 2]:List fj).toArray,.slice none 0 0] W fun e f=>∃b,e=.returned (.pointer (some ⟨b,0,none⟩))∧W.heap.size≤b∧f.heap[b]? =some (.cells ([.slice none 0 0]:List fj).toArray 295 (0,0))∧Below W.heap.size W f:=by
 have hs:=Mr.start W;have j:=qZ (fun l w=>JT.AU none 0 0 l w (by decide));go_enter func193, ntmps193;go_wp2_with (first|(refine aG hs 23 rfl rfl _ [.int .i64 3,.int .i64 8,.int .i64 2] rfl rfl rfl ?_;clear hs;intro w hs)|(refine ac rfl 295 _ rfl _ rfl _ pn_b ?_)|(obtain⟨b,g⟩:∃k,k=w.heap.size:=⟨_,rfl⟩;refine aG hs 295 rfl rfl _ [.slice none 0 0] rfl rfl rfl ?_;clear hs;intro w hs;simp only[←g]at hs⊢;clear g)|(refine aK 0 hs rfl 261 rfl rfl rfl underlying261 rfl rfl ?_));go_loopw [12] (fun m wr=>m=.int .i64 0∧Mr W wr [(b,[.slice none 0 0], 295),(W.heap.size,[.int .i64 3,.int .i64 8,.int .i64 2], 23)] []) (fun _ _=>0)
 case atStart=>exact⟨rfl,hs⟩
 case round=>
  clear hs;obtain⟨rfl,hs⟩:=hrel;go_wp2_with (refine ma ?_;try (clear hs;intro w hs));refine(j.out _ _).mono ?_;rintro e n ⟨rfl,rfl⟩;go_wp2_with fail;go_ret;exact⟨b,rfl,(hs.own _ (kr ..)).2.1,hs.blk (i:=0) rfl,hs.out⟩
theorem _root_.Go.Proofs.YtlkpfnjdbgeifaaGreat.Ms.Rz{da dv:kk→Bool}{base:Nat}{A B:eX→Prop}{f w g:eX}{L:List Bk}{S:List Sl}(h:Ms da dv base A B f w L S)(j:Below w.heap.size w g){k:Nat}{i:List fj}{t:kk}(l:g.heap[k]? =some (.cells i.toArray t (0,0)))(n:w.heap.size≤k)(m:da t=false):Ms da dv base A B f g ((k,i,t)::L) S:=by
 have b:=h.below j;have o:=h.size;have p:=h.le;refine⟨b.sub,fun x c=> ?_,gg.2 ⟨fun x c q=> ?_,b.srt⟩,fun s e=>⟨(b.sls s e).1,(b.sls s e).2.1,fun x c q=> ?_⟩,b.sps,b.fr,b.le,b.sa,b.sb,b.a,b.b⟩
 · rcases jg.1 c with rfl|c
   · exact⟨l,by show base≤k;omega,m,.inr (by show f.heap.size≤k;omega)⟩
   · exact b.own x c
 · have:=h.lt c
   have q:k=x.1:=q;omega
 · rcases jg.1 c with rfl|c
   · have:=(h.slt e q).2
     have:k<w.heap.size:=this
     omega
   · exact(b.sls s e).2.2 x c q
def plV(g b c:Nat)(e:fj):List fj:=[.pointer (some ⟨g,0,none⟩),.pointer (some ⟨b,0,none⟩),.pointer (some ⟨c,0,none⟩),e]
theorem pl_b(g b c:Nat): hO.built 265 [(0,.pointer (some ⟨g,0,none⟩)),(1,.pointer (some ⟨b,0,none⟩)),(2,.pointer (some ⟨c,0,none⟩))]=some (plV g b c (.slice none 0 0)).toArray:=by kernel_rfl
abbrev Py(pl:Pl)(nb b f g c m:Nat)(F:Fv)(v e:fj)(n:Nat)(h:List fj)(W w:eX)(i:List Bk):Prop:=Mv pl nb b f m 600 F v (fun _=>True) W w ((g,plV pl.g b c e, 265)::(c,[.slice none 0 0], 295)::i) [⟨220,17,e,n,h⟩]
theorem Jc(b:eX){N:Nd}(p:N=Nd.new 3 8 2)(U:(Mo N).2=0)(V:∀f∈Kc N,f.whole=true):iP hO 130 #[.agg ([.int .i64 3,.int .i64 8,.int .i64 2]:List fj).toArray,.slice none 0 0] b fun e X=>∃pl nb j m n k W,e=.returned (.pointer (some ⟨n,0,none⟩))∧Py pl nb j m n k 0 (Ki (Mo N).1) (.slice none 0 0) (.slice none 0 0) 0 [] W X []∧pl.base=nb∧b.heap.size≤nb∧Below b.heap.size b W:=by
 have hs:=Mr.start b;have ab:=qZ (show([.int .i64 3,.int .i64 8,.int .i64 2]:List fj).length=3 from rfl);have ad:=JT.JY;go_enter func130, ntmps130;go_upto_region 1 with(refine ma ?_;try (clear hs;intro w hs))
 go_wp2_with (refine ma ?_;try (clear hs;intro w hs));obtain⟨nb,q⟩:∃nb,nb=w.heap.size:=⟨_,rfl⟩;have t:b.heap.size<nb:=by rw[q];exact hs.lt (ej _)
 have r:=hs.size;have z:iP hO 29 #[.agg ([.int .i64 3,.int .i64 8,.int .i64 2]:List fj).toArray] w _:=JT.mR w 3 8 2 (by decide);refine z.mono ?_;rintro e W ⟨g,rfl,o,l⟩;rw[←q,←p]at o;replace hs:=hs.below l;have B:=qZ (show b.heap.size≤nb∧nb≤W.heap.size by have:=l.size;omega);have D:=qZ t;have E:nb≤g∧g<W.heap.size:=⟨by obtain⟨ae,-,h⟩:=o;exact h.Nv.1,o.lt⟩;have Y:=qZ hs.out;have Z:=qZ (hs.blk (i:=0) rfl);clear l z q r hs t;go_wp2_with fail;refine(fx o (by rw[p];rfl) E (fun _ _=>by rw[p];exact qc _) V (by rw[p];decide) (by decide) U).mono ?_;rintro e H ⟨j,m,I,J,L,M,O,P,rfl,hs,-,-⟩;clear o E;have Q:H.rangeAt b.heap.size 0 [.int .i64 3,.int .i64 8,.int .i64 2]:=ai ((hs.fr.block _ (by have:=B.out;have:=D.out;omega) (fun af=>by have:=D.out;omega)).trans Z.out);go_wp2_with (first|(refine wpList_load_mid rfl 23 (.tmp 2) rfl b.heap.size 0 rfl [.int .i64 3,.int .i64 8,.int .i64 2] _ Q underlying23 rfl Bb ?_));clear Q;have r:=hs.size;refine(Ht H).mono ?_;rintro e w2 ⟨k,rfl,R,S,l⟩;replace hs:=hs.Rz l S R rfl;clear R S l r;go_wp2_with (first|(refine ac rfl 265 _ rfl _ rfl _ (pl_b _ _ _) ?_)|(obtain⟨n,T⟩:∃aa,aa=w2.heap.size:=⟨_,rfl⟩;refine aG hs 265 rfl rfl _ (plV g j k (.slice none 0 0)) rfl rfl rfl ?_;clear hs;intro w hs;simp only[←T]at hs⊢;clear T));go_ret;have h2:=hs.empty 220 17 rfl;have h3:=Ms.perm h2 (L':=[(j,(Ki (Mo N).1).v (⟨nb,g,I,J,L,M,O,P⟩:Pl) m, 88),(m,[.slice none 0 0], 149),(n,plV g j k (.slice none 0 0), 265),(k,[.slice none 0 0], 295)]) ((nr (l₁:=[_,_]) (l₂:=[_,_]))) (pn _ _ _);exact⟨(⟨nb,g,I,J,L,M,O,P⟩:Pl),nb,j,m,n,k,W,rfl,h3,rfl,B.out.1,Y.out⟩
def tV(e:Int)(d:List Nat):List fj:=.int .i64 e::An .u8 d
def stV(b l:Int)(d:List Nat):List fj:=[.int .i64 b,.int .i64 l]++(An .u8 d++[.int .i64 0,.int .i64 0,.int .i64 0,.int .i64 0,.int .i64 0,.int .i64 0,.int .i64 0,.int .i64 0,.int .i64 0])
theorem IM(e:Int): hO.built 220 [(0,.int .i64 e)]=some (tV e an).toArray:=by kernel_rfl
theorem IL{d:List Nat}(h:d.length=16)(e:Int): hO.built 220 [(0,.int .i64 e),(1,.agg (An .u8 d).toArray)]=some (tV e d).toArray:=by
 exact I7
theorem jJ:(hO.info? 220).map (·.zero)=some (some (.agg (tV 0 an).toArray)):=by kernel_rfl
instance:TI hO 220 true (.agg (tV 0 an).toArray) 17 24:=⟨by kernel_rfl,by kernel_rfl⟩
theorem ip:(hO.info? 220).map (·.size)=some 17:=by kernel_rfl
theorem qP:(hO.info? 220).map (fun i=>(i.zero,i.size,i.bytes))=some (some (.agg (tV 0 an).toArray),17,24):=by kernel_rfl
theorem E5:(hO.info? 223).map (·.size)=some 27:=by kernel_rfl
theorem vz(e:Int)(d:List Nat):∀u∈tV e d,u.oneCell'=true:=by
 intro u b;unfold tV at b;rcases jg.1 b with rfl|b
 · rfl
 · exact av _ _ u b
theorem qN{d:List Nat}(h:d.length=16)(e:Int):(tV e d).length=17:=by simp[tV,ah,h]
theorem Es{d:List Nat}(h:d.length=16)(a b:Int):(stV a b d).length=27:=by simp[stV,ah,h]
theorem FH{da dv:kk→Bool}{base c:Nat}{A B:eX→Prop}{f w:eX}{L:List Bk}{S:List Sl}{v:fj}{l:List En}(b:Ms da dv base A B f w L (⟨90,19,v,l.length,(ens l).flatten⟩::S))(g:(c,[v], 149)∈L)(k:dv 149 =false)(j:∀e∈l,e.ok):JX.KI w f.heap.size c l:=by
 refine⟨⟨v,(b.own _ g).1,b.sl (i:=0) rfl,by simp[ens],oT j⟩,?_,j⟩;rcases(b.own _ g).2.2.2 with h|h
 · exact absurd h (by show¬dv 149 =true;rw[k];simp)
 · exact h
section
variable {pl:Pl}{nb fg dg pk pp m k:Nat}{F:Fv}{v lv:fj}{W w:eX}{Lb:List Bk}{S:List Sl}
abbrev Pw2(pl:Pl)(nb fg dg pk pp m:Nat)(F:Fv)(v lv:fj)(W w:eX)(Lb:List Bk)(S:List Sl):Prop:=Mv pl nb fg dg m 600 F v (fun _=>True) W w ((pk,plV pl.g fg pp lv, 265)::(pp,[.slice none 0 0], 295)::Lb) S
theorem Re(hs:Pw2 pl nb fg dg pk pp m F v lv W w Lb S)(f:Fw F (k+1) 0)(g:Fh pl nb m 600)(j:Int)(hj:wfI j){d:List Nat}(b:d.length=16∧∀y∈d,y<256):iP hO 195 #[pk,.agg (stV 2 j d).toArray] w fun e o=>e=.returned (.agg (tV (F.write j d).2 an).toArray)∧∃v',Pw2 pl nb fg dg pk pp m (F.write j d).1 v' lv W o Lb S∧Fw (F.write j d).1 k 0:=by
 have z:=qZ b;have p:=qZ (show(An .u8 d).length=16 by rw[ah];exact b.1);have HT:=qZ (qN aM.1 (F.write j d).2);have q:=qZ (fun W w Lb S v (hs:Mv pl nb fg dg m 600 F v (fun _=>True) W w Lb S)=>nl hs f g j hj b);clear f g hj b;go_enter z6, ntmps195;go_upto_region 1 with(first|(obtain⟨r,i⟩:∃k,k=w.heap.size:=⟨_,rfl⟩;refine aG hs 223 rfl rfl _ (stV 2 j d) rfl rfl rfl ?_;clear hs;intro w hs;simp only[←i]at hs⊢;clear i)|(obtain⟨t,l⟩:∃k,k=w.heap.size:=⟨_,rfl⟩;refine az hs 220 rfl rfl _ (tV 0 an) jJ rfl rfl ?_;clear hs;intro w hs;simp only[←l]at hs⊢;clear l))
 go_upto_region 6 with(refine ma ?_;try (clear hs;intro w hs))
 refine bm 8 (by kernel_rfl) (by kernel_rfl) ?_;intro B n;replace hs:=hs.drew;rw[←n]at hs;clear n;simp only[hX,jI,hZ,kb];repeat (first|(refine aq 4 hs rfl 26 (by first|rfl|(simp[ek];done)|(go_simp;done)) rfl rfl xa rfl rfl ?_)|(refine aq 1 hs rfl 3 (by first|rfl|(simp[ek];done)|(go_simp;done)) rfl rfl ps rfl rfl ?_)|(refine qH 1 2 (c1:=[.int .i64 2,.int .i64 j]) (c2:=An .u8 d) (c3:=[.int .i64 0,.int .i64 0,.int .i64 0,.int .i64 0,.int .i64 0,.int .i64 0,.int .i64 0,.int .i64 0,.int .i64 0]) hs rfl rfl 35 (by first|rfl|(simp[ek];done)|(go_simp;done)) rfl rfl jt rfl bh p.out ?_)|(refine wpStill_step (fun K hK=> ?_);go_simp;refine hK _ ?_;clear hK K))
 refine l4 ?_;go_wp2_with fail;refine(q.out _ _ _ _ _ (Mw.mid (P:=[(_,_,_),(_,_,_)]) hs)).mono ?_;rintro e D ⟨rfl,v',hs2,hf⟩;have HF:=qZ hf;replace hs:=Mw.P8 (P:=[(t,tV 0 an, 220),(r,stV 2 j d, 223)]) hs2;exact yb0
theorem Id(hs:Pw2 pl nb fg dg pk pp m F v lv W w Lb S)(b:Fw F (k+1) 0)(f:Fh pl nb m 600):iP hO 195 #[pk,.agg (stV 4 0 an).toArray] w fun e j=>e=.returned (.agg (tV F.flush.2 an).toArray)∧∃v',Pw2 pl nb fg dg pk pp m F.flush.1 v' lv W j Lb S∧Fw F.flush.1 k 0:=by
 have HT:=qZ (qN aM.1 F.flush.2);have l:=qZ (fun W w Lb S v (hs:Mv pl nb fg dg m 600 F v (fun _=>True) W w Lb S)=>oL hs b f);clear b f;go_enter z6, ntmps195;go_upto_region 1 with(first|(obtain⟨n,g⟩:∃k,k=w.heap.size:=⟨_,rfl⟩;refine aG hs 223 rfl rfl _ (stV 4 0 an) rfl rfl rfl ?_;clear hs;intro w hs;simp only[←g]at hs⊢;clear g)|(obtain⟨o,i⟩:∃k,k=w.heap.size:=⟨_,rfl⟩;refine az hs 220 rfl rfl _ (tV 0 an) jJ rfl rfl ?_;clear hs;intro w hs;simp only[←i]at hs⊢;clear i))
 go_wp2_with (refine ma ?_;try (clear hs;intro w hs));refine(l.out _ _ _ _ _ (Mw.mid (P:=[(_,_,_),(_,_,_)]) hs)).mono ?_;rintro e p ⟨rfl,v',hs2,hf⟩;have HF:=qZ hf;replace hs:=Mw.P8 (P:=[(o,tV 0 an, 220),(n,stV 4 0 an, 223)]) hs2;exact yb0
theorem Rr(hs:Pw2 pl nb fg dg pk pp m F v lv W w Lb S)(f:Fw F k 0)(h0:F.KR=0)(j:Int)(hj:wfI j)(n:(F.read j).1.length=16):iP hO 195 #[pk,.agg (stV 1 j an).toArray] w fun e w'=>e=.returned (.agg (tV (F.read j).2 (F.read j).1).toArray)∧Pw2 pl nb fg dg pk pp m F v lv W w' Lb S:=by
 have r:=qZ (qN n (F.read j).2);have M:=qZ n;have D:=qZ (show(An .u8 (F.read j).1).length=16 by rw[ah];exact n);have N:=qZ (show∀e∈F.JX,e.ok from fun e he=>(f.dk e he).1);have O:=qZ (fun w R (h:Kk w pl m 600 F.D) (h1:w.heap[fg]? =some (.cells (F.v pl dg).toArray 88 (0,0))) (h2:JX.KI w R dg F.JX)=>vq h h1 h2 f h0 j hj);clear f hj n h0;go_enter z6, ntmps195;go_upto_region 1 with(first|(obtain⟨E,H⟩:∃k,k=w.heap.size:=⟨_,rfl⟩;refine aG hs 223 rfl rfl _ (stV 1 j an) rfl rfl rfl ?_;clear hs;intro w hs;simp only[←H]at hs⊢;clear H)|(obtain⟨T,I⟩:∃k,k=w.heap.size:=⟨_,rfl⟩;refine az hs 220 rfl rfl _ (tV 0 an) jJ rfl rfl ?_;clear hs;intro w hs;simp only[←I]at hs⊢;clear I))
 go_upto_region 3 with(refine ma ?_;try (clear hs;intro w hs))
 refine dz (X:=Nat) (fun ux=> [(some 12,pk),(some 13,pk),(some 14,.pointer (some ⟨pk,1,none⟩)),(some 15,fg),(some 16,.pointer (some ⟨E,1,none⟩)),(some 17,j),(some 18,.tuple #[.agg (An .u8 (F.read j).1).toArray,.int .i64 (F.read j).2]),(some 11,.tuple #[.agg (An .u8 (F.read j).1).toArray,.int .i64 (F.read j).2]),(some 19,.agg (An .u8 (F.read j).1).toArray),(some 20,.int .i64 (F.read j).2),(some 5,ux),(none,r2),(some 6,.int .i64 (F.read j).2)])
  (fun ux L w'=>L8 (fun w L=>Ms Kx Kx nb (fun w=>Kk w pl m 600 F.D) (fun _=>True) W w L (⟨90,19,v,F.JX.length,(ens F.JX).flatten⟩::S)) ((T,tV 0 an, 220)::(E,stV 1 j an, 223)::(fg,F.v pl dg, 88)::(dg,[v], 149)::(pk,plV pl.g fg pp lv, 265)::(pp,[.slice none 0 0], 295)::Lb) 35 (An .u8 (F.read j).1) (An .u8 an) 10 11 ux L w') ⟨0,fun L hL=>L8.start hs.drew (hL 10) (hL 11)⟩ ?_ ?_
 · refine⟨rr,rr,rr,?_,rr,?_,?_,rr,rr,rr,?_,?_,rr,trivial⟩
   all_goals
    intro ux L w' hL hpre hJ a ha he;try simp[jw]at hpre
   · refine Wn ?_
     obtain⟨q,hm,-⟩:=hJ.out.ms;have l:=aZ 2;exact ex hm (eD _ (ed _ (ed _ (ed _ (ed _ (ej _)))))) 26 rfl l xa rfl rfl ⟨ux,_,rfl,rfl,hJ.out.JW rfl rfl⟩
   · refine Wn ?_
     obtain⟨q,hm,-⟩:=hJ.out.ms;have l:=aZ 4;exact ex hm (eD _ (ed _ (ej _))) 3 rfl l ps rfl rfl ⟨ux,_,rfl,rfl,hJ.out.JW rfl rfl⟩
   · refine dM ?_
     intro K HK;obtain⟨q,hm,-⟩:=hJ.out.ms;refine(O.out w' W.heap.size hm.a (hm.own _ (eD _ (ed _ (ed _ (ej _))))).1 (FH hm (eD _ (ed _ (ed _ (ed _ (ej _))))) rfl N.out)).mono ?_;exact yej
   · refine Wn ?_
     obtain⟨q,hm,U⟩:=hJ.out.no hL;refine qG hm 35 rfl _ (An .u8 an) DV rfl rfl fun w'' f=>⟨w'.heap.size,_,rfl,rfl,?_⟩
     exact L8.made f U (by decide)
   · refine Wn ?_
     obtain⟨V,hm⟩:=hJ.out.at_ (by simp[hpre]) hL;have l:=aZ 10;have Y:=aZ 8;refine mI hm 35 rfl l Y bh D.out rfl (av _ _) fun w'' f=>⟨ux,r2,rfl,rfl,?_⟩
     exact L8.full f (by simp[hpre])
 · intro ux L w' hL hJ
   obtain⟨V,hm⟩:=hJ.done (hL 10 (by decide)) (hL 11 (by decide));have hs:=Ms.less hm (fo _ (ly _ _)) (.refl _);clear hm hJ hL;simp only[jd,jm];go_simp;go_wp2_with (first|(refine bM 0 hs rfl 35 rfl rfl rfl jt rfl bh D.out ?_)|(refine ac rfl 220 _ rfl _ rfl _ (IL M.out _) ?_)|(refine lJ hs 220 rfl rfl rfl rfl ip r.out rfl (vz _ _) ?_;clear hs;intro w hs));exact js (hs.Qu 1 rfl rfl _ rfl px rfl ip r.out) rfl ⟨rfl,hs.drop 3⟩
end
structure AJ (M:eX→List Bk→List Sl→Prop) (qb fg dg pk pp g:Nat) (FV:List fj) (v lv:fj) (tv xs:List fj) (n:Nat) (R:List Bk) (S:List Sl) (x:fj×Nat) (l c a g1:Bool) (w:eX):Prop where
 ms:∃E,M w (E++(qb,tv, 220)::(fg,FV, 88)::(dg,[v], 149)::(pk,plV g fg pp (bif g1 then x.1 else lv), 265)::R) ((bif a then⟨220,17,x.1,n+1,xs++tv⟩else⟨220,17,lv,n,xs⟩)::S)∧(c=true→(x.2,tv, 220)∈E)
 p:(g1=true→a=true)∧(a=true→c=true∧l=true)
section
variable {M:eX→List Bk→List Sl→Prop}{qb fg dg pk pp g n:Nat}{FV:List fj}{v lv:fj}{tv xs:List fj}{R:List Bk}{S:List Sl}{x:fj×Nat}{l c a g1:Bool}{w:eX}
theorem ff{a b:Bool}(h:a=true→b=true)(e:b=false):a=false:=by cases a with|false=>rfl|true=>rw[h rfl]at e;cases e
theorem AJ.lo(h:AJ M qb fg dg pk pp g FV v lv tv xs n R S x l c a g1 w)(b:l=false):(∃E s,M w (E++(qb,tv, 220)::(fg,FV, 88)::(dg,[v], 149)::(pk,plV g fg pp lv, 265)::R) (s::S))∧AJ M qb fg dg pk pp g FV v lv tv xs n R S x true c a g1 w:=by
 have e:=ff (fun q=>(h.p.2 (h.p.1 q)).2) b;subst e;refine⟨?_,h.ms,h.p.1,fun q=>⟨(h.p.2 q).1,rfl⟩⟩;obtain⟨E,f,-⟩:=h.ms;exact⟨E,_,f⟩
theorem AJ.mk_(h:AJ M qb fg dg pk pp g FV v lv tv xs n R S x l c a g1 w)(e:c=false):∃E,M w (E++(qb,tv, 220)::(fg,FV, 88)::(dg,[v], 149)::(pk,plV g fg pp (bif g1 then x.1 else lv), 265)::R) ((bif a then⟨220,17,x.1,n+1,xs++tv⟩else⟨220,17,lv,n,xs⟩)::S)∧∀k b,M b ((k,tv, 220)::(E++(qb,tv, 220)::(fg,FV, 88)::(dg,[v], 149)::(pk,plV g fg pp (bif g1 then x.1 else lv), 265)::R)) ((bif a then⟨220,17,x.1,n+1,xs++tv⟩else⟨220,17,lv,n,xs⟩)::S)→AJ M qb fg dg pk pp g FV v lv tv xs n R S (x.1,k) l true a g1 b:=by
 obtain⟨E,f,-⟩:=h.ms;exact⟨E,f,fun k b i=>⟨⟨(k,tv, 220)::E,i,fun _=>ej _⟩,h.p.1,fun q=>absurd (h.p.2 q).1 (by rw[e];simp)⟩⟩
theorem AJ.ap(h:AJ M qb fg dg pk pp g FV v lv tv xs n R S x l c a g1 w)(f:a=false)(i:c=true)(j:l=true):∃E,M w (E++(qb,tv, 220)::(fg,FV, 88)::(dg,[v], 149)::(pk,plV g fg pp (bif g1 then x.1 else lv), 265)::R) (⟨220,17,lv,n,xs⟩::S)∧(x.2,tv, 220)∈E++(qb,tv, 220)::(fg,FV, 88)::(dg,[v], 149)::(pk,plV g fg pp (bif g1 then x.1 else lv), 265)::R∧∀u b,M b (E++(qb,tv, 220)::(fg,FV, 88)::(dg,[v], 149)::(pk,plV g fg pp (bif g1 then x.1 else lv), 265)::R) (⟨220,17,u,n+1,xs++tv⟩::S)→AJ M qb fg dg pk pp g FV v lv tv xs n R S (u,x.2) l c true g1 b:=by
 subst f i j;have k:=ff h.p.1 rfl;subst k;obtain⟨E,m,e⟩:=h.ms;exact⟨E,m,List.mem_append_left _ (e rfl),fun u b o=>⟨⟨E,o,e⟩,fun _=>rfl,fun _=>⟨rfl,rfl⟩⟩⟩
theorem AJ.st(h:AJ M qb fg dg pk pp g FV v lv tv xs n R S x l c a g1 w)(e:g1=false)(f:a=true):∃E,M w (E++(qb,tv, 220)::(fg,FV, 88)::(dg,[v], 149)::(pk,plV g fg pp lv, 265)::R) (⟨220,17,x.1,n+1,xs++tv⟩::S)∧∀b,M b (E++(qb,tv, 220)::(fg,FV, 88)::(dg,[v], 149)::(pk,plV g fg pp x.1, 265)::R) (⟨220,17,x.1,n+1,xs++tv⟩::S)→AJ M qb fg dg pk pp g FV v lv tv xs n R S x l c a true b:=by
 subst f e;obtain⟨E,i,j⟩:=h.ms;exact⟨E,i,fun b k=>⟨⟨E,k,j⟩,fun _=>rfl,h.p.2⟩⟩
end
theorem qY{w:eX}{base C n:Nat}{e:kk}{v:fj}{b:List fj}(h:w.ownsRow base e C v n b):v.oneCell'=true:=by
 obtain⟨c,f,rfl,-⟩:=eo h;rfl
theorem IT:(hO.info? 224).map (·.size)=some 1:=by kernel_rfl
section
variable {pl:Pl}{nb fg dg pk pp m n:Nat}{F F':Fv}{v lv:fj}{W w:eX}{tv xs st:List fj}{Q:Prop}{Lz:List Bk}
theorem AO(hs:Py pl nb fg dg pk pp m F v lv n xs W w Lz)(N:st.length=27)(O:tv.length=17)(R:∀u∈tv,u.oneCell'=true)(T:n≤100)(U:∀w v V S,Pw2 pl nb fg dg pk pp m F v lv W w V S→iP hO 195 #[pk,.agg st.toArray] w fun e w'=>e=.returned (.agg tv.toArray)∧∃l,Pw2 pl nb fg dg pk pp m F' l lv W w' V S∧Q):iP hO 131 #[pk,.agg st.toArray] w fun e w'=>e=.returned (.agg tv.toArray)∧∃l ah,Py pl nb fg dg pk pp m F' l ah (n+1) (xs++tv) W w' Lz∧Q:=by
 have HS:=qZ N;have D:=qZ O;have H1:=qZ R;have Y:=qZ T;have Z:=qZ U;have ak:=xx;clear N O R T U;go_enter func131, ntmps131;go_upto_region 3 with(first|(obtain⟨sb,aa⟩:∃k,k=w.heap.size:=⟨_,rfl⟩;refine aG hs 223 rfl rfl _ st rfl rfl rfl ?_;clear hs;intro w hs;simp only[←aa]at hs⊢;clear aa)|(obtain⟨rt,ab⟩:∃k,k=w.heap.size:=⟨_,rfl⟩;refine az hs 220 rfl rfl _ (tV 0 an) jJ rfl rfl ?_;clear hs;intro w hs;simp only[←ab]at hs⊢;clear ab))
 refine bm 8 (by kernel_rfl) (by kernel_rfl) ?_;intro wd ad;replace hs:=hs.drew;rw[←ad]at hs;clear ad;simp only[hX,jI,hZ,kb];repeat (first|(refine aq 4 hs rfl 262 (by first|rfl|(simp[ek];done)|(go_simp;done)) rfl rfl underlying262 rfl rfl ?_)|(refine aq 4 hs rfl 25 (by first|rfl|(simp[ek];done)|(go_simp;done)) rfl rfl underlying25 rfl rfl ?_)|(refine wpStill_step (fun K hK=> ?_);go_simp;refine hK _ ?_;clear hK K))
 refine l4 ?_;go_wp2_with fail;refine(IU (hs.blk (i:=5) rfl) hs.a.JT).mono ?_;rintro e w1 ⟨rfl,hb⟩;replace hs:=hs.below hb;clear hb;go_wp2_with (first|(refine bM 1 hs rfl 223 rfl rfl rfl underlying223 rfl E5 HS.out ?_));refine(Z.out _ _ ((rt,tV 0 an, 220)::(sb,st, 223)::Lz) _ (Ms.perm hs (y0 Lz (nr (l₁:=[_,_]) (l₂:=[_,_,_,_]))) (.refl _))).mono ?_;rintro e w2 ⟨rfl,r,ae,hQ⟩;replace hs:=ae;have HQ:=qZ hQ;clear ae hQ Z;go_upto_region 5 with(first|(obtain⟨H,af⟩:∃k,k=w2.heap.size:=⟨_,rfl⟩;refine az hs 220 rfl rfl _ (tV 0 an) jJ rfl rfl ?_;clear hs;intro w hs;simp only[←af]at hs⊢;clear af)|(refine ma ?_;try (clear hs;intro w hs)))
 replace hs:=hs.swap
 refine dz (X:=fj×Nat) (fun ux=> [(some 21,pk),(some 22,pk),(some 23,pk),(some 24,.pointer (some ⟨pk,3,none⟩)),(some 25,lv),(some 26,.agg tv.toArray),(some 27,.slice (some ⟨ux.2,0,none⟩) 1 1),(some 28,ux.1),(some 29,pk),(some 30,.pointer (some ⟨pk,3,none⟩)),(none,r2)])
  (fun ux L w'=>AJ (fun w L S=>Ms Kx Kx nb (fun w=>Kk w pl m 600 F'.D) (fun _=>True) W w L S) H fg dg pk pp pl.g (F'.v pl dg) r lv tv xs n ((pp,[.slice none 0 0], 295)::(rt,tV 0 an, 220)::(sb,st, 223)::Lz) [⟨90,19,r,F'.JX.length,(ens F'.JX).flatten⟩] ux (L 4) (L 6) (L 7) (L 10) w') ⟨(r2,0),fun L hL=>by rw[hL 4,hL 6,hL 7,hL 10];exact⟨⟨[],hs.drew,fun q=>(by cases q)⟩,fun q=>q,fun q=>(by cases q)⟩⟩ ?_ ?_
 · refine⟨rr,rr,rr,rr,?_,?_,?_,?_,rr,rr,?_,trivial⟩
   all_goals
    intro ux L w' hL hpre hJ a ha he;try simp[jw]at hpre
   · refine Wn ?_
     obtain⟨⟨E,s9,hm⟩,aj⟩:=hJ.out.lo hL;have f:=aZ 3;exact ex hm (eD _ (ed _ (ed _ (ed _ (ej _))))) 224 rfl f kd rfl rfl ⟨ux,_,rfl,rfl,aj⟩
   · refine Wn ?_
     obtain⟨E,hm,hk⟩:=hJ.out.ms;have f:a.eval (.tmp 5)=.pointer (some ⟨H,0,none⟩):=ev;exact zl 220 (.tmp 5) rfl H 0 f tv _ (ai (hm.own _ (eD _ (ej _))).1) px rfl (by rw[D.out];exact ip) ⟨ux,_,rfl,rfl,hJ.out⟩
   · refine Wn ?_
     obtain⟨E,hm,z⟩:=hJ.out.mk_ hL;have f:=aZ 5;exact iN hm 224 rfl f rfl kd qP D.out (by decide) (by decide) rfl fun ag j=>⟨(ux.1,w'.heap.size),_,rfl,rfl,z _ _ j⟩
   · refine Wn ?_
     obtain⟨E,hm,hk,z⟩:=hJ.out.ap hL (by simp[hpre]) (by simp[hpre]);have f:=aZ 4;have I:=aZ 6;exact fP hm hk 224 rfl kd qP rfl (by decide) D.out f I H1.out (by have:=Y.out;unfold tm;omega) (by have:=Y.out;omega) fun l ag j=>⟨(l,ux.2),_,rfl,rfl,z _ _ j⟩
   · refine Wn ?_
     obtain⟨E,hm,z⟩:=hJ.out.st hL (by simp[hpre]);have f:=aZ 9;have I:=aZ 7;exact eL (L':=E++[(H,tv, 220),(fg,F'.v pl dg, 88)]) (by simpa using hm) 224 rfl f I IT (by show 3<4;decide) (qY (hm.sl (i:=0) rfl)) fun ag j=>⟨ux,r2,rfl,rfl,z _ (by rw[show(plV pl.g fg pp lv).set 3 ux.1=plV pl.g fg pp ux.1 from rfl]at j;simpa using j)⟩
 · intro ux L w' hL hJ
   obtain⟨E,hm,-⟩:=hJ.ms;rw[hL 7 (by decide),hL 10 (by decide)]at hm;have hs:=Ms.Qy hm;clear hm hL hJ;obtain⟨M,b2⟩:=ux;simp only[jd,jm];go_simp;go_wp2_with (refine ma ?_;try (clear hs;intro w hs));have h2:=Ms.less (hs.swap) (L':=(fg,F'.v pl dg, 88)::(dg,[r], 149)::(pk,plV pl.g fg pp M, 265)::(pp,[.slice none 0 0], 295)::Lz) (S':=[⟨90,19,r,F'.JX.length,(ens F'.JX).flatten⟩,⟨220,17,M,n+1,xs++tv⟩]) (l5 _ (fo _ (fo _ (fo _ (fo _ (l5 _ (l5 _ (z7 Lz)))))))) (.refl _);exact js (hs.Qu 5 rfl rfl _ rfl px rfl ip D.out) rfl ⟨rfl,⟨r,M,h2⟩,HQ.out⟩
end
theorem wC(b o n c B:Nat)(f:List (List fj))(w:eX)(j:Rds w B (some ⟨b,o,none⟩) 17 n f)(k:B≤w.heap.size)(q:n≤1000)(l:∀r∈f,∀u∈r,u.oneCell'=true):iP hO 196 #[.slice (some ⟨b,o,none⟩) n c] w fun e g=>
 ∃v,e=.returned v∧OwnRows g w.heap.size 220 17 v n f∧Below w.heap.size w g:=by
 have t:=fun W:eX=>Lib.run_eql_slice_nil (P:= hO) W 224 220 (some ⟨b,o,none⟩) n c 0 0 kd
 have m:OwnRows (w.alloc (.cells #[] 220)) w.heap.size 220 17 (.slice (some ⟨w.heap.size,0,none⟩) 0 0) 0 []:=⟨World.ownsRow_made w #[] 0 (hG _) (by unfold tm;omega) rfl,rfl,by simp⟩;have i:Below w.heap.size w (w.alloc (.cells #[] 220)):=(Below.refl _ _).alloc (hG _) _;have p:Rds (w.alloc (.cells #[] 220)) B (some ⟨b,o,none⟩) 17 n f:=j.below i k;go_enter func196, ntmps196;go_wp2_with (at_builtin;go_must (refine aN rfl (.tmp 5) (.tmp 6) 224 rfl 220 _ 17 24 kd qP rfl (by decide) m i rfl rfl p l (by unfold tm;omega) (by omega) (by simp) (hG _) ?_));exact yck
section
variable {pl:Pl}{nb fg dg pk pp m n k:Nat}{F:Fv}{v lv:fj}{W w:eX}{xs:List fj}{Lz:List Bk}
theorem Je{rows:List (List fj)}(b:Py pl nb fg dg pk pp m F v lv n rows.flatten W w Lz)(l:rows.length=n)(o:∀r∈rows,r.length=17)(p:∀r∈rows,∀u∈r,u.oneCell'=true)(j:0<n∧n≤1000):iP hO 132 #[pk] w fun e q=>∃f h,e=.returned (.slice f n h)∧Below w.heap.size w q:=by
 obtain⟨g,c,i⟩:=b.form 1 rfl j.1;have i:lv=.slice (some ⟨g,0,none⟩) n c:=i;subst i;have c3:=b.cell 2 3 rfl (v:=.slice (some ⟨g,0,none⟩) n c) rfl;have t:=qZ (wC g 0 n c w.heap.size rows w (b.rds 1 rfl l o) (hG _) j.2 p);have B:=xx;clear b;go_enter func132, ntmps132;go_wp2_with fail;refine t.out.mono ?_;rintro e C ⟨u,rfl,z,A⟩;obtain⟨f,h,rfl,-⟩:=eo z.1;go_wp2_with fail;go_ret;exact⟨f,h,rfl,A⟩
theorem IX{b:eX}(c:Py pl nb fg dg pk pp m F v lv n xs W w Lz)(e:Below b.heap.size b W)(f:b.heap.size≤nb):Below b.heap.size b w:=e.trans ⟨c.fr.os,c.fr.tape,c.fr.output,c.fr.size,fun k g=>c.fr.block k (by have:=e.size;omega) fun q=>by omega⟩
theorem yK(b:Py pl nb fg dg pk pp m F v lv n xs W w Lz):iP hO 199 #[pk] w fun e c=>e=.returned pl.g∧w=c:=by
 have c0:=b.cell 2 0 rfl (v:=.pointer (some ⟨pl.g,0,none⟩)) rfl;have f:=xx;clear b;go_enter func199, ntmps199;exact nj
theorem tk(b:Py pl nb fg dg pk pp m F v lv n xs W w Lz):iP hO 200 #[pk] w fun e c=>e=.returned fg∧w=c:=by
 have c0:=b.cell 2 1 rfl (v:=.pointer (some ⟨fg,0,none⟩)) rfl;have f:=xx;clear b;go_enter func200, ntmps200;exact nj
theorem IP: hO.built 223 [(0,.int .i64 4)]=some (stV 4 0 an).toArray:=by kernel_rfl
theorem IV(b:Py pl nb fg dg pk pp m F v lv n xs W w Lz)(g:Fw F (k+1) 0)(h:Fh pl nb m 600)(i:F.D.N.off=false)(j:F.flush.1.whole.2=true)(l:n≤100):iP hO 135 #[pk,.int .i64 50] w fun e A=>e=.returned (.bool true)∧∃G B C D E,Py pl nb fg dg pk pp m G B C D E W A Lz:=by
 have H:=qZ g;have o:=qZ h;have I:=qZ j;have J:=qZ l;have c:=JT.Ja b.a.JT;rw[i]at c;have p:=qZ c;have L:=oG;clear g h j l i c;go_enter func135, ntmps135;go_wp2_with fail;refine(yK b).mono ?_;rintro e f ⟨rfl,rfl⟩;go_wp2_with fail;refine p.out.mono ?_;rintro e f ⟨rfl,rfl⟩;clear p;go_wp2_with fail;refine(tk b).mono ?_;rintro e f ⟨rfl,rfl⟩;go_wp2_with (first|(refine ac rfl 223 _ rfl _ rfl _ IP ?_));refine(AO (Q:=Fw F.flush.1 k 0) b (Es aM.1 _ _) (qN aM.1 _) (vz _ _) J.out fun w v M S b=>Id b H.out o.out).mono ?_;rintro e N ⟨rfl,O,q,r,t⟩;have K:=qZ t;clear b t;go_wp2_with fail;refine(tk r).mono ?_;rintro e f ⟨rfl,rfl⟩;go_wp2_with fail;refine(AM r K.out o.out I.out).mono ?_;rintro e P ⟨rfl,u,z⟩;go_wp2_with fail;go_ret;first|exact⟨rfl,_,u,q,_,_,z⟩|exact⟨_,u,q,_,_,z⟩
end
end dev.pl
namespace dev
open JT (Nd JS Fr Kn Ko)
open JX (KI EFr EUp)
section
variable {da dv:kk→Bool}{A B:eX→Prop}{w w' w0:eX}{base dg:Nat}{v:fj}{L:List Bk}{S:List Sl}
theorem _root_.Go.Proofs.YtlkpfnjdbgeifaaGreat.Ms.LW{l:List En}{i j:Nat}(b:Ms da dv base A B w0 w L S)(g:dv 149 =false)(c:L[i]? =some (dg,[v], 149))(hj:S[j]? =some ⟨90,19,v,l.length,(ens l).flatten⟩)(f:∀e∈l,e.ok):KI w w0.heap.size dg l:=by
 refine⟨⟨v,b.blk c,b.sl hj,by simp[ens],oT f⟩,?_,f⟩;rcases(b.own _ (List.mem_of_getElem? c)).2.2.2 with h|h
 · simp_all
 omega
theorem _root_.Go.Proofs.YtlkpfnjdbgeifaaGreat.Ms.JX{l b:List En}(m:da 149 =false)(c:da 90 =false)(hs:Ms da dv base A B w0 w ((dg,[v], 149)::L) (⟨90,19,v,l.length,(ens l).flatten⟩::S))(e:KI w' w0.heap.size dg b)(n:EUp dg w w'):∃v',Ms da dv base A B w0 w' ((dg,[v'], 149)::L) (⟨90,19,v',b.length,(ens b).flatten⟩::S):=by
 obtain⟨v',o,h2⟩:=e.head;have f:=hs.blk (i:=0) rfl;obtain⟨f1,f2⟩:=n v v' f o;have r:=e.low;have g:=hs.sls _ (kr ..);have t:=hs.le;have hs0:Ms da dv base A B w0 w L S:=hs.less (l8 ..) (l8 ..)
 have hs1:Ms da dv base A B w0 w' L S:=hs0.keep f1 (fun x hx q=>by
  rcases q with q|q
  · exact(gg.1 hs.srt).1 x hx q.symm
  grind) (fun s hs' k hk q=>by
  rcases q with q|q
  · exact yfo
  · exact(gg.1 hs.sps).1 s hs' k q hk) (fun k hk q=>by
  rcases q with q|q
  · omega
  · obtain⟨cur,-,u⟩:=br g.1 q
    omega) (hs.sa _ _ ⟨f1.os,f1.tape,f1.output,f1.size,fun k hk p=>f1.block k hk fun q=>p (by
  rcases q with q|q
  · rw[q];exact gQ f m
  · obtain⟨cur,q1,-⟩:=br g.1 q
    exact gQ q1 c)⟩ hs.a) hs0.sa
 refine⟨v',hs1.sub,fun x hx=> ?_,gg.2 ⟨(gg.1 hs.srt).1,hs1.srt⟩,fun s hs'=> ?_,gg.2 ⟨fun s hs' k hk=> ?_,hs1.sps⟩,hs1.fr,hs1.le,hs1.sa,hs1.sb,hs1.a,hs1.b⟩
 · rcases jg.1 hx with rfl|hx
   · grind
   · exact hs1.own x hx
 · rcases jg.1 hs' with rfl|hs'
   · refine⟨h2.1,c,fun x hx q=> ?_⟩
     exact yb3
   · exact ycg
 · exact ycu
end
end dev
theorem yfa{A:Prop}(h:A:=by
 clear HR;go_wp2_with fail;go_ret;rw[HE.out];first|exact⟨rfl,rfl⟩|rfl):A:=h
namespace dev
def OX(k m:Int):Int:=if k.tmod m<0 then-(k.tmod m)else k.tmod m
theorem y8(k m:Int)(l: -9223372036854775808≤k∧k≤9223372036854775807)(c:0<m∧m≤1000)(w:eX):iP hO 19 #[.int .i64 k,.int .i64 m] w fun e g=>e=.returned (.int .i64 (OX k m))∧w=g:=by
 have n:m≠0:=by omega
 have i:k.tmod m<m:=Int.tmod_lt_of_pos _ c.1
 have j: -m<k.tmod m:=by
  have:=Int.tmod_lt_of_pos (-k) c.1;rw[Int.neg_tmod]at this;omega
 have HR:=qZ (show OX k m=if k.tmod m<0 then-(k.tmod m)else k.tmod m from rfl);obtain⟨t,b⟩:∃t,t=k.tmod m:=⟨_,rfl⟩;rw[←b]at i j HR;go_enter func19, ntmps19;go_upto_region 2 with fail
 simp only[←b];clear b;by_cases f:t<0
 · have HE:=qZ (HR.out.trans (if_pos f))
   exact yfa
 · have HE:=qZ (HR.out.trans (if_neg f))
   exact yfa
end dev
end Go.Proofs.YtlkpfnjdbgeifaaGreat
