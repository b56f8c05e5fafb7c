import Derived.Test.YtlkpfnjdbgeifaaGreatFBegun7
import Derived.Test.YtlkpfnjdbgeifaaGreatFMountMs
import Derived.Test.YtlkpfnjdbgeifaaGreatFModel
set_option linter.unusedSimpArgs false
set_option linter.unusedVariables false
set_option maxRecDepth 100000
set_option maxHeartbeats 16000000
open Go.Region renaming wanted→ed
open List.Sublist renaming cons_cons→ej,cons→jg,refl→kb
open Nat renaming add_le_add_right→ek,le_refl→hZ,le_trans→jd,zero_le→kk
open Go.Proofs.Tryz renaming prog→eD,underlying116→hX,underlying90→lx,underlying35→ly
open Go renaming World→eX,Value→gg,Calls→hG,run_eql_pointer_nil→kn,bodyPost_ret→kr,wpList→l5,TypeId→nr,Program→pn,Oper→px,undef→py
open Go.Value renaming agg→fj,bool→o4,int→ps
open List renaming all_eq_true→fo,cons_append→js,nil_append→jt,mem_singleton→jw,append_eq→jI,perm_append_comm→kd,mem_cons→l8
open Prod.mk renaming injEq→hO
open Array renaming range→iP
open Go.Instr renaming fill→jm
open Prod renaming ext→l4
namespace Go.Proofs.YtlkpfnjdbgeifaaGreat
open Go.Proofs.Tryz
open Go.RowKit
namespace dev
open JT (Nd JS Ko Flt Fr)
open tal (Ty Kb)
open tab (Tb JZ At6)
section
variable {w w':eX}{pl:Pl}{m m' c:Nat}{D:Dv}
theorem Kk.QD(h:Kk w pl m c D){N:Nd}(l:JS w' pl.base pl.g m' N)(b:Fr pl.base pl.g w w')(p:N.ops=D.N.ops)(f:N.D=D.N.D∧N.B=D.N.B∧N.P=D.N.P)(n:Wo N):Kk w' pl m' c {D with N:=N}∧DFr pl.base w w':=by
 obtain⟨i,q,e⟩:=h.tab;obtain⟨a1,a2⟩:=dE e;have g:=e.lt;have j:=h.tal.lt;refine⟨⟨l,⟨h.tal.ok,(b.block _ j.1 (.inr ⟨_,_,_,h.tal.head,rfl⟩)).trans h.tal.head,(b.block _ j.2 (.inr ⟨_,_,_,h.tal.rows,rfl⟩)).trans h.tal.rows⟩,⟨i,by show i≤c+3*N.ops;omega,e.same fun k o=> ?_⟩,(b.block _ (af h.pen) (.inr ⟨_,_,_,h.pen,rfl⟩)).trans h.pen,h.low,h.maps,?_,n⟩,DFr.Nl (gU (fun _=>bD) (Go.Proofs.YtlkpfnjdbgeifaaGreat.dev.Fr.dvc b))⟩
 · rcases o with rfl|rfl|rfl
   · exact b.block _ g.1 (.inr ⟨_,_,_,e.head,rfl⟩)
   · exact b.maps _ g.2.1 h.maps.1 a1
   · exact b.maps _ g.2.2 h.maps.2 a2
 · obtain⟨s1,s2,s3⟩:=h.same
   exact⟨s1.trans f.1.symm,s2.trans f.2.1.symm,s3.trans f.2.2.symm⟩
theorem Mw.dv2{e:eX}{base:Nat}{b:Dv}{B:eX→Prop}{L:List Bk}{S:List Sl}(f:Mw pl base m c D B e w L S)(g:base≤pl.base)(h:Kk w' pl m' c b)(i:DFr pl.base w w'):Mw pl base m' c b B e w' L S:=
 f.dev (A':=fun w=>Kk w pl m' c b) (oV g i.dvc) h (fun _ _ j a=>a.chg j)
theorem Mw.begin{b:eX}(h:Kk w pl m c D)(e:Below b.heap.size b w):Mw pl b.heap.size m c D (fun _=>True) b w [] []:=by
 have f:Ms Kx Kx b.heap.size (fun _=>True) (fun _=>True) b b [] []:=Ms.start (fun _ h=>h) (hZ _) (fun _ _ _ _=>trivial) (fun _ _ _ _=>trivial) trivial trivial;exact(f.below e).dev (A':=fun w=>Kk w pl m c D) (Kj.refl _ _) h (fun _ _ g a=>a.chg g)
end
section
open b18
end
section
variable {P:pn}{ops:Array px}{Q:Exit→Act→eX→Prop}{rest:List px}{o:px}{a:Act}{da dv:nr→Bool}{base:Nat}{A B:eX→Prop}{w0 w:eX}{L:List Bk}{S:List Sl}
theorem pC(m:Ms da dv base A B w0 w L S)(t:nr){len:Nat}{aT:Array (Nat×Operand)}(n:ed o (yielded ops a.tmps)=true)(q:o.op=.buildSlice t len aT){e:nr}{z:gg}{C:Nat}(b:List gg)(r:P.underlying t=some (.slice e))(c:(P.info? e).map (fun i=>(i.zero,i.size))=some (some z,C))(H:len*C≤10000)(I:0<len*C)(j:List (Nat×gg))(u:aT.toList.map (fun p=>(p.1,a.eval p.2))=j)(D:jm (fun i=>some (i*C,C)) ((iP (len*C)).map (z.cells[· %z.cells.size]!)) j=some b.toArray)(E:da e=false)(h:∀k,Ms da dv base A B w0 k ((w.heap.size,b,e)::L) S→l5 P ops Q rest (a.put o.dst (.slice (some ⟨w.heap.size,0,none⟩) len len)) k):l5 P ops Q (o::rest) a w:=by
 cases f:P.info? e with
 |none=>rw[f]at c;cases c
 |some i=>
  rw[f]at c;have l:=Option.some.inj c;have G:i.zero=some z:=congrArg Prod.fst l;have g:i.size=C:=congrArg Prod.snd l;unfold l5;rw[if_pos n];refine .inl (wp_buildSlice t e len aT q b.toArray i z r f G (by rw[g];omega) (by rw[g];omega) ?_ (h _ (m.alloc b e E)));rw[g,←D,←u];simp
end
section
open b18
theorem qU{c:Func}{t u v x:Tmp}(h:c.results= #[.tmp t,.tmp u,.tmp v,.tmp x])(b:Array gg)(P:pn)(w:eX):(results c b).run P w=.ok (.tuple #[b.getD t py,b.getD u py,b.getD v py,b.getD x py]) w:=by
 simp[results,h]
theorem JG(l s:Nat): eD.built 35 [(0,.int .u8 (l:Int)),(1,.int .u8 (s:Int)),(2,.int .u8 0),(3,.int .u8 7)]=some (An .u8 [l,s,0,7,0,0,0,0,0,0,0,0,0,0,0,0]).toArray:=by kernel_rfl
theorem JF(l s:Nat): eD.built 90 [(0,.int .i64 (l:Int)),(1,.int .i64 (s:Int)),(2,.int .i64 1),(3,.agg (An .u8 [l,s,0,7,0,0,0,0,0,0,0,0,0,0,0,0]).toArray)]=some (b18.en l s).v.toArray:=by kernel_rfl
theorem kB(l s:Nat)(i:l<100)(b:s<100)(w:eX):hG eD 234 #[(l:Int),(s:Int)] w fun e f=>e=.returned (.agg (b18.en l s).v.toArray)∧Below w.heap.size w f:=by
 have hs:=Mr.start w;have c1:IntKind.u8.wrap (l:Int)=(l:Int):=by rw[JT.wrap_u8];congr 1;omega
 have c2:IntKind.u8.wrap (s:Int)=(s:Int):=by rw[JT.wrap_u8];congr 1;omega
 have c3:(s:Int)/256=0:=by omega
 have c4:(s:Int)>>>8=0:=by rw[Int.shiftRight_eq_div_pow];omega
 have g:=qZ (show(b18.en l s).v.length=19 from rfl);clear b;go_enter func234, ntmps234;go_wp2_with (first|(refine ma ?_;try (clear hs;intro w hs))|(refine ac rfl 35 _ rfl [(0,.int .u8 (l:Int)),(1,.int .u8 (s:Int)),(2,.int .u8 0),(3,.int .u8 7)] rfl _ (JG l s) ?_)|(refine ac rfl 90 _ rfl [(0,.int .i64 (l:Int)),(1,.int .i64 (s:Int)),(2,.int .i64 1),(3,.agg (An .u8 [l,s,0,7,0,0,0,0,0,0,0,0,0,0,0,0]).toArray)] rfl _ (JF l s) ?_));exact kr (hs.Qu 0 rfl rfl _ rfl lx rfl aV g.out) rfl ⟨rfl,hs.out⟩
theorem Ab(f:eX):hG eD 233 #[.agg ([.int .i64 3,.int .i64 8,.int .i64 2]:List gg).toArray,.int .i64 20] f fun e H=>∃pl:Pl,e=.returned (.tuple #[pl.g,pl.tg,pl.lg,pl.pg])∧f.heap.size≤pl.base∧Kk H pl 0 0 D0∧Below f.heap.size f H:=by
 have hs:Ms Kx Kx f.heap.size (fun _=>True) (fun _=>True) f f [] []:=Ms.start (fun _ h=>h) (hZ _) (fun _ _ _ _=>trivial) (fun _ _ _ _=>trivial) trivial trivial;have U:=qZ (show([.int .i64 3,.int .i64 8,.int .i64 2]:List gg).length=3 from rfl);go_enter func233, ntmps233;go_upto_region 1 with(refine ma ?_;try (clear hs;intro w hs))
 go_wp2_with (refine ma ?_;try (clear hs;intro w hs));obtain⟨nb,I⟩:∃nb,nb=w.heap.size:=⟨_,rfl⟩;have N:=hs.size;have J:hG eD 29 #[.agg ([.int .i64 3,.int .i64 8,.int .i64 2]:List gg).toArray] w _:=JT.mR w 3 8 2 (by decide);refine J.mono ?_;rintro e j ⟨g,rfl,z,b⟩;rw[←I]at z;replace hs:=(hs.below b).dev (A':=fun w=>JS w nb g 0 (Nd.new 3 8 2)) (Kj.refl _ _) z (fun _ _ i a=>JS.chg (fun _=>bD) a i);have O:=qZ (show f.heap.size≤nb∧nb≤j.heap.size by have:=b.size;omega);clear z b J I N;go_wp2_with (refine ma ?_;try (clear hs;intro w hs));have m:hG eD 103 #[.agg ([.int .i64 3,.int .i64 8,.int .i64 2]:List gg).toArray] j _:=tal.mR j 3 8 2 (by decide);refine m.mono ?_;rintro e k ⟨l,n,rfl,o,B,D,b⟩;have P:=hs.a.lt;replace hs:=(hs.below b).dev (A':=fun w=>JS w nb g 0 (Nd.new 3 8 2)∧Kb w l n (Ty.new 3 8 2)) (Kj.refl _ _) ⟨(hs.below b).a,o⟩ (fun _ _ i a=>⟨JS.chg (fun _=>bD) a.1 i,Kb.chg rfl rfl a.2 i⟩);have Q:=qZ (show j.heap.size≤l∧j.heap.size≤n∧g<j.heap.size∧j.heap.size≤k.heap.size by have:=b.size;omega);clear o B D b m P;go_wp2_with fail;have m:hG eD 95 #[.int .i64 20] k _:=tab.mR k 20 (by decide);refine m.mono ?_;rintro e E ⟨p,q,r,rfl,o,B,D,R,b⟩;replace hs:=(hs.below b).dev (A':=fun w=>(JS w nb g 0 (Nd.new 3 8 2)∧Kb w l n (Ty.new 3 8 2))∧JZ w p q r 0 ⟨20,[],1⟩) (Kj.refl _ _) ⟨(hs.below b).a,o⟩ (fun _ _ i a=>⟨⟨JS.chg (fun _=>bD) a.1.1 i,Kb.chg rfl rfl a.1.2 i⟩,JZ.chg rfl a.2 i⟩);have S:=qZ (show k.heap.size≤p∧k.heap.size≤q∧k.heap.size≤r∧k.heap.size≤E.heap.size by have:=b.size;omega);clear o B D R b m;go_wp2_with fail;obtain⟨t,L⟩:∃t,t=E.heap.size:=⟨_,rfl⟩;refine(nP E g l p 1 (by decide) (by decide)).mono ?_;rintro e V ⟨rfl,M,b⟩;rw[←L]at M;replace hs:=hs.below b;clear b;go_wp2_with fail;rw[←L];have T:=O.out;have W:=Q.out;have X:=S.out;refine kr (qU rfl _ _ _) rfl ⟨(⟨nb,g,l,n,p,q,r,t⟩:Pl),rfl,T.1,?_,hs.out⟩
 · exact⟨hs.a.1.1,hs.a.1.2,⟨0,kk _,hs.a.2⟩,M,⟨by show nb≤l;omega,by show nb≤n;omega,by show nb≤p;omega,by show nb≤q;omega,by show nb≤r;omega,by show nb≤t;omega⟩,⟨by show g<q;omega,by show g<r;omega⟩,⟨rfl,rfl,rfl⟩,fun _ _=>kk _⟩
end
end dev
namespace dev.b11
open dev
open JT (Nd JS Ko Flt Fr)
def W1:=Kl (Nd.new 3 8 2) 1 0 7 es1
def f0:Flt:=⟨0,4,0,0,0,0,0⟩
def N2:Nd:=W1.1.KF f0
theorem t1:(W1.2.1,W1.2.2)=(0,0):=by decide+kernel
theorem t2:((look W1.1 ⟨0,1,0⟩).1.l,(look W1.1 ⟨0,1,0⟩).2,(look W1.1 ⟨0,2,0⟩).2)=(3,1,2):=by decide+kernel
theorem t3:((Km N2 1 0 0 7).1.l,(Km N2 1 0 0 7).1.s,(Km N2 1 0 0 7).1.r,(Km N2 1 0 0 7).1.d,(Km N2 1 0 0 7).2)=(3,9,1,D1,0):=by decide+kernel
theorem t4:((KK N2 1 0).map fun f=>(f.whole,f.mended,f.m))=[(true,true,7)]:=by decide+kernel
theorem t5:(Nx N2 1 0).length=1:=by decide+kernel
theorem t3v:(Km N2 1 0 0 7).1.v=enV 3 9 1 D1:=by
 have h:=t3;simp only[hO]at h;obtain⟨b,c,e,f,-⟩:=h;unfold En.v;rw[b,c,e,f]
theorem t3e:(Km N2 1 0 0 7).2=0:=by have h:=t3;simp only[hO]at h;exact h.2.2.2.2
theorem t4f:∃f,KK N2 1 0=[f]∧f.whole=true∧f.mended=true∧f.m=7:=by
 have h:=t4;cases b:KK N2 1 0 with
 |nil=>rw[b]at h;cases h
 |cons f l=>
  rw[b]at h;cases l with
  |nil=>
   have h:=List.head_eq_of_cons_eq h;simp only[hO]at h;exact⟨f,rfl,h.1,h.2.1,h.2.2⟩
  |cons x y=>simp at h
theorem OV:(eD.info? 90).map (fun i=>(i.zero,i.size))=some (some (.agg (enV 0 0 0 an).toArray),19):=by kernel_rfl
theorem FA:jm (fun i=>some (i*19,19)) ((iP (2*19)).map ((fj (enV 0 0 0 an).toArray).cells[· %(fj (enV 0 0 0 an).toArray).cells.size]!)) [(0,.agg (enV 3 9 1 D1).toArray),(1,.agg (enV 0 0 3 an).toArray)]=some (ens es1).flatten.toArray:=by kernel_rfl
theorem ad1: eD.built 52 [(0,.int .i64 0),(1,.int .i64 1)]=some ([.int .i64 0,.int .i64 1,.int .i64 0]:List gg).toArray:=by kernel_rfl
theorem ad2: eD.built 52 [(0,.int .i64 0),(1,.int .i64 2)]=some ([.int .i64 0,.int .i64 2,.int .i64 0]:List gg).toArray:=by kernel_rfl
theorem ad0: eD.built 52 [(0,.int .i64 0)]=some ([.int .i64 0,.int .i64 0,.int .i64 0]:List gg).toArray:=by kernel_rfl
theorem fl0: eD.built 75 [(1,.int .i64 4),(2,.agg ([.int .i64 0,.int .i64 0,.int .i64 0]:List gg).toArray)]=some f0.v.toArray:=by kernel_rfl
theorem pl0: eD.built 94 [(0,.int .i64 1)]=some ([.int .i64 1,.int .i64 0,.int .i64 0]:List gg).toArray:=by kernel_rfl
theorem ge0: eD.built 23 [(0,.int .i64 3),(1,.int .i64 8),(2,.int .i64 2)]=some ([.int .i64 3,.int .i64 8,.int .i64 2]:List gg).toArray:=by kernel_rfl
theorem W0w:wfI 0:=begun13.wf0 (by decide)
theorem W1w:wfI 1:=begun13.wf0 (by decide)
theorem JE:f0.wf:=⟨rfl,rfl,⟨rfl,rfl,rfl⟩,rfl,rfl⟩
theorem P6(n:eX):hG eD 262 #[] n fun e U=>e=.returned (.bool true)∧Below n.heap.size n U:=by
 have ae:=JT.JY;have q2:=Dd;have D:=t1;simp only[hO]at D;have E:=qZ D;have H:=t2;simp only[hO]at H;have t:=qZ H;have N:=qZ (show tot (Nd.new 3 8 2)+1002≤1000000000000000 by decide);clear D H;go_enter func262, ntmps262;go_wp2_with (first|(refine ac rfl 23 _ rfl _ rfl _ ge0 ?_));have O:hG eD 29 #[.agg ([.int .i64 3,.int .i64 8,.int .i64 2]:List gg).toArray] n _:=JT.mR n 3 8 2 (by decide);refine O.mono ?_;rintro e V ⟨g,rfl,m,j⟩;have hs:=Mn.start m j;clear m j O;go_upto_region 5 with(first|(refine ac rfl 35 _ rfl _ rfl _ u9 ?_)|(refine ac rfl 90 _ rfl _ rfl _ kI ?_)|(obtain⟨k2,P⟩:∃k,k=V.heap.size:=⟨_,rfl⟩;refine az hs 90 rfl rfl _ (enV 0 0 0 an) jK rfl rfl ?_;clear hs;intro w hs;simp only[←P]at hs⊢;clear P)|(refine ma ?_;try (clear hs;intro w hs)))
 go_wp2_with (first|(refine ma ?_;try (clear hs;intro w hs))|(refine ac rfl 90 _ rfl _ rfl _ gY ?_)|(refine dD hs 116 rfl rfl (ens es1).flatten hX OV (by decide) (by decide) _ rfl FA rfl ?_;clear hs;intro w hs));have W:=hs.size;have l:=dS hs.a (by omega) 1 0 7 W1w W0w es1 CZ (c:=2) (hs.Ou 0 rfl rfl um (by decide) rfl) (by decide) N.out;rw[show(Kl (Nd.new 3 8 2) 1 0 7 es1).2.1=0 from E.out.1,show(Kl (Nd.new 3 8 2) 1 0 7 es1).2.2=0 from E.out.2]at l;refine l.mono ?_;rintro e X ⟨rfl,m,p⟩;replace hs:Mn g 0 W1.1 n X [_] []:=(Mn.step hs m p).drop 1;clear m p l W E N;go_wp2_with (first|(refine ac rfl 52 _ rfl _ rfl _ ad1 ?_));refine(kt hs.a ⟨0,1,0⟩ ⟨rfl,rfl,rfl⟩).mono ?_;rw[t.out.2.1];rintro e Y ⟨rfl,j⟩;replace hs:=hs.below j;clear j;obtain⟨x,z⟩:∃x,x=(look W1.1 ⟨0,1,0⟩).1:=⟨_,rfl⟩;have Q:=qZ (show x.ok by rw[z];exact fW hs.a.ok _);have af:=qZ (bi Q.out);have Z:=qZ (show x.v[17]? =some (.int .i64 3) by rw[show(17:Nat)=1+16 from rfl,cJ x Q.out 1];show some (ps .i64 x.l)=_;rw[z,t.out.1]);rw[←z];clear z;go_upto_region 7 with(first|(obtain⟨k5,R⟩:∃k,k=Y.heap.size:=⟨_,rfl⟩;refine az hs 62 rfl rfl _ (shV an 0 0 0 0 0 0 0) rQ rfl rfl ?_;clear hs;intro w hs;simp only[←R]at hs⊢;clear R)|(refine ma ?_;try (clear hs;intro w hs)))
 go_wp2_with (first|(refine ac rfl 52 _ rfl _ rfl _ ad2 ?_));refine(kt hs.a ⟨0,2,0⟩ ⟨rfl,rfl,rfl⟩).mono ?_;rw[t.out.2.2];rintro e w4 ⟨rfl,j⟩;replace hs:=hs.below j;clear j;obtain⟨y,I⟩:∃y,y=(look W1.1 ⟨0,2,0⟩).1:=⟨_,rfl⟩;have ag:=qZ (show y.v.length=23 by rw[I];exact bi (fW hs.a.ok _));rw[←I];clear I t;go_upto_region 8 with(refine ma ?_;try (clear hs;intro w hs))
 replace hs:Mn g 0 W1.1 n w [_,_] []:=hs.drop 1;go_wp2_with (first|(refine ac rfl 52 _ rfl _ rfl _ ad0 ?_)|(refine ac rfl 75 _ rfl _ rfl _ fl0 ?_));refine(CY hs.a f0 JE (.inr rfl) (by decide)).mono ?_;rintro e w5 ⟨rfl,m,p⟩;replace hs:=Mn.step hs m p;rw[show W1.1.KF f0=N2 from rfl]at hs;clear m p;go_wp2_with (first|(refine ac rfl 94 _ rfl _ rfl _ pl0 ?_));have l:=dH hs.a 1 0 0 7 W1w W0w W0w;rw[t3e,t3v]at l;refine l.mono ?_;rintro e w6 ⟨rfl,j⟩;replace hs:=hs.below j;clear j l;go_upto_region 10 with(first|(obtain⟨k9,S⟩:∃k,k=w6.heap.size:=⟨_,rfl⟩;refine az hs 90 rfl rfl _ (enV 0 0 0 an) jK rfl rfl ?_;clear hs;intro w hs;simp only[←S]at hs⊢;clear S)|(refine ma ?_;try (clear hs;intro w hs)))
 obtain⟨f,T,aa,ab,ad⟩:=t4f;have J:f.e.ok:=(vh hs.a.ok (b:=1) (r:=0) (by decide) (by decide) (show f∈KK N2 ((1:Nat):Int) ((0:Nat):Int) by rw[show KK N2 ((1:Nat):Int) ((0:Nat):Int)=[f]from T];exact jw.2 rfl)).e;go_wp2_with fail;have l:=nI hs.a 1 0 W1w W0w;rw[T]at l;refine l.mono ?_;rintro e w7 ⟨u,rfl,o⟩;replace hs:=hs.join o o.out (fun s q=>by simp at q;subst q;rfl);clear o l;obtain⟨B,cf,hu⟩:=hs.form 0 rfl (by simp);have hu:u=.slice (some ⟨B,0,none⟩) 1 cf:=hu;subst hu;go_upto_region 11 with fail
 simp only[jI,js,jt];go_wp2_with fail;refine(begun13.O2 _).mono ?_;rintro e w8 ⟨rfl,j⟩;replace hs:=hs.below j;clear j;go_wp2_with fail;refine(begun13.Pb _).mono ?_;rintro e L ⟨rfl,j⟩;replace hs:=hs.below j;clear j;have ah:=hs.cell 1 17 rfl Z.out;have M:(fds [f]).flatten=f.v:=by simp[fds]
 have aj:L.cell? ⟨B,24,none⟩=some (.bool true):=hs.OJ 0 24 rfl (by show(fds [f]).flatten[24]? =_;rw[M,oR f J 5];show some (o4 f.mended)=_;rw[ab]);have ak:L.cell? ⟨B,23,none⟩=some (.bool true):=hs.OJ 0 23 rfl (by show(fds [f]).flatten[23]? =_;rw[M,oR f J 4];show some (o4 f.whole)=_;rw[aa]);have al:L.cell? ⟨B,22,none⟩=some (.int .i64 7):=hs.OJ 0 22 rfl (by show(fds [f]).flatten[22]? =_;rw[M,oR f J 3];show some (ps .i64 f.m)=_;rw[ad]);go_wp2_with (first|(refine au 90 (.tmp 9) rfl k9 0 rfl (by first|rfl|(simp[ed];done)|(go_simp;done)) (enV 3 9 1 D1) _ (ai (hs.blk (i:=0) rfl)) lx rfl (bo rfl _ _ _) ?_)|(refine au 90 (.tmp 2) rfl k2 0 rfl (by first|rfl|(simp[ed];done)|(go_simp;done)) (enV 3 9 1 D1) _ (ai (hs.blk (i:=2) rfl)) lx rfl (bo rfl _ _ _) ?_));refine(qh hs.a 1 0 W1w W0w).mono ?_;rw[t5];rintro e wz ⟨u,rfl,o⟩;obtain⟨A9,c9,hu,-,-⟩:=o.slice 0 rfl;have hu:u=.slice A9 1 c9:=hu;subst hu;replace hs:=hs.join o o.out (fun s q=>by simp at q;subst q;rfl);exact yfj
end dev.b11
namespace dev.b21
open dev
open dev.pl (Py tV stV)
open dev.mo (pgm)
open JT (Nd JS Ko Fr)
theorem bd(x:Nat): eD.built 35 [(0,.int .u8 (x:Int))]=some (An .u8 (da x)).toArray:=by kernel_rfl
theorem bd7: eD.built 35 [(0,.int .u8 7)]=some (An .u8 (da 7)).toArray:=by kernel_rfl
theorem bd9: eD.built 35 [(0,.int .u8 9)]=some (An .u8 (da 9)).toArray:=by kernel_rfl
theorem bd1: eD.built 35 [(0,.int .u8 1)]=some (An .u8 (da 1)).toArray:=by kernel_rfl
theorem bd2: eD.built 35 [(0,.int .u8 2)]=some (An .u8 (da 2)).toArray:=by kernel_rfl
theorem sw9: eD.built 223 [(0,.int .i64 2),(1,.int .i64 0),(2,.agg (An .u8 (da 9)).toArray)]=some (stV 2 0 (da 9)).toArray:=by kernel_rfl
theorem sr0: eD.built 223 [(0,.int .i64 1),(1,.int .i64 0)]=some (stV 1 0 an).toArray:=by kernel_rfl
section
variable {P:pn}{ops:Array px}{Q:Exit→Act→eX→Prop}{rest:List px}{o:px}{a:Act}{w:eX}
theorem bJ(t:nr)(aT:Array (Nat×Operand))(c:ed o (yielded ops a.tmps)=true)(e:o.op=.build t aT)(b:List (Nat×gg))(f:aT.toList.map (fun p=>(p.1,a.eval p.2))=b)(cells:Array gg)(g:P.built t b=some cells)(h:l5 P ops Q rest (a.put o.dst (.agg cells)) w):l5 P ops Q (o::rest) a w:=by
 unfold l5;rw[if_pos c];exact .inl (ba t aT e b f cells g h)
end
theorem qX(w:eX):hG eD 136 #[.agg ([.int .i64 3,.int .i64 8,.int .i64 2]:List gg).toArray] w fun e f=>e=.returned (.int .i64 616)∧Below w.heap.size w f:=by
 have hs:=Mr.start w;go_enter func136, ntmps136;go_wp2_with (refine ma ?_;try (clear hs;intro w hs));refine(dW 3 8 2 _).mono ?_;rw[show Oc 3 8 2=true from by decide];rintro e g ⟨rfl,b⟩;replace hs:=hs.below b;clear b;go_wp2_with (refine ma ?_;try (clear hs;intro w hs));go_ret;exact⟨rfl,hs.out⟩
theorem W0w:wfI 0:=bw (by decide) (by decide)
theorem W1w:wfI 1:=bw (by decide) (by decide)
theorem W2w:wfI 2:=bw (by decide) (by decide)
theorem W3w:wfI 3:=bw (by decide) (by decide)
theorem fh{nb:Nat}(pl:Pl)(h:nb≤pl.base):Fh pl nb 0 600:=⟨h,by decide,by decide⟩
theorem wf0{nb:Nat}{g:Nat}{w:eX}(b:JS w nb g 0 N0):Fw F0 20 0:=by
 have h:=oF (N:=N0) b.ok (fun f c=>fo.1 k0.2.2.1 f c) k0.2.1 k0.1 (k:=20) (by rw[k0.2.2.2];decide) (by decide);rw[eF0]at h;exact h
theorem PV(aK:∀w:eX,hG eD 133 #[] w fun e O=>e=.returned (.bool true)∧Below w.heap.size w O)(E:eX):hG eD 82 #[] E fun e O=>e=.returned (.bool true)∧Below E.heap.size E O:=by
 have a8:=oG;have aL:=fun w:eX=>mo.oS w (da 7) (da 7) (fN (by decide)).2 (fN (by decide)).2 rfl rfl
 have aN:=fun w:eX=>mo.oS w (da 9) (da 9) (fN (by decide)).2 (fN (by decide)).2 rfl rfl
 rw[show(da 7==da 7)=true from by decide]at aL;rw[show(da 9==da 9)=true from by decide]at aN;have ae:=qZ (show(An .u8 (da 7)).length=16 from rfl);have aP:=qZ (show(An .u8 (da 9)).length=16 from rfl);have T:∀r∈ [an,da 1],r.length=16∧∀y∈r,y<256:=by intro r o;simp at o;rcases o with rfl|rfl;exact aM;exact fN (by decide)
 have a9:=qZ (show(An .u8 an).length=16 from rfl);go_enter func82, ntmps82;go_wp2_with (first|(refine ac rfl 23 _ rfl _ rfl _ b11.ge0 ?_));have m:hG eD 29 #[.agg ([.int .i64 3,.int .i64 8,.int .i64 2]:List gg).toArray] E _:=JT.mR E 3 8 2 (by decide);refine m.mono ?_;rintro e R ⟨g,rfl,p,l⟩;obtain⟨nb,U⟩:∃nb,nb=E.heap.size:=⟨_,rfl⟩;rw[←U]at p l;have aQ:=qZ l;have aR:=qZ U;have af:=qZ (wf0 p);have V:nb≤g∧g<R.heap.size:=⟨by obtain⟨ba,-,h⟩:=p;exact h.Nv.1,p.lt⟩;have HG:=qZ V;clear m l U;go_wp2_with fail;refine(fx (N:=N0) p k0.2.1 V (fun _ _=>kk _) (fun f t=>fo.1 k0.2.2.1 f t) (by rw[k0.2.2.2];decide) (by decide) k0.1).mono ?_;rw[eF0];rintro e w2 ⟨J,W,tg,aS,lg,mb,cb,pk,rfl,hs,-,-⟩;clear p V;obtain⟨pl,X⟩:∃pl,pl=(⟨nb,g,tg,aS,lg,mb,cb,pk⟩:Pl):=⟨_,rfl⟩;rw[←X]at hs;have z:=qZ (show nb≤pl.base∧pl.base=nb∧pl.g=g by rw[X];exact⟨hZ _,rfl,rfl⟩);clear X;go_wp2_with (first|(refine ac rfl 35 _ rfl _ rfl _ bd7 ?_));refine(nl hs af (fh pl z.1) 1 W1w (fN (x:=7) (by decide))).mono ?_;rw[k1.1,eF1];rintro e w3 ⟨rfl,v,q,B⟩;replace hs:=q;go_wp2_with fail;refine(Ej hs B (fh pl z.1) 2 W2w).mono ?_;rw[k1.2.1,eF2];rintro e w4 ⟨rfl,v,q,B⟩;replace hs:=q;go_wp2_with (first|(refine ac rfl 35 _ rfl _ rfl _ bP ?_));refine(nl hs B (fh pl z.1) 3 W3w aM).mono ?_;rw[k1.2.2,eF3];rintro e w5 ⟨rfl,v,q,B⟩;replace hs:=q;have Y:=qZ B;clear B q;go_wp2_with fail;refine(xp hs Y 1 W1w).mono ?_;rw[k3.1,vp k3.2.1];rintro e w6 ⟨rfl,q⟩;replace hs:=q;clear q;obtain⟨S,ag⟩:∃k,k=w6.heap.size:=⟨_,rfl⟩;go_upto_region 8 with(refine ma ?_;try (clear hs;intro w hs))
 simp only[←ag]at hs⊢;clear ag;replace hs:=Mw.mid (P:=[(_,_,_)]) hs;go_wp2_with fail;refine(oL hs Y (fh pl z.1)).mono ?_;rw[k3.2.2,eF4];rintro e w7 ⟨rfl,v,q,B⟩;replace hs:=q;clear q B Y;go_wp2_with fail;have m:=JT.Ih hs.a.JT (-1) 0 (by decide);rw[show pl.g=g from z.out.2.2]at m;refine m.mono ?_;rintro e w8 ⟨rfl,p,t⟩;rw[←z.out.2.2]at p t;obtain⟨Z,q2,q3⟩:=Qc F4.D.N (-1) 0;obtain⟨L,M⟩:=hs.a.QD p t Z q2 (fun d aT=>by rw[q3,Z];exact hs.a.KP d aT);replace hs:Mv pl nb J W 0 600 F5 v (fun _=>True) R w8 [(S,An .u8 (da 7), 35)] []:=Mw.dv hs z.1 L M;clear m p t Z q2 q3 L M;go_wp2_with fail;refine(lQ hs k5.2 1).mono ?_;rw[k5.1];rintro e w9 ⟨rfl,q⟩;replace hs:=q;clear q;go_upto_region 11 with(refine ma ?_;try (clear hs;intro w hs))
 replace hs:=hs.drop 1;go_wp2_with fail;have m:=JT.Jk hs.a.JT;rw[show pl.g=g from z.out.2.2]at m;refine m.mono ?_;rintro e wa ⟨rfl,p,t⟩;rw[←z.out.2.2]at p t;obtain⟨L,M⟩:=hs.a.QD p t rfl ⟨rfl,rfl,rfl⟩ hs.a.KP;replace hs:Mv pl nb J W 0 600 F6 v (fun _=>True) R wa [(S,An .u8 (da 7), 35)] []:=Mw.dv hs z.1 L M;clear m p t L M;go_wp2_with fail;have p:JS wa nb g 0 N6:=by have:=hs.a.JT;rw[z.out.2.1,z.out.2.2]at this;exact this
 have aU:=hs.size
 have aa:=qZ (show Fw G0 20 0 by
  have h:=oF (N:=N6) p.ok (fun f t=>fo.1 k6.2.2.1 f t) k6.2.1 k6.1 (k:=20) (jd (ek (ek k6.2.2.2 _) _) (by decide)) (by decide);rw[eG0]at h;exact h)
 refine(fx (N:=N6) p k6.2.1 ⟨HG.1,by have:=HG.out.2;omega⟩ hs.a.KP (fun f t=>fo.1 k6.2.2.1 f t) (jd (ek k6.2.2.2 _) (by decide)) (by decide) k6.1).mono ?_;rw[eG0];rintro e wb ⟨aV,aW,aX,aY,aZ,a0,a1,a2,rfl,hm,ah,aj⟩;obtain⟨D,ab⟩:∃D,D=(⟨nb,g,aX,aY,aZ,a0,a1,a2⟩:Pl):=⟨_,rfl⟩;rw[←ab]at hm;have a3:=qZ (show nb≤D.base∧D.base=nb∧D.g=g by rw[ab];exact⟨hZ _,rfl,rfl⟩)
 have hj:=Ms.Ra hs hm (hZ _) (fun x hx=>by
  rcases l8.1 hx with rfl|hx
  · exact ah
  · rw[jw.1 hx];exact aj)
 replace hs:Mv D nb aV aW 0 600 G0 (.slice none 0 0) (fun _=>True) R wb [(J,F6.v pl W, 88),(S,An .u8 (da 7), 35)] []:=Ms.less hj (ej _ (ej _ (ej _ (jg _ (kb _))))) (ej _ (List.nil_sublist _));clear p aU hm ah aj ab hj;go_wp2_with fail;refine(xp hs aa 1 W1w).mono ?_;rw[kg.1,vp kg.2.1];rintro e wc ⟨rfl,q⟩;replace hs:=q;clear q;obtain⟨ky,ak⟩:∃k,k=wc.heap.size:=⟨_,rfl⟩;go_upto_region 14 with(refine ma ?_;try (clear hs;intro w hs))
 simp only[←ak]at hs⊢;clear ak;replace hs:=Mw.mid (P:=[(_,_,_)]) hs;go_wp2_with fail;refine(mo.Jo (Mr.start w)).mono ?_;rintro e wd ⟨mg,lb,m0,e0,bb,rfl,o,n⟩;go_wp2_with (first|(refine ac rfl 35 _ rfl _ rfl _ bd1 ?_));refine(mo.GS n rfl (d:=da 1) rfl o).mono ?_;rintro e we ⟨rfl,m1,e1,n⟩;go_wp2_with fail;refine(mo.Js n rfl o).mono ?_;rintro e wf ⟨rfl,bc,bd,n⟩;obtain⟨gm,cm,ad⟩:=n.form 0 rfl (by decide);have ad:m1=.slice (some ⟨gm,0,none⟩) 2 cm:=ad;subst ad;replace hs:=hs.below n.out;clear o;go_wp2_with (first|(refine ac rfl 23 _ rfl _ rfl _ b11.ge0 ?_));refine(dev.pl.Jc wf (N:=N0) rfl k0.1 (fun f t=>fo.1 k0.2.2.1 f t)).mono ?_;rw[eF0];rintro e wg ⟨p3,al,ao,aq,ar,aw,W3,rfl,b,ax,ay,aA⟩;have H:=qZ ay;have I:=qZ aA;have aB:=qZ (fh p3 (Nat.le_of_eq ax.symm));clear ax ay aA;go_wp2_with (first|(refine ac rfl 35 _ rfl _ rfl _ bd9 ?_)|(refine ac rfl 223 _ rfl _ rfl _ sw9 ?_))
 refine(dev.pl.AO (Q:=Fw P1 19 0) (F':=P1) (tv:=tV 0 an) b (dev.pl.Es (fN (x:=9) (by decide)).1 _ _) (dev.pl.qN aM.1 _) (dev.pl.vz _ _) (by decide) fun w v Lb a4 hs=>by
  have h:=dev.pl.Re hs af aB 0 W0w (fN (x:=9) (by decide));rw[kp.1,eP1]at h;exact h).mono ?_
 rintro e wh ⟨rfl,v5,a5,b,aC⟩;obtain⟨aD,aF⟩:∃k,k=wh.heap.size:=⟨_,rfl⟩;go_upto_region 19 with(first|(refine az b 220 rfl rfl _ (tV 0 an) dev.pl.jJ rfl rfl ?_;clear b;intro w b)|(refine aJ b 220 rfl rfl rfl rfl dev.pl.ip (dev.pl.qN aM.1 _) rfl (dev.pl.vz _ _) ?_;clear b;intro w b))
 simp only[←aF]at b⊢;clear aF;replace b:Py p3 al ao aq ar aw 0 P1 v5 a5 1 ([]++tV 0 an) W3 w [(aD,tV 0 an, 220)]:=Ms.perm b (kd (l₁:=[_]) (l₂:=[_,_,_,_])) (.refl _);have aG:=qZ aC;clear aC;go_wp2_with (first|(refine ac rfl 223 _ rfl _ rfl _ sr0 ?_))
 refine(dev.pl.AO (Q:=True) (F':=P1) (tv:=tV 0 (da 9)) b (dev.pl.Es aM.1 _ _) (dev.pl.qN (fN (x:=9) (by decide)).1 _) (dev.pl.vz _ _) (by decide) fun w v Lb a4 hs=>by
  have h:=dev.pl.Rr hs aG kp.2.2.1 0 W0w (by rw[kp.2.1];rfl);rw[kp.2.1]at h;exact h.mono fun e O h=>⟨h.1,_,h.2,trivial⟩).mono ?_
 rintro e wi ⟨rfl,v6,a6,b,-⟩;obtain⟨aH,aI⟩:∃k,k=wi.heap.size:=⟨_,rfl⟩;go_upto_region 20 with(first|(refine az b 220 rfl rfl _ (tV 0 an) dev.pl.jJ rfl rfl ?_;clear b;intro w b)|(refine aJ b 220 rfl rfl rfl rfl dev.pl.ip (dev.pl.qN (fN (x:=9) (by decide)).1 _) rfl (dev.pl.vz _ _) ?_;clear b;intro w b))
 simp only[←aI]at b⊢;clear aI;replace b:Py p3 al ao aq ar aw 0 P1 v6 a6 2 (([]++tV 0 an)++tV 0 (da 9)) W3 w [(aD,tV 0 an, 220),(aH,tV 0 (da 9), 220)]:=Ms.perm b (kd (l₁:=[_]) (l₂:=[_,_,_,_,_])) (.refl _);have HS:=qZ hs;have HM:=qZ n;clear hs n;have hs:=HS.out.below (dev.pl.IX b I H);go_wp2_with fail;refine(Gt hs.a (hs.blk (i:=0) rfl) (Mw.LW (i:=1) (j:=0) hs rfl rfl fun e he=>(aa.dk e he).1) aa kg.2.1 kall).mono ?_;rw[kg.2.2];rintro e wj ⟨bf,rfl,ho,l⟩;obtain⟨Al,cl,rfl,-⟩:=eo ho;replace b:=b.below l;clear ho l hs;go_wp2_with fail;refine(dev.pl.Je (rows:=[tV 0 an,tV 0 (da 9)]) b rfl (by intro r o;simp at o;rcases o with rfl|rfl;exact dev.pl.qN aM.1 _;exact dev.pl.qN (fN (x:=9) (by decide)).1 _) (by intro r o;simp at o;rcases o with rfl|rfl;exact dev.pl.vz _ _;exact dev.pl.vz _ _) (by decide)).mono ?_;rintro e wk ⟨Ag,cg,rfl,l⟩;replace b:=b.below l;clear l;go_upto_region 22 with fail
 simp only[jI,js,jt];go_wp2_with fail;refine(aK _).mono ?_;rintro e wl ⟨rfl,l⟩;replace b:=b.below l;clear l;have hs:=HS.out.below (dev.pl.IX b I H);go_wp2_with (first|(refine au 35 (.tmp 7) rfl S 0 rfl (by first|rfl|(simp[ed];done)|(go_simp;done)) (An .u8 (da 7)) _ (ai (hs.blk (i:=4) rfl)) ly rfl (by rw[ae.out];exact bh) ?_)|(refine au 35 (.tmp 14) rfl ky 0 rfl (by first|rfl|(simp[ed];done)|(go_simp;done)) (An .u8 (da 7)) _ (ai (hs.blk (i:=2) rfl)) ly rfl (by rw[ae.out];exact bh) ?_)|(refine bJ 35 _ (by first|rfl|(simp[ed];done)|(go_simp;done)) rfl _ rfl _ bd7 ?_))
 have c0:wl.cell? ⟨J,0,none⟩=some (.pointer (some ⟨D.g,0,none⟩)):=by
  have:=hs.cell 3 0 rfl (v:=.pointer (some ⟨pl.g,0,none⟩)) rfl;rw[z.out.2.2,←a3.out.2.2]at this;exact this
 have m:=iz (F:=G0) (fg:=J) hs.a c0;rw[kg.2.2,show((3:Nat):Int)=3 from rfl]at m;refine m.mono ?_;rintro e wm ⟨rfl,l⟩;replace b:=b.below l;clear l m c0 hs;go_wp2_with (first|(refine bJ 35 _ (by first|rfl|(simp[ed];done)|(go_simp;done)) rfl _ rfl _ bP ?_));have n:=HM.out.below (dev.pl.IX b I H);have m:=mo.Jp (d:=an) (rows:=[an,da 1]) (n.cell 0 0 rfl rfl) (n.cell 1 16 rfl rfl) (n.cell 1 17 rfl rfl) ((n.rds 0 (rows:=[An .u8 an,An .u8 (da 1)]) rfl rfl (by intro r o;simp at o;rcases o with rfl|rfl<;>rfl))) T aM;rw[show([an,da 1]:List (List Nat)).contains (an)=true from by decide]at m;refine m.mono ?_;rintro e bg ⟨rfl,l⟩;replace b:=b.below l;clear l m n;go_wp2_with (first|(refine bJ 35 _ (by first|rfl|(simp[ed];done)|(go_simp;done)) rfl _ rfl _ bd1 ?_));have n:=HM.out.below (dev.pl.IX b I H);have m:=mo.Jp (d:=da 1) (rows:=[an,da 1]) (n.cell 0 0 rfl rfl) (n.cell 1 16 rfl rfl) (n.cell 1 17 rfl rfl) ((n.rds 0 (rows:=[An .u8 an,An .u8 (da 1)]) rfl rfl (by intro r o;simp at o;rcases o with rfl|rfl<;>rfl))) T (fN (by decide));rw[show([an,da 1]:List (List Nat)).contains (da 1)=true from by decide]at m;refine m.mono ?_;rintro e bj ⟨rfl,l⟩;replace b:=b.below l;clear l m n;go_wp2_with (first|(refine bJ 35 _ (by first|rfl|(simp[ed];done)|(go_simp;done)) rfl _ rfl _ bd2 ?_));have n:=HM.out.below (dev.pl.IX b I H);have m:=mo.Jp (d:=da 2) (rows:=[an,da 1]) (n.cell 0 0 rfl rfl) (n.cell 1 16 rfl rfl) (n.cell 1 17 rfl rfl) ((n.rds 0 (rows:=[An .u8 an,An .u8 (da 1)]) rfl rfl (by intro r o;simp at o;rcases o with rfl|rfl<;>rfl))) T (fN (by decide));rw[show([an,da 1]:List (List Nat)).contains (da 2)=false from by decide]at m;refine m.mono ?_;rintro e bk ⟨rfl,l⟩;replace b:=b.below l;clear l m n;have a7:=b.cell 4 0 rfl (v:=.int .i64 0) rfl;go_wp2_with (first|(refine bJ 35 _ (by first|rfl|(simp[ed];done)|(go_simp;done)) rfl _ rfl _ bd9 ?_)|(refine au 35 (.tmp 163) rfl aH 1 rfl (by first|rfl|(simp[ed];done)|(go_simp;done)) (An .u8 (da 9)) _ (bN (b.blk (i:=5) rfl) [.int .i64 0] (An .u8 (da 9)) [] rfl 1 rfl) ly rfl (by rw[aP.out];exact bh) ?_));clear a7;refine(dev.pl.IV b aG aB kp.2.2.2.2 kp.2.2.2.1 (by decide)).mono ?_;rintro e wr ⟨rfl,G9,v9,bl,n9,bm,b⟩;go_wp2_with (first|(refine bJ 23 _ (by first|rfl|(simp[ed];done)|(go_simp;done)) rfl _ rfl _ b11.ge0 ?_));refine(qX _).mono ?_;rintro e ws ⟨rfl,l⟩;replace b:=b.below l;clear l;go_wp2_with fail;go_ret;have hs:=HS.out.below (dev.pl.IX b I H);have h1:=aQ.out;have h2:=aR.out;subst h2;exact⟨rfl,h1.trans ⟨hs.fr.os,hs.fr.tape,hs.fr.output,hs.fr.size,fun k hk=>hs.fr.block k (by have:=h1.size;omega) fun bn=>by omega⟩⟩
end dev.b21
namespace dev.b18
open dev
open JT (Nd JS Ko Flt Fr)
open tab (Tb JZ At6)
def la:List En:=[en 1 1,en 2 2,en 3 3]
def lb:List En:=[en 3 3]
def lc:List En:=[en 9 9]
theorem fla:jm (fun i=>some (i*19,19)) ((iP (3*19)).map ((fj (enV 0 0 0 an).toArray).cells[· %(fj (enV 0 0 0 an).toArray).cells.size]!)) [(0,.agg (en 1 1).v.toArray),(1,.agg (en 2 2).v.toArray),(2,.agg (en 3 3).v.toArray)]=some (ens la).flatten.toArray:=by kernel_rfl
theorem flb:jm (fun i=>some (i*19,19)) ((iP (1*19)).map ((fj (enV 0 0 0 an).toArray).cells[· %(fj (enV 0 0 0 an).toArray).cells.size]!)) [(0,.agg (en 3 3).v.toArray)]=some (ens lb).flatten.toArray:=by kernel_rfl
theorem flc:jm (fun i=>some (i*19,19)) ((iP (1*19)).map ((fj (enV 0 0 0 an).toArray).cells[· %(fj (enV 0 0 0 an).toArray).cells.size]!)) [(0,.agg (en 9 9).v.toArray)]=some (ens lc).flatten.toArray:=by kernel_rfl
theorem uq(l s:Nat)(c:l<100)(e:s<100):(en l s).ok∧wfI (en l s).l:=⟨⟨rfl,by show∀y∈ [l,s,0,7,0,0,0,0,0,0,0,0,0,0,0,0],y<256;intro y b;simp at b;omega⟩,bw (show(-1000000000000000:Int)≤(l:Int) by omega) (show(l:Int)≤1000000000000000 by omega)⟩
theorem Jy:∀e∈la,e.ok∧wfI e.l:=by intro e b;unfold la at b;simp at b;rcases b with rfl|rfl|rfl<;>exact uq _ _ (by decide) (by decide)
theorem Jx:∀e∈lb,e.ok∧wfI e.l:=by intro e b;unfold lb at b;simp at b;subst b;exact uq _ _ (by decide) (by decide)
theorem Jw:∀e∈lc,e.ok∧wfI e.l:=by intro e b;unfold lc at b;simp at b;subst b;exact uq _ _ (by decide) (by decide)
theorem Hd:∀r∈ens la,r.length=19:=by decide
theorem Hb:∀r∈ens lb,r.length=19:=by decide
theorem GZ:∀r∈ens lc,r.length=19:=by decide
theorem ad2: eD.built 52 [(0,.int .i64 2)]=some ([.int .i64 2,.int .i64 0,.int .i64 0]:List gg).toArray:=by kernel_rfl
theorem fl2: eD.built 75 [(1,.int .i64 4),(2,.agg ([.int .i64 2,.int .i64 0,.int .i64 0]:List gg).toArray)]=some f2.v.toArray:=by kernel_rfl
theorem JD:f2.wf:=⟨rfl,rfl,⟨rfl,rfl,rfl⟩,rfl,rfl⟩
theorem G1(x:Addr)(w:eX):(binOp .eql 83 (.pointer (some x)) (.pointer none)).run eD w=.ok (.bool false) w:=kn w 83 (some x) (by kernel_rfl: eD.underlying 83 =some (.pointer (eD.pointee 83)))
theorem GG(x:Addr)(w:eX):(binOp .eql 85 (.pointer (some x)) (.pointer none)).run eD w=.ok (.bool false) w:=kn w 85 (some x) (by kernel_rfl: eD.underlying 85 =some (.pointer (eD.pointee 85)))
theorem PN(O:∀w:eX,hG eD 235 #[] w fun e u=>e=.returned (.bool true)∧Below w.heap.size w u)(l:eX):hG eD 197 #[] l fun e u=>e=.returned (.bool true)∧Below l.heap.size l u:=by
 have ad:=JT.JY;have o:=tab.JY;have ae:=G1;have af:=GG;have E:=qZ k1;have z:=qZ k2;have r:=qZ k3;have p:=qZ k5;have A:=qZ k6;have G:=qZ k7;go_enter func197, ntmps197;go_wp2_with (first|(refine ac rfl 23 _ rfl _ rfl _ b11.ge0 ?_));refine(Ab l).mono ?_;rintro e w1 ⟨pl,rfl,H,g,i⟩;have c:=Mw.begin g i;have m:=qZ H;clear g i H;go_wp2_with fail;refine(kB 1 1 (by decide) (by decide) _).mono ?_;rintro e w2 ⟨rfl,i⟩;replace c:=c.below i;clear i;go_wp2_with fail;refine(kB 2 2 (by decide) (by decide) _).mono ?_;rintro e w3 ⟨rfl,i⟩;replace c:=c.below i;clear i;go_wp2_with fail;refine(kB 3 3 (by decide) (by decide) _).mono ?_;rintro e w4 ⟨rfl,i⟩;replace c:=c.below i;clear i;go_wp2_with (first|(refine dD c 116 rfl rfl (ens la).flatten hX b11.OV (by decide) (by decide) _ rfl fla rfl ?_;clear c;intro w c));have f:=fm c.a la Jy (cc:=3) (c.Ou 0 rfl rfl Hd (by decide) rfl) (by decide) 200 _ (gx m0.1 m0.2 (by decide) (by decide) la) (by decide) (by decide) m0.2.n0 m0.2.n1 m0.2.op m0.2.row;rw[show D0.Kf la=(D1,2,0)from l4 e1 E.out.1]at f;refine f.mono ?_;rintro e P ⟨rfl,g,j⟩;replace c:Mw pl l.heap.size 0 0 D1 (fun _=>True) l P [] []:=(Mw.dv c m.out g j).drop 1;clear f g j;go_wp2_with fail;refine(kB 3 3 (by decide) (by decide) _).mono ?_;rintro e w6 ⟨rfl,i⟩;replace c:=c.below i;clear i;go_wp2_with (first|(refine dD c 116 rfl rfl (ens lb).flatten hX b11.OV (by decide) (by decide) _ rfl flb rfl ?_;clear c;intro w c));have f:=fm c.a lb Jx (cc:=1) (c.Ou 0 rfl rfl Hb (by decide) rfl) (by decide) 200 _ (gx m1.1 m1.2 g1.1 g1.2 lb) (by have:=E.out.2.1;omega) (by decide) m1.2.n0 m1.2.n1 m1.2.op m1.2.row;rw[show D1.Kf lb=(D2,1,0)from l4 e2 z.out.1]at f;refine f.mono ?_;rintro e Q ⟨rfl,g,j⟩;replace c:Mw pl l.heap.size 0 0 D2 (fun _=>True) l Q [] []:=(Mw.dv c m.out g j).drop 1;clear f g j;go_wp2_with fail;have f:=lA c.a m2.1 m2.2 0 (by decide) 2 (by decide) (by have:=z.out.2.1;have:=z.out.2.2;omega) (by decide) (by decide);rw[show D2.carry (0:Nat) 2=(D3,2,0)from l4 e3 r.out.1,show((0:Nat):Int)=0 from rfl]at f;refine f.mono ?_;rintro e R ⟨rfl,g,j⟩;replace c:Mw pl l.heap.size 0 0 D3 (fun _=>True) l R [] []:=(Mw.dv c m.out g j);clear f g j;go_wp2_with fail;obtain⟨I,-,o⟩:=c.a.tab;have f:=tab.Fy o 1 b11.W1w;rw[r.out.2.2.2.1]at f;refine f.mono ?_;rintro e S ⟨rfl,i⟩;replace c:=c.below i;clear i f o;obtain⟨t,B⟩:∃t,t=At6.of (tab.Kh D3.T.f 1):=⟨_,rfl⟩;have T:=qZ (show t.b=1 by rw[B];exact r.out.2.2.2.2.1);rw[←B];clear B;go_upto_region 8 with(first|(obtain⟨k4,J⟩:∃k,k=S.heap.size:=⟨_,rfl⟩;refine az c 96 rfl rfl _ At6.zero.v wX rfl rfl ?_;clear c;intro w c;simp only[←J]at c⊢;clear J)|(refine aJ c 96 rfl rfl rfl rfl xj rfl rfl (tab.nZ _) ?_;clear c;intro w c))
 go_wp2_with fail;have f:=bZ c.a;rw[r.out.2.2.2.2.2]at f;refine f.mono ?_;rintro e ag ⟨rfl,rfl⟩;clear f;go_wp2_with (first|(refine ac rfl 52 _ rfl _ rfl _ ad2 ?_)|(refine ac rfl 75 _ rfl _ rfl _ fl2 ?_));refine(JT.qw c.a.JT f2 JD (.inr rfl) (by decide)).mono ?_;rintro e U ⟨rfl,K,j⟩;obtain⟨g,L⟩:=c.a.QD K j t4.2.2.1 t4.2.2.2 (wo4 c.a.KP);replace c:Mw pl l.heap.size 1 0 D4 (fun _=>True) l U [_] []:=Mw.dv2 c m.out g L;clear K j g L;go_wp2_with fail;have f:=sJ c.a m4.1 m4.2 (by rw[t4.2.1];decide) (jd (ek t4.1 _) (by decide)) (by decide) (by decide) 2 (by decide);rw[show D4.step 2=(D5,1,0)from l4 e5 p.out.1]at f;refine f.mono ?_;rintro e V ⟨rfl,g,j⟩;replace c:Mw pl l.heap.size 1 0 D5 (fun _=>True) l V [_] []:=(Mw.dv c m.out g j);clear f g j;go_upto_region 11 with fail
 simp only[jI,js,jt];go_wp2_with fail;refine(O _).mono ?_;rintro e W ⟨rfl,i⟩;replace c:=c.below i;clear i;have c0:=c.cell 0 0 rfl (v:=.int .i64 t.b) rfl;rw[T.out]at c0;go_wp2_with fail;clear c0;obtain⟨I,-,o⟩:=c.a.tab;have f:=ql (⟨c.a.tal,o⟩:pick.View W pl.tg pl.tlb D5.Y pl.lg pl.mb pl.cb I D5.T);rw[show((pick.LI D5.Y D5.T).map fun b:Nat=>tab.Kw D5.T.f (b:Int)).sum=D5.Ok from rfl]at f;obtain⟨M,D⟩:∃q,q=D5.Ok:=⟨_,rfl⟩;rw[←D]at f;have N:decide (M<4)=true:=by rw[D];exact decide_eq_true p.out.2.2.2.1
 have X:decide ((M:Int)<4)=true:=by have:=of_decide_eq_true N;exact decide_eq_true (by omega)
 clear D;refine f.mono ?_;rintro e ah ⟨rfl,i⟩;replace c:=c.below i;clear i f o;go_wp2_with fail;clear N X;have f:=JT.zY c.a.JT;rw[p.out.2.2.2.2,show((0:Nat):Int)=0 from rfl]at f;refine f.mono ?_;rintro e ai ⟨rfl,rfl⟩;clear f;go_wp2_with fail;have f:=gC c.a m5.1 m5.2 (by rw[p.out.2.2.1];decide) (jd (ek p.out.2.1 _) (by decide)) (by decide) (by decide);rw[A.out.1,e6]at f;refine f.mono ?_;rintro e Y ⟨rfl,g,j⟩;replace c:Mw pl l.heap.size 1 0 D6 (fun _=>True) l Y [_] []:=(Mw.dv c m.out g j);clear f g j;go_wp2_with fail;refine(kB 9 9 (by decide) (by decide) _).mono ?_;rintro e aj ⟨rfl,i⟩;replace c:=c.below i;clear i;go_wp2_with (first|(refine pC c 116 (by first|rfl|(simp[ed];done)|(go_simp;done)) rfl (ens lc).flatten hX b11.OV (by decide) (by decide) _ rfl flc rfl ?_;clear c;intro w c));have Z:=c.Ou (d:=Kx) (rows:=ens lc) (n:=1) (C:=19) 0 rfl rfl GZ (by decide) rfl;have f:=ny c.a m6.1 m6.2 (by rw[A.out.2.2];decide) lc Jw (cc:=1) Z (by decide) (by decide) (fun a h=>by cases h;rfl) (jd (ek A.out.2.1 _) (by decide)) (by decide) (by decide);rw[show D6.Mm lc=(D7,0)from l4 e7 G.out.1]at f;refine f.mono ?_;rintro e aa ⟨rfl,g,j⟩;replace c:Mw pl l.heap.size 1 0 D7 (fun _=>True) l aa [_] []:=(Mw.dv c m.out g j).drop 1;clear f g j;go_wp2_with fail;refine(bZ c.a).mono ?_;rintro e ak ⟨rfl,rfl⟩;go_wp2_with fail;have f:=iC c.a (by have:=G.out.2.1;omega) (by decide);rw[k8]at f;refine f.mono ?_;rintro e al ⟨rfl,g,j⟩;have ab:=Mw.dv c m.out g j;clear f g j c;go_wp2_with fail;go_ret;exact⟨rfl,ab.out⟩
end dev.b18
namespace dev.b16
open dev
open JT (Nd JS Ko Flt Fr)
open tab (Tb JZ At6)
theorem bx1: eD.built 35 [(0,.int .u8 1)]=some (An .u8 X1).toArray:=by rfl
theorem bx2: eD.built 35 [(0,.int .u8 2)]=some (An .u8 X2).toArray:=by rfl
theorem be1: eD.built 90 [(0,.int .i64 2),(1,.int .i64 5),(2,.int .i64 1),(3,.agg (An .u8 X1).toArray)]=some (enV 2 5 1 X1).toArray:=by rfl
theorem be2: eD.built 90 [(0,.int .i64 2),(1,.int .i64 4),(2,.int .i64 1),(3,.agg (An .u8 X2).toArray)]=some (enV 2 4 1 X2).toArray:=by rfl
theorem be3: eD.built 90 [(0,.int .i64 1),(1,.int .i64 8),(2,.int .i64 2)]=some (enV 1 8 2 an).toArray:=by rfl
theorem bp1: eD.built 90 [(0,.int .i64 4),(1,.int .i64 1)]=some (En.v ⟨4,1,0,an⟩).toArray:=by rfl
theorem bp2: eD.built 90 [(0,.int .i64 5),(1,.int .i64 2)]=some (En.v ⟨5,2,0,an⟩).toArray:=by rfl
theorem bp3: eD.built 90 [(0,.int .i64 4),(1,.int .i64 3)]=some (En.v ⟨4,3,0,an⟩).toArray:=by rfl
theorem fa:jm (fun i=>some (i*19,19)) ((iP (2*19)).map ((fj (enV 0 0 0 an).toArray).cells[· %(fj (enV 0 0 0 an).toArray).cells.size]!)) [(0,.agg (enV 2 5 1 X1).toArray),(1,.agg (enV 0 0 3 an).toArray)]=some (ens ea).flatten.toArray:=by kernel_rfl
theorem fb:jm (fun i=>some (i*19,19)) ((iP (2*19)).map ((fj (enV 0 0 0 an).toArray).cells[· %(fj (enV 0 0 0 an).toArray).cells.size]!)) [(0,.agg (enV 2 4 1 X2).toArray),(1,.agg (enV 1 8 2 an).toArray)]=some (ens eb).flatten.toArray:=by kernel_rfl
theorem Ia:∀r∈ens ea,r.length=19:=by decide
theorem H9:∀r∈ens eb,r.length=19:=by decide
theorem zk(l s r:Int):(⟨l,s,r,an⟩:En).ok:=⟨rfl,by show∀y∈an,y<256;decide⟩
theorem JI:∀x∈ea,x.ok:=by intro x b;unfold ea at b;simp at b;rcases b with rfl|rfl<;>exact⟨rfl,by decide⟩
theorem JH:∀x∈eb,x.ok:=by intro x b;unfold eb at b;simp at b;rcases b with rfl|rfl<;>exact⟨rfl,by decide⟩
def ld1:List En:=[⟨4,1,0,an⟩]
def ld2:List En:=[⟨4,1,0,an⟩,⟨5,2,0,an⟩]
theorem GY:∀x∈ld1,x.ok:=by intro x b;unfold ld1 at b;simp at b;subst b;exact zk _ _ _
theorem GX:∀x∈ld2,x.ok:=by intro x b;unfold ld2 at b;simp at b;rcases b with rfl|rfl<;>exact zk _ _ _
def lf:List En:=[⟨5,2,0,an⟩,⟨4,3,0,an⟩]
theorem Cr:∀x∈lf,x.ok:=by intro x b;unfold lf at b;simp at b;rcases b with rfl|rfl<;>exact zk _ _ _
theorem GV:∀r∈ens lf,r.length=19:=by decide
theorem W2w:wfI 2:=begun13.wf0 (by decide)
theorem uD(w:eX):hG eD 257 #[] w fun e b=>e=.returned (.bool true)∧Below w.heap.size w b:=by
 go_enter func257, ntmps257;go_wp2_with fail;refine(b11.P6 _).mono ?_;rintro e b ⟨rfl,c⟩;go_wp2_with fail;go_ret;simp_all
theorem uC(w:eX):hG eD 258 #[] w fun e b=>e=.returned (.bool true)∧Below w.heap.size w b:=by
 go_enter func258, ntmps258;go_wp2_with fail;refine(begun13.P9 _).mono ?_;rintro e b ⟨rfl,c⟩;go_wp2_with fail;go_ret;simp_all
abbrev Mt(g m:Nat)(N:Nd)(b w:eX)(L:List Bk)(S:List Sl):Prop:=Ms scT scT b.heap.size (fun w=>JS w b.heap.size g m N) (fun _=>True) b w L S
theorem Mt.start{b w:eX}{g m:Nat}{N:Nd}(h:JS w b.heap.size g m N)(c:Below b.heap.size b w):Mt g m N b w [] []:=by
 have e:Ms scT scT b.heap.size (fun _=>True) (fun _=>True) b b [] []:=Ms.start (fun _ h=>h) (hZ _) (fun _ _ _ _=>trivial) (fun _ _ _ _=>trivial) trivial trivial;exact(e.below c).dev (A':=fun w=>JS w b.heap.size g m N) (Kj.refl _ _) h (fun _ _ f a=>JS.chg (fun _=>ki) a f)
theorem Mt.step{b w c:eX}{g m e:Nat}{N f:Nd}{L:List Bk}{S:List Sl}(h:Mt g m N b w L S)(i:JS c b.heap.size g e f)(j:Fr b.heap.size g w c):Mt g e f b c L S:=
 h.dev (A':=fun w=>JS w b.heap.size g e f) (gU (fun _=>ki) (Go.Proofs.YtlkpfnjdbgeifaaGreat.dev.Fr.dvc j)) i (fun _ _ k a=>JS.chg (fun _=>ki) a k)
theorem Qa(o:eX):hG eD 250 #[] o fun e w'=>e=.returned (.bool true)∧Below o.heap.size o w':=by
 have aB:=JT.JY;have aC:=tab.JY;have P:=qZ (show tot (Nd.new 3 8 2)+1002≤1000000000000000 by decide);go_enter func250, ntmps250;go_wp2_with (first|(refine ac rfl 23 _ rfl _ rfl _ b11.ge0 ?_));have Q:hG eD 29 #[.agg ([.int .i64 3,.int .i64 8,.int .i64 2]:List gg).toArray] o _:=JT.mR o 3 8 2 (by decide);refine Q.mono ?_;rintro e w1 ⟨g,rfl,q,b⟩;have hs:=Mt.start q b;clear q b Q;go_wp2_with (first|(refine ac rfl 35 _ rfl _ rfl _ bx1 ?_)|(refine ac rfl 90 _ rfl [(0,.int .i64 2),(1,.int .i64 5),(2,.int .i64 1),(3,_)] rfl _ be1 ?_)|(refine ac rfl 90 _ rfl [(2,.int .i64 3)] rfl _ gY ?_)|(refine dD hs 116 rfl rfl (ens ea).flatten hX b11.OV (by decide) (by decide) _ rfl fa rfl ?_;clear hs;intro w hs));have z:=hs.size;have f:=dS hs.a (by omega) 1 0 7 b11.W1w b11.W0w ea JI (c:=2) (hs.Ou 0 rfl rfl Ia (by decide) rfl) (by decide) P.out;rw[wa]at f;refine f.mono ?_;rintro e w2 ⟨rfl,q,n⟩;replace hs:Mt g 0 Wa.1 o w2 [] []:=(Mt.step hs q n).drop 1;clear q n z P f;go_wp2_with (first|(refine ac rfl 35 _ rfl _ rfl _ bx2 ?_)|(refine ac rfl 90 _ rfl [(0,.int .i64 2),(1,.int .i64 4),(2,.int .i64 1),(3,_)] rfl _ be2 ?_)|(refine ac rfl 90 _ rfl [(0,.int .i64 1),(1,.int .i64 8),(2,.int .i64 2)] rfl _ be3 ?_)|(refine dD hs 116 rfl rfl (ens eb).flatten hX b11.OV (by decide) (by decide) _ rfl fb rfl ?_;clear hs;intro w hs));have z:=hs.size;have f:=dS hs.a (by omega) 2 0 7 W2w b11.W0w eb JH (c:=2) (hs.Ou 0 rfl rfl H9 (by decide) rfl) (by decide) (jd (ek t1.1 1002) (by decide));rw[wb,nb]at f;refine f.mono ?_;rintro e R ⟨rfl,q,n⟩;replace hs:Mt g 0 Nb o R [] []:=(Mt.step hs q n).drop 1;clear q n z f;go_wp2_with fail;have S:o.heap.size≤g∧g<R.heap.size:=⟨by obtain⟨aD,-,h⟩:=hs.a;exact h.Nv.1,hs.a.lt⟩;have z:=hs.size;have f:=sP hs.a t1.2 S 3 (by decide) (fun ao n=>by have:=fo.1 t2.1 ao n;omega);rw[t2.2.1,t2.2.2,t3d]at f;refine f.mono ?_;rintro e T ⟨t,H,I,J,rfl,aq,U,ar,au,aw,b⟩;replace hs:Ms scT scT o.heap.size (ScA o.heap.size g 0 Nb t H I J T3) (fun _=>True) o T [] []:=(hs.below b).dev (A':=ScA o.heap.size g 0 Nb t H I J T3) (Kj.refl _ _) ⟨(hs.below b).a,U⟩ qS;clear f aq U ar au aw b S z;go_upto_region 7 with(first|(obtain⟨k2,V⟩:∃k,k=T.heap.size:=⟨_,rfl⟩;refine az hs 118 rfl rfl _ (svV none 0 0) kJ rfl rfl ?_;clear hs;intro w hs;simp only[←V]at hs⊢;clear V)|(refine aJ hs 118 rfl rfl rfl rfl ei rfl rfl (by intro u hu;simp[svV]at hu;rcases hu with rfl|rfl|rfl|rfl|rfl|rfl<;>rfl) ?_;clear hs;intro w hs))
 have c0:=hs.cell 0 0 rfl (v:=.pointer (some ⟨t,0,none⟩)) rfl;go_wp2_with fail;have L:=t3;simp only[hO]at L;have M:=qZ L;clear L;have f:=tab.Fy hs.a.2 2 W2w;rw[M.out.2.1]at f;refine f.mono ?_;rintro e w5 ⟨rfl,b⟩;replace hs:=hs.below b;clear b f c0;obtain⟨B,N⟩:∃B,B=At6.of (tab.Kh T3.f 2):=⟨_,rfl⟩;have ax:=qZ (show B.b=1 by rw[N];exact M.out.1);rw[←N];clear N;go_upto_region 10 with(first|(obtain⟨k4,W⟩:∃k,k=w5.heap.size:=⟨_,rfl⟩;refine az hs 96 rfl rfl _ At6.zero.v wX rfl rfl ?_;clear hs;intro w hs;simp only[←W]at hs⊢;clear W)|(refine aJ hs 96 rfl rfl rfl rfl xj rfl rfl (tab.nZ _) ?_;clear hs;intro w hs))
 go_wp2_with fail;refine(mi w).mono ?_;rintro e w6 ⟨rfl,X,b⟩;obtain⟨O,Y⟩:∃O,O=w.heap.size:=⟨_,rfl⟩;replace hs:=(hs.QK b X rfl).empty 90 19 rfl;simp only[←Y]at hs⊢;clear X b Y;go_wp2_with (first|(refine ac rfl 90 _ rfl [(0,.int .i64 4),(1,.int .i64 1)] rfl _ bp1 ?_));refine(JX.EG (hs.LW (l:=([]:List En)) (i:=0) (j:=0) rfl rfl rfl (fun x D=>by cases D)) (⟨4,1,0,an⟩:En) (zk _ _ _) (by decide) hs.size).mono ?_;rintro e w7 ⟨rfl,p,n⟩;obtain⟨v,r⟩:=Ms.JX (l:=([]:List En)) rfl rfl hs p n;replace hs:=r;clear p n r;go_wp2_with (first|(refine ac rfl 90 _ rfl [(0,.int .i64 5),(1,.int .i64 2)] rfl _ bp2 ?_));refine(JX.EG (hs.LW (l:=ld1) (i:=0) (j:=0) rfl rfl rfl GY) (⟨5,2,0,an⟩:En) (zk _ _ _) (by decide) hs.size).mono ?_;rintro e w8 ⟨rfl,p,n⟩;obtain⟨v,r⟩:=Ms.JX (l:=ld1) rfl rfl hs p n;replace hs:=r;clear p n r;go_wp2_with (first|(refine ac rfl 90 _ rfl [(0,.int .i64 4),(1,.int .i64 3)] rfl _ bp3 ?_));refine(JX.EG (hs.LW (l:=ld2) (i:=0) (j:=0) rfl rfl rfl GX) (⟨4,3,0,an⟩:En) (zk _ _ _) (by decide) hs.size).mono ?_;rintro e w9 ⟨rfl,p,n⟩;obtain⟨v,r⟩:=Ms.JX (l:=ld2) rfl rfl hs p n;replace hs:=r;clear p n r;obtain⟨Z,aa⟩:∃x,x=v:=⟨_,rfl⟩;replace hs:Ms scT scT o.heap.size (ScA o.heap.size g 0 Nb t H I J T3) (fun _=>True) o w9 [(O,[Z], 149),(k4,B.v, 96),(k2,svV (some ⟨t,0,none⟩) 9 3, 118)] [⟨90,19,Z,lf.length,(ens lf).flatten⟩]:=by rw[aa];exact hs
 clear aa;go_wp2_with fail;refine(JX.I0 (hs.LW (l:=lf) (i:=0) (j:=0) rfl rfl rfl Cr) 5 (by decide) (by decide)).mono ?_;rintro e aF ⟨u,rfl,ho,b⟩;replace hs:=hs.got b ho.1 rfl;clear ho b;obtain⟨gf,E,hu⟩:=hs.form 0 rfl (by decide);have hu:u=.slice (some ⟨gf,0,none⟩) 2 E:=hu;subst hu;go_wp2_with fail;have f:=JX.Fy (hs.LW (l:=lf) (i:=0) (j:=1) rfl rfl rfl Cr) 4 (by decide);rw[show JX.OA lf 4=some ⟨4,3,0,an⟩from rfl]at f;refine f.mono ?_;rintro e ay ⟨rfl,b⟩;replace hs:=hs.below b;clear b f;rw[show((some (⟨4,3,0,an⟩:En)).getD JX.z0)=⟨4,3,0,an⟩from rfl,show(some (⟨4,3,0,an⟩:En)).isSome=true from rfl];have aG:=qZ (show(En.v ⟨4,3,0,an⟩).length=19 from rfl);go_upto_region 16 with(first|(obtain⟨k8,ab⟩:∃k,k=ay.heap.size:=⟨_,rfl⟩;refine az hs 90 rfl rfl _ (enV 0 0 0 an) jK rfl rfl ?_;clear hs;intro w hs;simp only[←ab]at hs⊢;clear ab)|(refine ma ?_;try (clear hs;intro w hs)))
 simp only[jI,js,jt];go_wp2_with fail;refine(uD _).mono ?_;rintro e aH ⟨rfl,b⟩;replace hs:=hs.below b;clear b;go_wp2_with fail;refine(uC _).mono ?_;rintro e aI ⟨rfl,b⟩;replace hs:=hs.below b;clear b;have c0:=hs.cell 2 0 rfl (v:=.int .i64 B.b) rfl;rw[ax.out]at c0;have d0:=hs.cell 3 0 rfl (v:=.pointer (some ⟨t,0,none⟩)) rfl;have d1:=hs.cell 3 1 rfl (v:=.slice none 0 0) rfl;have d4:=hs.cell 3 4 rfl (v:=.int .i64 9) rfl;have d5:=hs.cell 3 5 rfl (v:=.int .i64 3) rfl;go_wp2_with fail;have f:=tab.rh hs.a.2;rw[M.out.2.2,show((2:Nat):Int)=2 from rfl]at f;refine f.mono ?_;rintro e aK ⟨rfl,rfl⟩;clear f c0 d0 d1 d4 d5;have f0:=hs.OJ 0 0 rfl (v:=.int .i64 5) rfl;have x1:=hs.cell 0 1 rfl (v:=.int .i64 3) rfl;obtain⟨A9,c9,ad,ae,af⟩:=hs.slice 0 rfl;have aL:2≤E∧E≤maxLen:=by cases ad;exact⟨ae,af⟩
 have aM:1≤E:=by omega
 clear ad ae af;go_wp2_with fail;clear f0 x1;have ag:=hs.LW (l:=lf) (i:=1) (j:=1) rfl rfl rfl Cr;have ah:=hs.blk (i:=1) rfl;have ai:=List.pairwise_cons.1 hs.sps;have aj:=sU (hs.rds 0 (rows:=ens lf) rfl rfl GV) (show 1≤2 by decide)
 refine(JX.JK ag (m:=[⟨5,2,0,an⟩]) aj (fun e he=>by simp at he;subst he;exact zk _ _ _) (by decide) (by decide) hs.size (fun v1 aA a ha=>by
  rw[←JX.mV ah aA];exact ai.1 _ (List.mem_cons_self ..) a.block (by cases ha;rfl))).mono ?_
 rintro e aN ⟨⟨qq,rfl,ak⟩,p,n⟩;rw[show JX.MN lf [⟨5,2,0,an⟩]=[⟨4,3,0,an⟩]from rfl]at p ak;obtain rfl:qq=1:=ak;obtain⟨v5,al⟩:=Ms.JX rfl rfl (hs.PC.O1) p n;replace hs:=al;clear ag ah ai aj p n al;go_wp2_with fail;refine(JX.rh (hs.LW (l:=[⟨4,3,0,an⟩]) (i:=0) (j:=0) rfl rfl rfl (by intro x D;simp at D;subst D;exact zk _ _ _))).mono ?_;rintro e aP ⟨rfl,rfl⟩;rw[show((([⟨4,3,0,an⟩]:List En).length:Nat):Int)=1 from rfl];exact yfj
end dev.b16
namespace dev.top
open dev
open JT (Nd JS Ko Fr)
theorem FX(w:eX):hG eD 235 #[] w fun e w'=>e=.returned (.bool true)∧Below w.heap.size w w':=by
 go_enter func235, ntmps235;go_wp2_with fail;refine(b16.Qa _).mono ?_;exact DZ
theorem FW(w:eX):hG eD 133 #[] w fun e w'=>e=.returned (.bool true)∧Below w.heap.size w w':=by
 go_enter func133, ntmps133;go_wp2_with fail;refine(b18.PN FX _).mono ?_;exact DZ
theorem FU(w:eX):hG eD 46 #[] w fun e w'=>e=.returned (.bool true)∧Below w.heap.size w w':=by
 go_enter func46, ntmps46;go_wp2_with fail;refine(b21.PV FW _).mono ?_;exact DZ
theorem uV(w:eX):hG eD 15 #[] w fun e w'=>e=.returned (.bool true)∧Below w.heap.size w w':=by
 go_enter func15, ntmps15;go_wp2_with fail;refine(FU _).mono ?_;exact DZ
theorem wy(a b c:Int)(D B P:Nat)(t:(D:Int)=3+a%4)(u:(B:Int)=8+b%9)(z:(P:Int)=2+c%7)(W:eX):hG eD 16 #[.agg #[.int .i64 a,.int .i64 b,.int .i64 c]] W fun e H=>∃pl nb k l m,e=.returned (.tuple #[.pointer (some ⟨pl.g,0,none⟩),.pointer (some ⟨k,0,none⟩)])∧Mv pl nb k l 0 600 (Ki (KD (Nd.new D B P))) (.slice none 0 0) (fun _=>True) m H [] []∧pl.base=nb∧(nb≤pl.g∧pl.g<m.heap.size)∧W.heap.size≤nb∧Below W.heap.size W m:=by
 have n:3≤D∧D≤6∧8≤B∧B≤16∧2≤P∧P≤8:=by omega
 obtain⟨o,p⟩:=Cp n;have A:=qZ (eT o p);have I:=qZ o;have J:=qZ p;have K:=qZ n;have f:=Mr.start W;have L:=qZ t;have M:=qZ u;have N:=qZ z;clear o p n t u z;go_enter func16, ntmps16;go_wp2_with (first|(refine aG f 23 rfl rfl _ [.int .i64 a,.int .i64 b,.int .i64 c] rfl rfl rfl ?_;clear f;intro w f)|(refine aK 0 f rfl 3 rfl rfl rfl underlying3 rfl rfl ?_));refine(rz a b c _).mono ?_;rw[←L.out,←M.out,←N.out];rintro e C ⟨rfl,i⟩;replace f:=f.below i;clear i;go_wp2_with fail;obtain⟨nb,E⟩:∃nb,nb=C.heap.size:=⟨_,rfl⟩;have O:=f.size;refine(JT.mR C D B P K).mono ?_;rintro e G ⟨g,rfl,j,i⟩;rw[←E]at j;replace f:=f.below i;have Q:=qZ (show W.heap.size≤nb by omega);have q:nb≤g∧g<G.heap.size:=⟨by obtain⟨aa,-,h⟩:=j;exact h.Nv.1,j.lt⟩;have R:=qZ f.out;have S:=qZ q;clear i E O f;go_wp2_with fail;have r:=fx j rfl q (fun _ _=>kk _) (o5 I J) (by show 0+2000000000≤100000000000000;decide) (by decide) (by rw[A.out.1]);rw[A.out.1]at r;refine r.mono ?_;rintro e w4 ⟨k,l,T,U,V,X,Y,Z,rfl,f,-,-⟩;clear j q r;go_wp2_with fail;exact kr (results_tmp2 rfl _ _ _) rfl ⟨(⟨nb,g,T,U,V,X,Y,Z⟩:Pl),nb,k,l,G,rfl,f,rfl,S,Q,R⟩
section
variable {pl:Pl}{nb fg dg:Nat}{v:gg}{w1 w:eX}{Lb:List Bk}{S:List Sl}
theorem wW{F:Fv}(j:Mv pl nb fg dg 0 600 F v (fun _=>True) w1 w Lb S)(m:pl.base=nb∧nb≤pl.g∧pl.g<w1.heap.size)(z:((F.D.N.cutAt (-1) 0).on).off=false)(B:∀f∈Kc (F.D.N.cutAt (-1) 0).on,f.whole=true)(C:dev.tot (F.D.N.cutAt (-1) 0).on+2000000000≤100000000000000)(D:(Mo (F.D.N.cutAt (-1) 0).on).2=0):hG eD 24 #[.pointer (some ⟨pl.g,0,none⟩)] w fun e Y=>∃n c k,e=.returned (.pointer (some ⟨c,0,none⟩))∧Mv n nb c k 0 600 (Ki (Mo (F.D.N.cutAt (-1) 0).on).1) (.slice none 0 0) (fun _=>True) w1 Y Lb S∧n.base=nb∧n.g=pl.g:=by
 obtain⟨E,Z,H⟩:=b21.Qc F.D.N (-1) 0
 have I:=qZ (show∀d b,(((F.D.N.cutAt (-1) 0).on).blk d b).KP≤((F.D.N.cutAt (-1) 0).on).ops from fun d b=>by
  show((F.D.N.cutAt (-1) 0).blk d b).KP≤(F.D.N.cutAt (-1) 0).ops;rw[H,E];exact j.a.KP d b)
 have J:=qZ m;have o:=qZ (fun(K:eX) (h:JS K nb pl.g 0 (F.D.N.cutAt (-1) 0).on) (hg:nb≤pl.g∧pl.g<K.heap.size)=>fx h z hg I B C (by decide) D);obtain⟨N1,L⟩:∃N1,N1=F.D.N.cutAt (-1) 0:=⟨_,rfl⟩;have p:=j.a.JT;rw[m.1]at p;have q:=JT.Ih p (-1) 0 (by decide);rw[←L]at q o⊢;obtain⟨G,M⟩:∃G,G=Ki (Mo N1.on).1:=⟨_,rfl⟩;rw[←M]at o⊢;have N:=qZ q;clear m z B C D E Z H L p q M I;go_enter func24, ntmps24;go_wp2_with fail;refine N.mono ?_;rintro e w2 ⟨rfl,g,i⟩;have r:Ms Kx Kx nb (fun w=>JS w nb pl.g 0 N1) (fun _=>True) w1 w2 _ _:=Ms.dev j (gU (fun _=>bD) (Go.Proofs.YtlkpfnjdbgeifaaGreat.dev.Fr.dvc i)) g (fun _ _ t a=>JS.chg (fun _=>bD) a t);clear j i N g;go_wp2_with fail;refine(JT.Jk r.a).mono ?_;rintro e w3 ⟨rfl,g,i⟩;have l:Ms Kx Kx nb (fun w=>JS w nb pl.g 0 N1.on) (fun _=>True) w1 w3 _ _:=Ms.dev r (gU (fun _=>bD) (Go.Proofs.YtlkpfnjdbgeifaaGreat.dev.Fr.dvc i)) g (fun _ _ t a=>JS.chg (fun _=>bD) a t);clear r i g;go_wp2_with fail;have aa:=l.size;refine(o _ l.a ⟨J.2.1,by have:=J.out.2.2;omega⟩).mono ?_;rintro e w4 ⟨c,k,O,P,Q,R,T,U,rfl,V,W,X⟩
 have hj:=Ms.Ra l V (hZ _) (fun x u=>by
  rcases l8.1 u with rfl|u
  · exact W
  · rw[jw.1 u];exact X)
 have h4:Mv (⟨nb,pl.g,O,P,Q,R,T,U⟩:Pl) nb c k 0 600 G (.slice none 0 0) (fun _=>True) w1 w4 Lb S:=Ms.less hj (ej _ (ej _ (jg _ (jg _ (kb _))))) (ej _ (jg _ (kb _)));clear aa V W X hj l;go_wp2_with fail;go_ret;exact⟨(⟨nb,pl.g,O,P,Q,R,T,U⟩:Pl),c,k,rfl,h4,rfl,rfl⟩
end
end dev.top
end Go.Proofs.YtlkpfnjdbgeifaaGreat
