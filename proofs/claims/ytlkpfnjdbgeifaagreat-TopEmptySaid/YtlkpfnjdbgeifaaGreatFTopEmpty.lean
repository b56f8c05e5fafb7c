import Derived.ChangeOld
import Derived.ProofKit
import Derived.Test.YtlkpfnjdbgeifaaGreatFBegDev
set_option linter.unusedSimpArgs false
set_option linter.unusedVariables false
set_option maxRecDepth 100000
set_option maxHeartbeats 1000000
open List renaming replicate→ed
namespace Go.Proofs.YtlkpfnjdbgeifaaGreat
open Go.Proofs.Tryz
open Go.Proofs.Tryz
open Go.RowKit
namespace topEmpty
open dev
open dev.top
open JT (Nd JS Ko Fr)
theorem BL{e:List Value}(h:Ku (ed 3 (Kd.int .i64)) e=true):∃a b c:Int,e=[.int .i64 a,.int .i64 b,.int .i64 c]:=by
 have f:=aL h;match e,f,h with
 |[c0,c1,c2],_,h=>
  simp only[List.replicate_succ,List.replicate_zero,Ku,Bool.and_eq_true,and_true]at h;obtain⟨g,i,j⟩:=h;obtain⟨a,rfl,-⟩:=gK g;obtain⟨b,rfl,-⟩:=gK i;obtain⟨c,rfl,-⟩:=gK j;simp
theorem ID{k:Int}(h:wfI k): -9223372036854775808≤k∧k≤9223372036854775807:=by
 have e1:IntKind.i64.min= -9223372036854775808:=rfl;have e2:IntKind.i64.max=9223372036854775807:=rfl;unfold wfI Lit.wf at h;simp_all
theorem AW(k m:Int)(b:0<m):0≤OX k m∧OX k m<m:=by
 have c:k.tmod m<m:=Int.tmod_lt_of_pos _ b
 have e: -m<k.tmod m:=by
  have:=Int.tmod_lt_of_pos (-k) b;rw[Int.neg_tmod]at this;omega
 unfold OX;omega
theorem J7(x:Addr)(w:World):(binOp .neq 26 (.pointer (some x)) (.pointer none)).run prog w=.ok (.bool true) w:=run_neq_pointer_nil w 26 (some x) (by rfl: prog.underlying 26 =some (.pointer (prog.pointee 26)))
theorem Jm(w:World):(binOp .neq 35 (.agg (An .u8 an).toArray) (.agg (An .u8 an).toArray)).run prog w=.ok (.bool false) w:=by
 have b:=cK an aM.2;rw[aM.1]at b;rw[jV w uh mo.Df (by rfl) (by decide) b b,kw aM.2 aM.2 rfl];rfl
structure St (D:Dv):Prop where
 emp:Emp D
 ops:D.N.ops=0
 tot:dev.tot D.N=0
theorem G5{D B P:Nat}(h:3≤D∧D≤6∧8≤B∧B≤16∧2≤P∧P≤8):St (KD (Nd.new D B P)):=by
 obtain⟨b,c⟩:=Cp h;exact⟨(eT b c).2,rfl,rfl⟩
theorem AP{D:Dv}(h:St D):((D.N.cutAt (-1) 0).on).off=false∧(∀f∈Kc (D.N.cutAt (-1) 0).on,f.whole=true)∧dev.tot (D.N.cutAt (-1) 0).on=0∧Mo (D.N.cutAt (-1) 0).on=(KD (D.N.cutAt (-1) 0).on,0)∧St (KD (D.N.cutAt (-1) 0).on):=by
 obtain⟨b,i,-,c,j⟩:=Cq h.emp.fl.lg;have e:∀d,K8 (D.N.cutAt (-1) 0).on d=false:=fun d=>(i d).trans (h.emp.fl.alive d)
 obtain⟨m1,m2⟩:=eT b e
 have g:dev.tot (D.N.cutAt (-1) 0).on=0:=by
  unfold dev.tot;rw[c,j];exact h.tot
 exact⟨b.calm.on,o5 b e,g,m1,m2,by show(D.N.cutAt (-1) 0).on.ops=0;rw[c];exact h.ops,g⟩
theorem IQ{D:Dv}(h:St D)(g:D=KD D.N)(e:D.N.ok):Fw (Ki D) 20 0:=by
 have b:=h.emp.fl.lg;have c:=h.emp.fl.alive;obtain⟨R,i⟩:∃R,Lg D.N R:=⟨_,b⟩;have f:=eT b c;have:=oF e (o5 b c) b.calm.on (by rw[f.1]) (k:=20) (by rw[h.tot];decide) (by decide);grind
theorem DO{D:Dv}(h:St D):((PY (Ki D) (Ki D).logical).map (An .u8))=ed (Ki D).logical (An .u8 an):=by
 have b:(Ki D).logical=Lj D.N:=rfl;unfold PY;rw[List.map_map,b];refine List.ext_getElem (by simp) fun i c f=> ?_;have e:i<Lj D.N:=by simpa using c
 simp[h.emp.read e]
theorem Ax{q:Nat}(h:(q:Int)<1000):wrap64 ((q:Int)+1)=(q:Int)+1:=by unfold wrap64;omega
theorem Fa{q:Nat}{s:Int}(h:(q:Int)<s):((q+1:Nat):Int)≤s:=by omega
theorem Jr{q n:Nat}(h:(q:Int)<(n:Int))(b:n≤1000):n-(intOf (.int .i64 (wrap64 ((q:Int)+1)))).toNat<n-(intOf (.int .i64 (q:Int))).toNat:=by
 rw[Ax (by omega)];simp[intOf];omega
theorem Jq{q n:Nat}(h:(q:Int)<(n:Int)):n-(intOf (.int .i64 ((q:Int)+1))).toNat<n-(intOf (.int .i64 (q:Int))).toNat:=by
 simp[intOf];omega
theorem DQ{pl:Pl}{nb l m:Nat}{v:Value}{f w:World}{g:List Bk}{S:List Sl}{E:Dv}(n:St E)(o:Mv pl nb l m 0 600 (Ki E) v (fun _=>True) f w g S)(p:pl.base=nb∧nb≤pl.g∧pl.g<f.heap.size):Calls prog 24 #[.pointer (some ⟨pl.g,0,none⟩)] w fun e q=>∃b h r c,e=.returned (.pointer (some ⟨h,0,none⟩))∧Mv b nb h r 0 600 (Ki c) (.slice none 0 0) (fun _=>True) f q g S∧b.base=nb∧b.g=pl.g∧St c∧c=KD c.N:=by
 obtain⟨s1,s2,s3,s4,s5⟩:=AP n;obtain⟨N2,i⟩:∃N2,N2=(E.N.cutAt (-1) 0).on:=⟨_,rfl⟩;have j:=wW (F:=Ki E) o p;rw[show(Ki E).D.N=E.N from rfl,←i]at j;rw[←i]at s1 s2 s3 s4 s5;have k:=j s1 s2 (by omega) (by rw[s4]);rw[s4]at k;refine k.mono ?_;rintro e A ⟨b,f2,d2,rfl,t,u,z⟩;exact⟨b,f2,d2,KD N2,rfl,t,u,z,s5,rfl⟩
theorem walk0(a b c k:Int)(R:wfI k)(W:World):Calls prog 8 #[.agg #[.int .i64 a,.int .i64 b,.int .i64 c],.int .i64 k] W fun e w'=>e=.returned (.bool true)∧Below W.heap.size W w':=by
 obtain⟨D,S⟩:∃D:Nat,(D:Int)=3+a%4:=⟨(3+a%4).toNat,by omega⟩;obtain⟨B,z⟩:∃B:Nat,(B:Int)=8+b%9:=⟨(8+b%9).toNat,by omega⟩;obtain⟨P,T⟩:∃P:Nat,(P:Int)=2+c%7:=⟨(2+c%7).toNat,by omega⟩;have ai:=qZ (G5 (D:=D) (B:=B) (P:=P) (by omega));have aj:=qZ (fun W=>wy a b c D B P S z T W);have aB:=oG;have aC:=J7;have aD:=Jm;have l:=Mr.start W;obtain⟨s,I⟩:∃s,s=OX k 4:=⟨_,rfl⟩;have U:=qZ (fun w=>y8 k 4 (ID R) (by decide) w);rw[←I]at U;have V:=qZ (show 0≤s∧s≤3 by rw[I];have:=AW k 4 (by decide);omega);clear S z T I R;go_enter func8, ntmps8;go_wp2_with (first|(refine aG l 23 rfl rfl _ [.int .i64 a,.int .i64 b,.int .i64 c] rfl rfl rfl ?_;clear l;intro w l));refine(uV _).mono ?_;rintro e w1 ⟨rfl,m⟩;replace l:=l.below m;clear m;go_wp2_with (first|(refine bM 0 l rfl 23 rfl rfl rfl underlying23 rfl Bb rfl ?_));refine(aj _).mono ?_;rintro e w2 ⟨pl,nb,fg,dg,wo,rfl,h,o,aE,ak,m⟩;have HB:=qZ (l.out.trans (m.mono l.size));have HN:=qZ (show W.heap.size≤nb by have:=l.size;omega);clear m l ak;go_wp2_with fail;obtain⟨A,J⟩:∃x,x=KD (Nd.new D B P):=⟨_,rfl⟩;have K:=qZ (show St A∧A=KD A.N by rw[J];exact⟨ai,rfl⟩);rw[←J]at h;clear J;go_loopw [7,8] (fun fv r wr=>∃(q:Nat) (p:Pl) (f d:Nat) (E:Dv),(q:Int)≤s∧r=.int .i64 (q:Int)∧fv=.pointer (some ⟨f,0,none⟩)∧Mv p nb f d 0 600 (Ki E) (.slice none 0 0) (fun _=>True) wo wr [] []∧p.base=nb∧p.g=pl.g∧St E∧E=KD E.N) (fun _ r _=>4-(intOf r).toNat)
 case atStart=>exact⟨0,pl,fg,dg,A,V.1,rfl,rfl,h,o,rfl,K.1,K.2⟩
 case round=>
  clear h o K;obtain⟨q,p,f,d,E,X,rfl,rfl,h,o,C,Y,Z⟩:=hrel;have t:=qZ Y;have al:=qZ Z;have HQ:=qZ X;clear Y Z X;go_wp2_with fail;refine(U _).mono ?_;rintro e w3 ⟨rfl,rfl⟩;by_cases aa:(q:Int)<s
  · have ao:=qZ aa
    have ab:=qZ (show(q:Int)<((4:Nat):Int)from Int.lt_of_lt_of_le aa (Int.le_trans V.2 (by decide)));go_wp2_with fail;rw[←C];refine(DQ t h ⟨o,by omega,by omega⟩).mono ?_;rintro e w4 ⟨p2,f2,d2,E2,rfl,G,aq,ad,ae,af⟩;rw[C]at ad⊢;have ar:=qZ ae;have au:=qZ af;clear h ae af;go_wp2_with fail;go_roundw
    case rel=>exact⟨q+1,p2,f2,d2,E2,Fa ao,by rw[Ax (Int.lt_trans ab.out (by decide))];rfl,rfl,G,aq,ad,ar,au⟩
    case measure=>exact Jr (n:=4) ab (by decide)
  · go_wp2_with fail
    have H:=qZ (IQ t al h.a.JT.ok);obtain⟨t1,t2,t3,t4,t5⟩:=t.emp.tick;have L:=qZ (show(Ki E).tick=_∧(Ki E).flush=_∧(Ki E).whole=_ from⟨t1,t2,t3⟩);have av:(Ki E).logical≤200:=i4 h.a.JT.ok.geo;have g:=Gt h.a (h.blk (i:=0) rfl) (Mw.LW (i:=1) (j:=0) h rfl rfl fun e he=>(by cases he)) H t4 (fun i hi=>by rw[t.out.emp.read (show i<Lj E.N from hi)];exact⟨rfl,aM.1⟩);rw[DO t.out]at g;obtain⟨n,hn⟩:∃n,n=(Ki E).logical:=⟨_,rfl⟩;rw[←hn]at g av;clear hn t1 t2 t3 t4 t5;refine g.mono ?_;rintro e w4 ⟨aw,rfl,ho,m⟩;replace h:=h.got m ho rfl;obtain⟨A',c',M,-⟩:=h.slice 0 rfl;have M:aw=.slice A' n c':=M;subst M;clear g ho m;go_wp2_with fail;go_loopw [41] (fun r wr=>∃q:Nat,q≤n∧r=.int .i64 (q:Int)∧wr=w4) (fun r _=>n-(intOf r).toNat)
    case atStart=>grind
    case round=>
     obtain⟨i,hi,rfl,rfl⟩:=hrel;by_cases N:i<n
     · have ax:(i:Int)<(n:Int):=Int.ofNat_lt.2 N
       have O:=qZ ax;obtain⟨gl,cl,Q⟩:=h.form 0 rfl (Nat.lt_of_le_of_lt (Nat.zero_le _) N);have Q:(.slice A' n c':Value)=.slice (some ⟨gl,0,none⟩) n cl:=Q;cases Q
       have ay:=qZ (show(ed n (An .u8 an))[i]? =some (An .u8 an) by simp_all);have az:=qZ (show∀ag∈ed n (An .u8 an),ag.length=16 from fun ag hr=>by rw[List.eq_of_mem_replicate hr];rfl);clear N;go_wp2_with (first|(refine dO 0 (k:=i) (rows:=ed n (An .u8 an)) h rfl az 35 rfl rfl (by first|rfl|(simp;done)) underlying35 rfl ay bh ?_)|(refine ac rfl 35 _ rfl _ rfl _ bP ?_));go_roundw
       case rel=>exact⟨i+1,Int.ofNat_lt.1 O,by rfl,by omega⟩
       case measure=>first|exact Jq O|exact Jr O (by omega)
     · go_wp2_with fail
       replace h:=h.swap;have g:=JT.BK h.a.JT;rw[show(Ki E).D.N.ops=0 from t.out.ops,show((0:Nat):Int)=0 from rfl,C]at g;refine g.mono ?_;rintro e w5 ⟨rfl,rfl⟩;clear g;go_wp2_with fail;have g:=su h H ⟨Nat.le_of_eq o.symm,by decide,by decide⟩;rw[L.out.2.2]at g;refine g.mono ?_;rintro e w6 ⟨rfl,v6,G,-⟩;clear g h;go_wp2_with fail;have g:=oL (k:=19) G H ⟨Nat.le_of_eq o.symm,by decide,by decide⟩;rw[L.out.2.1]at g;refine g.mono ?_;rintro e w7 ⟨rfl,v7,ah,-⟩;clear g G;go_wp2_with fail;have g:=Eo (k:=19) ah H ⟨Nat.le_of_eq o.symm,by decide,by decide⟩;rw[L.out.1]at g;refine g.mono ?_;rintro e w8 ⟨rfl,v8,u,-⟩;clear g ah;go_wp2_with fail;have g:=JT.BK u.a.JT;rw[show(Ki E).D.N.ops=0 from t.out.ops,show((0:Nat):Int)=0 from rfl,C]at g;refine g.mono ?_;rintro e w9 ⟨rfl,rfl⟩;clear g;go_wp2_with fail;go_ret;have z:=HB.out;have hN:=HN.out;exact⟨rfl,z.trans ⟨u.fr.os,u.fr.tape,u.fr.output,u.fr.size,fun x hx=>u.fr.block x (Nat.lt_of_lt_of_le hx z.size) fun aA=>absurd aA.1 (Nat.not_le.2 (Nat.lt_of_lt_of_le hx hN))⟩⟩
theorem walk(b:List Value)(a1:Int)(W:World)(c:Ku (ed 3 (Kd.int .i64)) b=true)(f:(Lit.int .i64 a1).wf=true):Calls prog 8 #[.agg b.toArray,.int .i64 a1] W fun e g=>e=.returned (.bool true)∧Below W.heap.size W g:=by
 obtain⟨x,y,v,rfl⟩:=BL c;exact walk0 x y v a1 f W
open Go.ChangeShapes Go.WideShapes Go.ChangeAt Go.RowKit
open Go.ChangeMaps (open_string shut_string)

theorem own:ownKnob prog.godebug=none:=by rfl
theorem laidOut:laidOutB prog=true:=by kernel_rfl


def Rn:List Kd:=(ed 3 (Kd.int .i64))
theorem lifted(f:Os)(started:f.Started)(H:Type)(b:TypeId×Value→H):
 ReturnsInHanded {} Tryz.checked f 8 .any (Rows.topEmptySpec.pre6 b prog Tryz.f8 Rows.topEmptyRow.domain false) (Rows.topEmptySpec.post b prog Tryz.f8 false true false false):=by
 refine returnsInHanded_of_change (C:= Tryz.checked) own started (by kernel_rfl) func8
  (ChangeSpec.witness6 (enc:=b) (C:= Tryz.checked) false ⟨#[],#[.agg #[.int .i64 0,.int .i64 0,.int .i64 0],.int .i64 0],[]⟩ 8 (by kernel_rfl) (by kernel_rfl) (by kernel_rfl) (by kernel_rfl)) ?_
 intro W base c w N before g i O _;have e:∀(j:Nat) t v, Tryz.f8.params[j]? =some t→c[j]? =some v→Value.okWide prog W .any base t v:=g;have z:=i;obtain⟨p,q,k,A,rfl,P,Q⟩:=i;have l:DataW.TrodAll b prog W 0 (fun _=>true) true Tryz.f8.params.toList c.toList w p:=k;rw[params8]at l e;obtain⟨n,R,d0,S,B,T,U,rfl,rfl,o,D⟩:=trodAll_cons l;obtain⟨r,V,d1,X,Y,Z,rfl,rfl,rfl,E,G⟩:=trodAll_cons D;obtain⟨rfl,rfl,rfl⟩:=trodAll_nil G;obtain rfl:c= #[n,r]:=by cases c;simp_all
 obtain⟨rfl,rfl⟩:=trodVars_none A;have k0:=o;have I:∀x∈B,x.block<W.heap.size:=by obtain⟨m,J⟩:=k0;exact DataW.trod_lt m _ _ _ J
 obtain⟨K,rfl,L⟩:=yT (d:=8) (ks:=Rn) (by kernel_rfl) (by kernel_rfl) (e 0 23 n rfl rfl) o;obtain⟨a1,rfl,rfl,rfl,u⟩:=open_int underlying3 (e 1 3 r rfl rfl) E;clear k g;refine(walk K a1 W L u).mono fun aa W' ⟨M,bel⟩=> ?_;subst M;exact⟨_,rfl,_,_,_,[],_,[],z,trodAll_mk1 (shut_bool underlying4 _),(trodAll_cons_mk (Below.trod laidOut (by kernel_rfl) (of_decide_eq_true (by kernel_rfl)) k0 bel I) (trodAll_cons_mk (shut_int underlying3 u) (trodAll_mk0))),rfl,bel.frame _,fun h=>by cases h⟩
end topEmpty
end Go.Proofs.YtlkpfnjdbgeifaaGreat
