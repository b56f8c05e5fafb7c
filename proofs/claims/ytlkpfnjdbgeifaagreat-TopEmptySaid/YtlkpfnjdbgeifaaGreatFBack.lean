import Derived.Test.YtlkpfnjdbgeifaaGreatFRegion2
import Derived.Test.YtlkpfnjdbgeifaaGreatFWeave1
set_option maxRecDepth 100000
set_option maxHeartbeats 8000000
set_option linter.unusedVariables false
open Go renaming wpList_load_mid→ed,World→fo,Value→jm,bodyPost_ret→js,heap_alloc_new→lx,Calls→l4,undef→l8,Addr→nr
open Go.Proofs.Tryz renaming underlying62→ej,underlying90→eD,underlying156→hO,prog→iP,underlying55→l5
open Nat renaming le_refl→ek,le_trans→gg
open List renaming replicate→eX,getElem?_eq_some_iff→fj,mem_of_getElem?→hX,getD_eq_getElem?_getD→jd,drop_eq_getElem_cons→jg,mem_append→jt,map_append→jw,set_append_right→jI,length_append→kd,mem_singleton→kk,length_take→kn,length_map→kr,map_cons→ly
open Bool renaming and_eq_true→hG,true_and→kb
open Go.Lit renaming int→hZ
namespace Go.Proofs.YtlkpfnjdbgeifaaGreat
open Go.Proofs.Tryz
open Go.RowKit
section
def Qr(p:Sh)(l:List Sh):Nat:=KE (l++[p])
def OP(p:Sh)(l:List Sh):En:=⟨LB (Qr p l),LC (Qr p l),KQ (Qr p l),KT (l++[p])⟩
def OR(p:Sh)(l:List Sh):Bool:=(p.k==2)&&(p.may&&(!NG p l&&((l.length:Int)==JV p.m-1)))
def MD(p:Sh)(l:List Sh):Bool:=OR p l&&(OP p l).may p.b p.o p.m
def LG:List jm:=enV 0 0 0 an
def M1(p:Sh)(l:List Sh):List jm:=if MD p l then(OP p l).v else LG
theorem cY: iP.built 90 []=some LG.toArray:=by kernel_rfl
theorem wK{d:List Nat}(h:d.length=16): iP.built 90 [(3,.agg (An .u8 d).toArray)]=some (enV 0 0 0 d).toArray:=by
 exact I7
def RC:List jm:=An .u8 an
theorem If:(iP.info? 35).map (fun i=>(i.zero,i.size,i.bytes))=some (some (.agg RC.toArray),16,16):=by kernel_rfl
structure BJ (p:Sh) (l:List Sh) (n:Nat) (A:Option nr) (B base g0:Nat) (w0:fo) (v38 v40 v41 v7:jm) (L:Nat→Bool) (w:fo):Prop where
 h0:w.heap[g0]? =some (.cells p.v.toArray 62 (0,0))
 h1:w.heap[g0+1]? =some (.cells LG.toArray 90 (0,0))
 hr:Rds w B A 23 n (shs l)
 hb:Below g0 w0 w
 hs:base≤w.heap.size
 f38:L 1=true→L 4=false→OwnRows w base 62 23 v38 n (shs l)
 f40:L 3=true→L 4=false→∃g,v40=.slice (some ⟨g,0,none⟩) 1 1∧w.heap[g]? =some (.cells p.v.toArray 62 (0,0))
 f41:L 4=true→L 5=false→OwnRows w base 62 23 v41 (n+1) (shs (l++[p]))
 f7:L 9=true→∃g,v7=.pointer (some ⟨g,0,none⟩)∧base≤g∧(L 10=false→w.heap[g]? =some (.cells RC.toArray 35 (0,0)))∧(L 10=true→w.heap[g]? =some (.cells (An .u8 (KT (l++[p]))).toArray 35 (0,0)))
 f10:L 10=true→L 9=true
theorem BJ.below{p:Sh}{l:List Sh}{n:Nat}{A:Option nr}{B base g0:Nat}{w0:fo}{v38 v40 v41 v7:jm}{L:Nat→Bool}{w w':fo}(h:BJ p l n A B base g0 w0 v38 v40 v41 v7 L w)(hb:Below w.heap.size w w')(hB:B≤base):BJ p l n A B base g0 w0 v38 v40 v41 v7 L w':=
 ⟨aa h.h0 hb,aa h.h1 hb,h.hr.below hb (gg hB h.hs),h.hb.trans (hb.mono (Nat.le_of_lt (af h.h0))),gg h.hs hb.size,fun a b=>(h.f38 a b).below hb,fun a b=>by
  obtain⟨g,e,hg⟩:=h.f40 a b;exact⟨g,e,aa hg hb⟩,fun a b=>(h.f41 a b).below hb,fun a=>by
  obtain⟨g,e,hg,h2,h3⟩:=h.f7 a;exact⟨g,e,hg,fun x=>aa (h2 x) hb,fun x=>aa (h3 x) hb⟩,h.f10⟩
theorem BJ.same{p:Sh}{l:List Sh}{n:Nat}{A:Option nr}{B base g0:Nat}{g:fo}{i j k m:jm}{L c:Nat→Bool}{w:fo}(h:BJ p l n A B base g0 g i j k m L w)(r:c 1=L 1)(t:c 3=L 3)(f:c 4=L 4)(u:L 5=true→c 5=true)(o:c 9=L 9)(q:c 10=L 10):BJ p l n A B base g0 g i j k m c w:=
 ⟨h.h0,h.h1,h.hr,h.hb,h.hs,by rw[r,f];exact h.f38,by rw[t,f];exact h.f40,fun a b=>h.f41 (by rw[←f];exact a) (by cases e:L 5 with|false=>rfl|true=>rw[u e]at b;cases b),by rw[o,q];exact h.f7,by rw[o,q];exact h.f10⟩
theorem FS(p:Sh)(l:List Sh)(c:OR p l=true)(b:Bool)(h:K0 (KT (l++[p])) (KQ (KE (l++[p]):Int)) (LB (KE (l++[p]):Int)) (LC (KE (l++[p]):Int)) 1 p.b p.o p.m=b):
 MD p l=b∧M1 p l=if b then enV (LB (KE (l++[p]):Int)) (LC (KE (l++[p]):Int)) (KQ (KE (l++[p]):Int)) (KT (l++[p]))else LG:=by
 have e1:(OP p l).may p.b p.o p.m=b:=h;have e2:MD p l=b:=by unfold MD;rw[c,e1,kb]
 have e3:(OP p l).v=enV (LB (KE (l++[p]):Int)) (LC (KE (l++[p]):Int)) (KQ (KE (l++[p]):Int)) (KT (l++[p])):=rfl;refine⟨e2,?_⟩;unfold M1;rw[e2,e3]
theorem r6(l s r x:Int)(d:List Nat):(enV l s r d).set 0 (.int .i64 x)=enV x s r d∧(enV l s r d).set 1 (.int .i64 x)=enV l x r d∧(enV l s r d).set 2 (.int .i64 x)=enV l s x d:=⟨rfl,rfl,rfl⟩
theorem Bc(l:List Sh)(p:Sh):shs l++shs [p]=shs (l++[p]):=by simp[shs]
end
theorem yao{A:Prop}(h:A:=by
 go_wp2_with (first|(refine au 62 (.tmp 2) rfl w.heap.size 0 rfl rfl _ _ (ai H02) underlying62 rfl hV ?_));refine(bW _ _ _ _ _ _ _ _ _ HP.1 HP.2).mono ?_;rw[HM.out];rintro e w3 ⟨rfl,hb3⟩;have h13:=aa h12 hb3;have hbel3:=hbel2.trans (hb3.mono hbel2.size);clear c16 c17 c18 c19 c20 c21 c22 hb3 h12 hbel2;go_wp2_with (first|(refine ac rfl 90 _ rfl _ rfl _ cY ?_)|(refine ag rfl 90 (.tmp 4) (.tmp 35) rfl (w.heap.size+1) LG rfl rfl 90 _ h13 (bo rfl _ _ _) rfl (aO _ _ _ _) ?_;intro w9 hU9));refine bodyPost_ret (v:=.tuple #[.agg LG.toArray,.bool false]) ?_ rfl ⟨rfl,hU9.below hbel3 (by omega)⟩;rw[aD rfl _ _ _ _ _ _ _ rfl hU9.at_ underlying90 rfl (bo rfl _ _ _)];rfl):A:=h
theorem ybq{A:Prop}(h:A:=by rw[aD rfl _ _ _ _ _ _ _ rfl hU9.at_ underlying90 rfl (bo rfl _ _ _)];rfl):A:=h
section
theorem Ah(p:Sh)(l:List Sh)(A:Option nr)(n c B:Nat)(w:fo)(t:p.ok)(m:Rds w B A 23 n (shs l))(L:B≤w.heap.size)(u:∀x∈l,x.ok)(M:n≤1000)(g:OR p l=false):
 l4 iP 142 #[.agg p.v.toArray,.slice A n c] w fun e z=>e=.returned (.tuple #[.agg (M1 p l).toArray,.bool (MD p l)])∧Below w.heap.size w z:=by
 have C:l.length=n:=by have:=m.1;rwa [shs,kr]at this
 have o:MD p l=false:=by unfold MD;rw[g];rfl
 have D:M1 p l=LG:=by unfold M1;rw[o];rfl
 rw[o,D];have E:0≤JV p.m∧JV p.m≤7:=by have:=aI p.m;unfold JV;split<;>omega
 obtain⟨Q,E⟩:=E;unfold OR at g;rw[C]at g;generalize G:NG p l=a at*;have N:=qZ G;have HP:=qZ t;have O:=qZ u;have hV:=aQ p.d t.1 p.r p.l p.s p.k p.b p.o p.m;have q:=bu w (.cells p.v.toArray 62) (.cells LG.toArray 90);have H:=aj (w.alloc (.cells p.v.toArray 62)) (.cells LG.toArray 90) (w.heap.size+1) (by simp);have j:=cG w (.cells p.v.toArray 62) (.cells LG.toArray 90);have I:=m.below j L;have P:=qZ g;clear G C u m o D g;go_enter func142, ntmps142;go_upto_region 1 with fail
 change Code.wp _ _ _ _ ((w.alloc (.cells p.v.toArray 62)).alloc (.cells LG.toArray 90));have J:B≤((w.alloc (.cells p.v.toArray 62)).alloc (.cells LG.toArray 90)).heap.size:=by simp;omega
 generalize (w.alloc (.cells p.v.toArray 62)).alloc (.cells LG.toArray 90)=R at*;go_wp2_with fail;refine(pf p _ _ _ _ _ l _ q HP I J O M).mono ?_;rw[N.out];rintro e S ⟨rfl,k⟩;have r:=aa q k;have h12:=aa H k;have hbel2:=j.trans (k.mono j.size);have H02:=qZ r;obtain⟨c16,c17,c18,c19,c20,c21,c22⟩:=bq HP.1 r;clear q H I j J k r;by_cases b:p.k=2
 · have t1:(p.k !=2)=false:=by simpa using b
   have k2:(p.k==2)=true:=by simpa using b
   cases f:p.may with
   |false=>
    have HM:=qZ (show K0 p.d p.r p.l p.s p.k p.b p.o p.m=false from f);clear f b k2;exact yao
   |true=>
    have HM:=qZ (show K0 p.d p.r p.l p.s p.k p.b p.o p.m=true from f);have i:=P.out;rw[k2,f,kb,kb]at i;cases a with
    |true=>
     clear f b k2 i;exact yao
    |false=>
     have t4:((n:Int) !=JV p.m-1)=true:=by
      rw[bne_iff_ne];intro h;rw[h]at i;simp at i
     clear f b k2 i;go_wp2_with (first|(refine au 62 (.tmp 2) rfl w.heap.size 0 rfl rfl _ _ (ai H02) ej rfl hV ?_));refine(bW _ _ _ _ _ _ _ _ _ HP.1 HP.2).mono ?_;rw[HM.out];rintro e w3 ⟨rfl,hb3⟩;have h13:=aa h12 hb3;have hbel3:=hbel2.trans (hb3.mono hbel2.size);have K:=aa H02 hb3;clear c16 c17 c18 c19 c20 c21 c22 hb3 h12 hbel2;obtain⟨c16,c17,c18,c19,c20,c21,c22⟩:=bq HP.1 K;clear K;go_wp2_with (first|(go_at_call 115;refine(bA _ _).mono ?_;rintro e z ⟨rfl,rfl⟩)|(refine ac rfl 90 _ rfl _ rfl _ cY ?_)|(refine ag rfl 90 (.tmp 4) (.tmp 35) rfl (w.heap.size+1) LG rfl rfl 90 _ h13 (bo rfl _ _ _) rfl (aO _ _ _ _) ?_;intro w9 hU9));refine js (v:=.tuple #[.agg LG.toArray,.bool false]) ?_ rfl ⟨rfl,hU9.below hbel3 (by omega)⟩;exact ybq
 · have t1:(p.k !=2)=true:=by simpa using b
   clear b;go_wp2_with (first|(refine ac rfl 90 _ rfl _ rfl _ cY ?_)|(refine ag rfl 90 (.tmp 4) (.tmp 35) rfl (w.heap.size+1) LG rfl rfl 90 _ h12 (bo rfl _ _ _) rfl (aO _ _ _ _) ?_;intro w9 hU9));refine js (v:=.tuple #[.agg LG.toArray,.bool false]) ?_ rfl ⟨rfl,hU9.below hbel2 (by omega)⟩;exact ybq
end
section
theorem rF(a:nr)(c B:Nat)(l:List Sh)(w:fo)(g:Rds w B (some a) 23 0 (shs l))(i:B≤w.heap.size):l4 iP 205 #[.slice (some a) 0 c] w fun e b=>
 ∃v,e=.returned v∧OwnRows b w.heap.size 62 23 v 0 (shs l)∧Below w.heap.size w b:=by
 have m:=fun W:fo=>Lib.run_eql_slice_nil (P:= iP) W 156 62 (some a) 0 c 0 0 hO
 have j:OwnRows (w.alloc (.cells #[] 62)) w.heap.size 62 23 (.slice (some ⟨w.heap.size,0,none⟩) 0 0) 0 []:=⟨World.ownsRow_made w #[] 0 (ek _) (by omega) rfl,rfl,by simp⟩;have f:Below w.heap.size w (w.alloc (.cells #[] 62)):=(Below.refl _ _).alloc (ek _) _;have k:Rds (w.alloc (.cells #[] 62)) B (some a) 23 0 (shs l):=g.below f i;go_enter func205, ntmps205;go_wp2_with (at_builtin;go_must (refine aN rfl (.tmp 5) (.tmp 6) 156 rfl 62 _ 23 72 hO fR rfl (by decide) j f rfl rfl k (mL _) (by omega) (by omega) (by simp) (ek _) ?_));exact yff
theorem Af(p:Sh)(l:List Sh)(A:Option nr)(n c B:Nat)(w:fo)(hp:p.ok)(hr:Rds w B A 23 n (shs l))(hB:B≤w.heap.size)(a3:∀x∈l,x.ok)(hn:n≤1000)(bm:∀w':fo,Rds w' B A 23 n (shs l)→B≤w'.heap.size→l4 iP 205 #[.slice A n c] w' fun e aw=>∃v,e=.returned v∧OwnRows aw w'.heap.size 62 23 v n (shs l)∧Below w'.heap.size w' aw)(hc:OR p l=true):
 l4 iP 142 #[.agg p.v.toArray,.slice A n c] w fun e w'=>e=.returned (.tuple #[.agg (M1 p l).toArray,.bool (MD p l)])∧Below w.heap.size w w':=by
 have hl:l.length=n:=by have:=hr.1;rwa [shs,kr]at this
 have aM:=hc;unfold OR at aM;simp only[hG,Bool.not_eq_true',beq_iff_eq]at aM;obtain⟨hk,hm,ha,hs⟩:=aM;rw[hl]at hs;have t1:(p.k !=2)=false:=by simpa using hk
 have t4:((n:Int) !=JV p.m-1)=false:=by simpa using hs
 have a4:0≤JV p.m∧JV p.m≤7:=by have:=aI p.m;unfold JV;omega
 obtain⟨bH,a4⟩:=a4;have bI:n≤6:=by omega
 have HA:=qZ ha;have HM:=qZ (show K0 p.d p.r p.l p.s p.k p.b p.o p.m=true from hm);have HC:=qZ hc;have HL:=qZ hl;have m:=qZ hp;have a5:=qZ a3;have hV:=aQ p.d hp.1 p.r p.l p.s p.k p.b p.o p.m;have bn:=qZ (bc hp.1 p.r p.l p.s p.k p.b p.o p.m);have bp: iP.built 90 []=some LG.toArray:=cY;clear hk hm ha hs hc hl a3;have h0:=bu w (.cells p.v.toArray 62) (.cells LG.toArray 90);have h1:=aj (w.alloc (.cells p.v.toArray 62)) (.cells LG.toArray 90) (w.heap.size+1) (by simp);have ay:=cG w (.cells p.v.toArray 62) (.cells LG.toArray 90);have aN:=hr.below ay hB;clear bp hr;go_enter func142, ntmps142;go_upto_region 1 with fail
 change Code.wp _ _ _ _ ((w.alloc (.cells p.v.toArray 62)).alloc (.cells LG.toArray 90));have az:B≤((w.alloc (.cells p.v.toArray 62)).alloc (.cells LG.toArray 90)).heap.size:=by simp;omega
 generalize (w.alloc (.cells p.v.toArray 62)).alloc (.cells LG.toArray 90)=w1 at*;go_wp2_with fail;refine(pf p _ _ _ _ _ l _ h0 m aN az a5 hn).mono ?_;rw[HA.out];rintro e w2 ⟨rfl,V⟩;have aA:=aa h0 V;have a6:=aa h1 V;have a7:=aN.below V az;have aS:=ay.trans (V.mono ay.size);have aT:=gg az V.size;obtain⟨q,r,u,z,E,G,H⟩:=bq m.1 aA;clear h0 h1 aN ay az V;go_wp2_with (first|(refine au 62 (.tmp 2) rfl w.heap.size 0 rfl rfl _ _ (ai aA) ej rfl hV ?_));refine(bW _ _ _ _ _ _ _ _ _ m.1 m.2).mono ?_;rw[HM.out];rintro e w3 ⟨rfl,W⟩;have aU:=aa aA W;have aV:=aa a6 W;have a8:=a7.below W aT;have a9:=aS.trans (W.mono aS.size);have Y:=gg aT W.size;clear q r u z E G H aA a6 a7 aS aT W;obtain⟨q,r,u,z,E,G,H⟩:=bq m.1 aU;go_wp2_with (go_at_call 115;refine(bA _ _).mono ?_;rintro e w' ⟨rfl,rfl⟩);have br:(l++[p]).length=n+1:=by rw[kd,HL.out];rfl
 have aB:∀x∈l++[p],x.ok:=by
  intro x hx;rcases jt.1 hx with h|h
  · exact a5 x h
  · simp_all
 have aC:=be fun y hy=>(aB y hy).1
 have bJ:=gH (l++[p]);have ba:(iP.info? 35).map (·.size)=some (An .u8 (KT (l++[p]))).length:=by rw[ah,aC];kernel_rfl
 have bb:(An .u8 (KT (l++[p]))).length=16:=by rw[ah,aC]
 have g2:=af aV
 refine dz (X:=jm×jm×jm×jm) (fun x=> [(some 37,.slice A n c),(some 38,x.1),(some 39,.agg p.v.toArray),(some 40,x.2.1),(some 41,x.2.2.1),(some 42,.tuple #[.agg (An .u8 (KT (l++[p]))).toArray,.int .u64 (KE (l++[p]):Int)]),(some 36,.tuple #[.agg (An .u8 (KT (l++[p]))).toArray,.int .u64 (KE (l++[p]):Int)]),(some 43,.agg (An .u8 (KT (l++[p]))).toArray),(some 44,.int .u64 (KE (l++[p]):Int)),(some 7,x.2.2.2),(none,l8),(some 8,.int .u64 (KE (l++[p]):Int))])
  (fun x L w'=>BJ p l n A B w3.heap.size w.heap.size w x.1 x.2.1 x.2.2.1 x.2.2.2 L w') ?_ ?_ ?_
 · exact⟨(l8,l8,l8,l8),fun L hL=>⟨aU,aV,a8,a9.drew,ek _,(fun h=>by simp_all),(fun h=>by simp_all),(fun h=>by simp_all),(fun h=>by simp_all),(fun h=>by simp_all)⟩⟩
 · refine⟨rr,?_,?_,?_,?_,?_,?_,?_,?_,?_,?_,?_,trivial⟩
   all_goals
    intro ux L w' hL hpre hJ a ha he;try simp[Region.binds]at hpre
   · refine dM ?_
     intro K HK;refine(bm w' hJ.out.hr (gg Y hJ.out.hs)).mono ?_;rintro e aw ⟨v,rfl,j,hb⟩;have f:=hJ.out.below hb Y;exact HK _ _ ⟨(v,ux.2.1,ux.2.2.1,ux.2.2.2),v,rfl,rfl,f.h0,f.h1,f.hr,f.hb,f.hs,fun _ _=>j.lower hJ.out.hs,f.f40,f.f41,f.f7,f.f10⟩
   · refine Wn ?_
     refine wp_load_mid 62 (.tmp 2) rfl w.heap.size 0 ev p.v _ (ai hJ.out.h0) ej rfl hV ?_;exact⟨ux,_,rfl,rfl,hJ.out.same rfl rfl rfl id rfl rfl⟩
   · refine Wn ?_
     refine cT 156 (.tmp 39) rfl 62 p.v _ 23 72 (by rw[ha.out];exact aY (i:=2) rfl hpre (by simp) rfl) hO fR bn.out (by decide) (by decide) ?_;have f:=hJ.out.below ((Below.refl _ w').alloc (ek _) (.cells p.v.toArray 62)) Y;exact⟨(ux.1,.slice (some ⟨w'.heap.size,0,none⟩) 1 1,ux.2.2.1,ux.2.2.2),_,rfl,rfl,f.h0,f.h1,f.hr,f.hb,f.hs,f.f38,fun _ _=>⟨_,rfl,lx _ _⟩,f.f41,f.f7,f.f10⟩
   · refine Wn ?_
     obtain⟨p1,p3,-⟩:=hpre;have j:=hJ.out.f38 p1 hL;obtain⟨g,bs,hg⟩:=hJ.out.f40 p3 hL;refine bQ (.tmp 38) (.tmp 40) 156 rfl 62 _ 23 72 hO fR rfl (by decide) j (Below.refl w3.heap.size w') (by rw[ha.out];exact aY (i:=1) rfl p1 (by simp) rfl) (by rw[ha.out,aY (i:=3) rfl p3 (by simp) rfl];exact bs) (vr m hg) (mL _) (by unfold maxLen;omega) (by omega) hJ.out.hs (ek _) ?_;intro v5 w5 bd I bf _;rw[Bc]at bd;refine⟨(ux.1,ux.2.1,v5,ux.2.2.2),v5,rfl,rfl,(I.block _ (by omega)).trans hJ.out.h0,(I.block _ g2).trans hJ.out.h1,hJ.out.hr.below I Y,hJ.out.hb.trans (I.mono (by omega)),gg hJ.out.hs I.size,fun _ h=> ?_,fun _ h=> ?_,fun _ _=>bd,fun h=> ?_,hJ.out.f10⟩
     · simp[JW]at h
     · simp[JW]at h
     · obtain⟨g7,e7,aF,z1,z2⟩:=hJ.out.f7 h
       exact⟨g7,e7,aF,fun ak=>aR (z1 ak) bf (fun e=>nQ j.1 (z1 ak) (by decide) e.symm),fun ak=>aR (z2 ak) bf (fun e=>nQ j.1 (z2 ak) (by decide) e.symm)⟩
   · refine Wn ?_
     have j:=hJ.out.f41 hpre hL;obtain⟨A',c',e',-,-⟩:=j.slice;have bt:a.eval (.tmp 41)=.slice A' (n+1) c':=by rw[ha.out,aY (i:=4) rfl hpre (by simp) rfl];exact e'
     rw[e']at j;clear ha;have HJ:=qZ hJ.out;have HR:=qZ j.rds;clear hJ j e';refine aP fun K HK=> ?_;unfold Oper.wp;simp only[execOp,resolve,List.map_toArray,ly,List.map_nil,bt];go_simp;refine(tt (l++[p]) A' (n+1) c' _ w' HR (ek _) aB (by omega)).mono ?_;rintro e aw ⟨rfl,hb⟩;have f:=HJ.out.below hb Y;exact HK _ _ ⟨ux,_,rfl,rfl,f.same rfl rfl rfl (fun _=>rfl) rfl rfl⟩
   · refine Wn ?_
     refine cZ (.tmp 42) (.inl rfl) _ (by rw[ha.out];exact aY (i:=5) rfl hpre (by simp) rfl) ⟨ux,_,rfl,rfl,hJ.out.same rfl rfl rfl id rfl rfl⟩
   · refine Wn ?_
     refine lG (.tmp 36) 0 rfl _ (by rw[ha.out];exact aY (i:=6) rfl hpre (by simp) rfl) _ rfl ⟨ux,_,rfl,rfl,hJ.out.same rfl rfl rfl id rfl rfl⟩
   · refine Wn ?_
     refine lG (.tmp 36) 1 rfl _ (by rw[ha.out];exact aY (i:=6) rfl hpre (by simp) rfl) _ rfl ⟨ux,_,rfl,rfl,hJ.out.same rfl rfl rfl id rfl rfl⟩
   · refine Wn ?_
     refine yi 35 rfl _ _ _ If ?_;have f:=hJ.out.below ((Below.refl _ w').alloc (ek _) (.cells RC.toArray 35)) Y
     exact⟨(ux.1,ux.2.1,ux.2.2.1,.pointer (some ⟨w'.heap.size,0,none⟩)),_,rfl,rfl,f.h0,f.h1,f.hr,f.hb,f.hs,f.f38,f.f40,f.f41,fun _=>⟨_,rfl,hJ.out.hs,fun _=>lx _ _,fun h=>by
      have h9:=hJ.out.f10 h;simp_all⟩,fun _=>rfl⟩
   · refine Wn ?_
     have p9:L 9=true:=by simp[hpre]
     have p7:L 7=true:=by simp[hpre]
     have p5:L 5=true:=by simp[hpre]
     have p4:L 4=true:=by simp[hpre]
     obtain⟨g7,e7,aF,z1,-⟩:=hJ.out.f7 p9;refine lE 35 (.tmp 7) (.tmp 43) rfl g7 (An .u8 (KT (l++[p]))) (by rw[ha.out,aY (i:=9) rfl p9 (by simp) rfl];exact e7) (by rw[ha.out];exact aY (i:=7) rfl p7 (by simp) rfl) 35 _ (z1 hL) ba (by rw[bb];rfl) (av _ _) ?_;intro w5 Z;exact⟨ux,_,rfl,rfl,Z.old hJ.out.h0 (by omega),Z.old hJ.out.h1 (by omega),hJ.out.hr.upd Z (by omega),Z.below hJ.out.hb (by omega),by rw[Z.size];grind,(fun _ h=>by have h:L 4=false:=h;simp_all),(fun _ h=>by have h:L 4=false:=h;simp_all),(fun _ h=>by have h:L 5=false:=h;simp_all),fun _=>⟨g7,e7,aF,(fun h=>by simp[JW]at h),fun _=>Z.at_⟩,fun _=>p9⟩
   · refine Wn ?_
     have p8:L 8=true:=by simp[hpre]
     refine cZ (.tmp 44) (.inr rfl) _ (by rw[ha.out];exact aY (i:=8) rfl p8 (by simp) rfl) ⟨ux,_,rfl,rfl,hJ.out.same rfl rfl rfl id rfl rfl⟩
 · intro x L k hL hJ
   obtain⟨g7,e7,aF,-,z2⟩:=hJ.f7 (hL 9 (by decide));have h7:=z2 (hL 10 (by decide));have aG:=hJ.h0;have aW:=hJ.h1;have bg:=hJ.hb;obtain⟨bK,bL,bM,v7⟩:=x;simp only at e7;subst e7;have N:=qZ aC;have bh:=qZ aB;clear hJ hL aB br a8 a9 aU aV q r u z E G H aC;obtain⟨q,r,u,z,E,G,H⟩:=bq m.1 aG;simp only[List.foldl_cons,List.foldl_nil];go_simp;have HE:=qZ (FS p l HC);have bw:=qZ (jZ (fun y hy=>(bh y hy).1) (fun y hy=>(bh y hy).2));have bx:=bo N 0 0 0;have bz:=qZ (ax N 0 0 0);have bB:=wK N;have aH:w.heap.size≠k.heap.size:=by have:=af aG;omega
   have aJ:w.heap.size+1≠k.heap.size:=by have:=af aW;omega
   have al:=bg.size;generalize KT (l++[p])=D at*;generalize KE (l++[p])=M at*;have aK:=bo N (LB (M:Int)) (LC (M:Int)) (KQ (M:Int));have bC:=qZ (ax N (LB (M:Int)) (LC (M:Int)) (KQ (M:Int)));clear z2 bb;go_wp2_with (first|(refine ed rfl 35 (.tmp 7) rfl g7 0 rfl _ _ (ai h7) underlying35 rfl ba ?_)|(refine ac rfl 90 _ rfl _ rfl _ bB ?_)|(refine ag rfl 90 (.tmp 9) (.tmp 46) rfl k.heap.size (enV 0 0 0 D) rfl rfl 90 _ (aj k _ _ rfl) bx (by rw[bz.out];rfl) (aO _ _ _ _) ?_;intro w5 an;have ab:=an.at_;have bj:=an.old (am aG _) aH;have bk:=an.old (am aW _) aJ;have I:=an.below (bg.alloc al _) al;clear q r u z E G H));refine(kf (M:Int) _ (by omega) (by omega)).mono ?_;rintro e w' ⟨rfl,rfl⟩;have f0:=ao ab 0;have f1:=ao ab 1;have f2:=ao ab 2;obtain⟨c0,c1,c2,-⟩:=oU ab;have U1:=ar (i:=2) ab (.int .i64 (KQ (M:Int)));have U2:=ar (i:=0) U1.at_ (.int .i64 (LB (M:Int)));have U3:=ar (i:=1) U2.at_ (.int .i64 (LC (M:Int)));have O:=U3.at_;rw[(r6 _ _ _ _ _).2.2,(r6 _ _ _ _ _).1,(r6 _ _ _ _ _).2.1]at O;have HF:=qZ (And.intro O (And.intro (U3.old (U2.old (U1.old bj aH) aH) aH) (And.intro (U3.old (U2.old (U1.old bk aJ) aJ) aJ) (U3.below (U2.below (U1.below I al) al) al))));clear U1 U2 U3 O ab bj bk I an aG aW h7;go_upto_region 7 with fail
   generalize ((w5.setCell ⟨k.heap.size,2,none⟩ (.int .i64 (KQ (M:Int)))).setCell ⟨k.heap.size,0,none⟩ (.int .i64 (LB (M:Int)))).setCell ⟨k.heap.size,1,none⟩ (.int .i64 (LC (M:Int)))=w6 at*;obtain⟨O,aX,aL,ad⟩:=HF;clear f0 f1 f2 c0 c1 c2;obtain⟨q,r,u,z,E,G,H⟩:=bq m.1 aX;have bD:=aQ D N (KQ (M:Int)) (LB (M:Int)) (LC (M:Int)) 1 p.b p.o p.m;have bE:=qZ (bc N (KQ (M:Int)) (LB (M:Int)) (LC (M:Int)) 1 p.b p.o p.m);go_wp2_with (refine ed rfl 90 (.tmp 9) rfl k.heap.size 0 rfl _ _ (ai O) eD rfl aK ?_);refine(ep p.b p.o p.m (LB (M:Int)) (LC (M:Int)) (KQ (M:Int)) D _ N bw).mono ?_;cases T:K0 D (KQ (M:Int)) (LB (M:Int)) (LC (M:Int)) 1 p.b p.o p.m with
   |false=>
    have E1:=qZ (HE false T).1;have E2:=qZ (show M1 p l=LG from(HE false T).2);have HO:=qZ (show Ox D (KQ (M:Int)) (LB (M:Int)) (LC (M:Int)) p.b p.o p.m=zeroV by unfold Ox;rw[T];rfl);rw[HO.out];clear T;rintro e R ⟨rfl,S⟩;have aq:=aa aL S;have U:=ad.trans (S.mono ad.size);have aZ:w.heap.size+1≠R.heap.size:=by have:=af aq;omega
    clear S aX aL O ad q r u z E G H;go_wp2_with (first|(refine ag rfl 62 (.tmp 10) (.tmp 65) rfl R.heap.size zeroV rfl rfl 62 _ (aj R _ _ rfl) (aQ _ rfl _ _ _ _ _ _ _) rfl (aE _ _ _ _ _ _ _ _) ?_;intro w8 ae;have a1:=ae.old (am aq _) aZ;have a2:=ae.below (U.alloc U.size _) U.size)|(refine ac rfl 90 _ rfl _ rfl _ cY ?_)|(refine ag rfl 90 (.tmp 4) (.tmp 69) rfl (w.heap.size+1) LG rfl rfl 90 _ a1 (bo rfl _ _ _) rfl (aO _ _ _ _) ?_;intro w9 hU9));refine js (v:=.tuple #[.agg LG.toArray,.bool false]) ?_ rfl ⟨by rw[E1.out,E2.out],hU9.below a2 (by omega)⟩;exact ybq
   |true=>
    have E1:=qZ (HE true T).1;have E2:=qZ (show M1 p l=enV (LB (M:Int)) (LC (M:Int)) (KQ (M:Int)) D from(HE true T).2);have HO:=qZ (show Ox D (KQ (M:Int)) (LB (M:Int)) (LC (M:Int)) p.b p.o p.m=shV D (KQ (M:Int)) (LB (M:Int)) (LC (M:Int)) 1 p.b p.o p.m by unfold Ox;simp_all);rw[HO.out];clear T;rintro e R ⟨rfl,S⟩;have aq:=aa aL S;have bl:=aa O S;have U:=ad.trans (S.mono ad.size);have aZ:w.heap.size+1≠R.heap.size:=by have:=af aq;omega
    have bF:k.heap.size≠R.heap.size:=by have:=af bl;omega
    clear S aX aL O ad q r u z E G H;go_wp2_with (first|(refine ag rfl 62 (.tmp 10) (.tmp 65) rfl R.heap.size (shV D (KQ (M:Int)) (LB (M:Int)) (LC (M:Int)) 1 p.b p.o p.m) rfl rfl 62 _ (aj R _ _ rfl) bD (by rw[bE.out];rfl) (aE _ _ _ _ _ _ _ _) ?_;intro w8 ae;have a1:=ae.old (am aq _) aZ;have bG:=ae.old (am bl _) bF;have a2:=ae.below (U.alloc U.size _) U.size)|(refine ed rfl 90 (.tmp 9) rfl k.heap.size 0 rfl _ _ (ai bG) eD rfl aK ?_)|(refine ag rfl 90 (.tmp 4) (.tmp 70) rfl (w.heap.size+1) (enV (LB (M:Int)) (LC (M:Int)) (KQ (M:Int)) D) rfl rfl 90 _ a1 aK (by rw[bC.out];rfl) (aO _ _ _ _) ?_;intro w9 hU9));refine js (v:=.tuple #[.agg (enV (LB (M:Int)) (LC (M:Int)) (KQ (M:Int)) D).toArray,.bool true]) ?_ rfl ⟨by rw[E1.out,E2.out],hU9.below a2 (by omega)⟩;rw[aD rfl _ _ _ _ _ _ _ rfl hU9.at_ eD rfl aK];rfl
theorem uF(p:Sh)(l:List Sh)(A:Option nr)(n c B:Nat)(w:fo)(k:p.ok)(m:Rds w B A 23 n (shs l))(q:B≤w.heap.size)(r:∀x∈l,x.ok)(g:n≤1000):
 l4 iP 142 #[.agg p.v.toArray,.slice A n c] w fun e f=>e=.returned (.tuple #[.agg (M1 p l).toArray,.bool (MD p l)])∧Below w.heap.size w f:=by
 cases t:OR p l with
 |false=>exact Ah p l A n c B w k m q r g t
 |true=>
  refine Af p l A n c B w k m q r g (fun f i j=> ?_) t;by_cases u:n=0
  · cases A with
    |none=>exact mC none n c B l f i j g (fun a h=>by cases h)
    |some a=>subst u;exact rF a c B l f i j
  · obtain⟨b,o,rfl,-⟩:=i.2.2 (Nat.pos_of_ne_zero u)
    exact mC _ n c B l f i j g (fun a h=>by grind)
end
theorem DZ{A:Prop}(h:A:=by
 rintro e w' ⟨rfl,hb⟩;go_wp2_with fail;go_ret;exact⟨rfl,hb⟩):A:=h
section
theorem Hy:flat iP 6 62 =some (eX 16 (Kd.int .u8)++[.int .i64,.int .i64,.int .i64,.int .i64,.int .i64,.int .i64,.int .i64]):=by kernel_rfl
theorem eqSh:Og iP 6 62 =true:=by kernel_rfl
theorem Hz:flat iP 6 90 =some ([.int .i64,.int .i64,.int .i64]++eX 16 (Kd.int .u8)):=by kernel_rfl
theorem eqEn:Og iP 6 90 =true:=by kernel_rfl
def D1:List Nat:=[1,2,0,0,0,0,0,0,0,0,0,0,0,0,0,0]
def A1:List jm:=shV D1 1 3 9 1 2 1 7
def B1:Sh:=⟨an,3,0,0,1,2,1,7⟩
def es1:List En:=[⟨3,9,1,D1⟩,⟨0,0,3,an⟩]
def P1:Sh:=KY es1 2 1 7
def Q1:List Nat:=Lo D1 1 3 9 1 2 1 7
theorem li:K0 D1 1 3 9 1 2 1 7=true:=by decide+kernel
theorem Ce:K0 an 3 0 0 1 2 1 7=true:=by decide+kernel
theorem Jg:No es1 2 1 7=true:=by decide+kernel
theorem J6:NV Kp=false:=by decide+kernel
theorem uG:MD P1 [B1]=true:=by decide+kernel
theorem FT:(OP P1 [B1]).v=enV 3 9 1 D1:=by kernel_rfl
theorem u9: iP.built 35 [(0,.int .u8 1),(1,.int .u8 2)]=some (An .u8 D1).toArray:=by kernel_rfl
theorem kI: iP.built 90 [(0,.int .i64 3),(1,.int .i64 9),(2,.int .i64 1),(3,.agg (An .u8 D1).toArray)]=some (enV 3 9 1 D1).toArray:=by kernel_rfl
theorem gY: iP.built 90 [(2,.int .i64 3)]=some (enV 0 0 3 an).toArray:=by kernel_rfl
theorem GK:Ox D1 1 3 9 2 1 7=A1:=by unfold Ox;rw[li];rfl
theorem GJ:Ox an 3 0 0 2 1 7=B1.v:=by unfold Ox;rw[Ce];rfl
theorem IJ(w:fo):(Instr.buildSlice 116 2 #[(0,.agg (enV 3 9 1 D1).toArray),(1,.agg (enV 0 0 3 an).toArray)]).run iP w=.ok (.slice (some ⟨w.heap.size,0,none⟩) 2 2) (w.alloc (.cells (ens es1).flatten.toArray 90)):=by kernel_rfl
theorem OO{w:fo}{g C:Nat}{b:List (List jm)}{t:TypeId}{fr:Nat×Nat}(h:w.heap[g]? =some (.cells b.flatten.toArray t fr))(c:∀r∈b,r.length=C):Rds w w.heap.size (some ⟨g,0,none⟩) C b.length b:=by
 refine⟨rfl,c,fun _=>⟨g,0,rfl,af h,fun i r j u e f=> ?_⟩⟩;have hj:j<C:=by rw[←c r (hX e)];exact(fj.1 f).1
 rw[ae h,Nat.zero_add,List.getElem?_toArray,aW c e hj,f]
theorem pB{P:Program}{c:Array Oper}{rest:List Oper}{o:Oper}{a:Act}{w:fo}{Q:Exit→Act→fo→Prop}(g:o.guard=none)(t:TypeId)(len:Nat)(aT:Array (Nat×Operand))(j:o.op=.buildSlice t len aT)(b:List (Nat×jm))(k:aT.toList.map (fun p=>(p.1,a.eval p.2))=b)(v:jm)(f:fo)(l:(Instr.buildSlice t len b.toArray).run P w=.ok v f)(h:wpList P c Q rest (a.put o.dst v) f):wpList P c Q (o::rest) a w:=by
 refine wpList_plain g fun K m=> ?_;have e:(aT.map fun(i,x)=>(i,a.eval x))=b.toArray:=by rw[←k];apply Array.toList_inj.1;simp
 unfold Oper.wp execOp;simp only[j,e,Sem.run_bind,l,Result.andThen_ok];exact m _ _ h
theorem um:∀r∈ens es1,r.length=19:=by
 intro r b;simp[ens,es1]at b;rcases b with rfl|rfl<;>rfl
theorem CZ:∀x∈es1,x.ok:=by
 intro x b;simp[es1]at b;rcases b with rfl|rfl<;>exact⟨rfl,by decide⟩
theorem GH:OH es1 2 1 7=P1.v:=by unfold OH;rw[Jg];rfl
theorem GD:Om D1 1 3 9 1 2 1 7=Q1:=by unfold Om;rw[li];rfl
theorem kT:Q1.length=32:=df rfl _ _ _ _ _ _ _
theorem IW:∀x∈Q1,x<256:=jY (by decide) _ _ _ _ _ _ _
theorem CF:NV Q1=true:=(oE (d:=D1) rfl (by decide) li).1
theorem Ho:Oo Q1=A1:=by unfold Oo;rw[CF];exact(oE (d:=D1) rfl (by decide) li).2
theorem Hm:Kh Q1=0:=by unfold Kh;rw[CF];rfl
theorem D9: iP.built 55 []=some (An .u8 Kp).toArray:=by kernel_rfl
theorem DW:∀x∈Kp,x<256:=by decide
theorem Hk:Oo Kp=zeroV:=by unfold Oo;rw[J6];rfl
theorem Hn:Kh Kp=1:=by unfold Kh;rw[J6];rfl
theorem BD:P1.ok:=⟨be (by decide+kernel),by decide+kernel⟩
theorem Gs:B1.ok:=⟨rfl,by decide⟩
theorem In:∀x∈ [B1],x.ok:=by
 intro x b;rw[kk]at b;subst b;exact Gs
theorem DL:M1 P1 [B1]=enV 3 9 1 D1:=by unfold M1;rw[uG];exact FT
theorem of_r:KQ (KM 2 5 77:Int)=2:=by decide+kernel
theorem of_l:LB (KM 2 5 77:Int)=5:=by decide+kernel
theorem of_s:LC (KM 2 5 77:Int)=77:=by decide+kernel
theorem GT:K0 P1.d P1.r P1.l P1.s P1.k P1.b P1.o P1.m=true:=by decide+kernel
theorem Jt:K0 an 0 0 0 0 0 0 0=false:=by decide+kernel
theorem DJ:Oe Q1=false:=by decide+kernel
theorem GP:Ku (eX 16 (Kd.int .u8)++[.int .i64,.int .i64,.int .i64,.int .i64,.int .i64,.int .i64,.int .i64]) A1=true:=by decide+kernel
theorem GO:Ku ([.int .i64,.int .i64,.int .i64]++eX 16 (Kd.int .u8)) (enV 3 9 1 D1)=true:=by decide+kernel
theorem H6(w:fo):(binOp .eql 62 (.agg A1.toArray) (.agg A1.toArray)).run iP w=.ok (.bool true) w:=by
 rw[dR w Hy eqSh (by kernel_rfl) (by decide) GP GP,tR GP]
theorem Dd(w:fo):(binOp .eql 90 (.agg (enV 3 9 1 D1).toArray) (.agg (enV 3 9 1 D1).toArray)).run iP w=.ok (.bool true) w:=by
 rw[dR w Hz eqEn (by kernel_rfl) (by decide) GO GO,tR GO]
theorem jE(w:fo):l4 iP 283 #[] w fun e w'=>e=.returned (.bool true)∧Below w.heap.size w w':=by
 go_enter func283, ntmps283;go_wp2_with fail;refine(pt _).mono ?_;exact DZ
theorem wR(w:fo):l4 iP 280 #[] w fun e K=>e=.returned (.bool true)∧Below w.heap.size w K:=by
 have q1:=H6;have q2:=Dd;have z:=Below.refl w.heap.size w;go_enter func280, ntmps280;go_wp2_with (first|(refine ac rfl 35 _ rfl _ rfl _ u9 ?_)|(refine ac rfl 90 _ rfl _ rfl _ kI ?_)|(refine ac rfl 90 _ rfl _ rfl _ gY ?_)|(refine ag rfl 90 (.tmp 1) (.tmp 21) rfl w.heap.size (enV 3 9 1 D1) rfl rfl 90 _ (aj w _ _ rfl) (bo rfl _ _ _) rfl (aO _ _ _ _) ?_;intro c L;have M:=L.at_;have A:=L.below (z.alloc z.size _) z.size;clear z L)|(refine ag rfl 90 (.tmp 2) (.tmp 22) rfl c.heap.size (enV 0 0 3 an) rfl rfl 90 _ (aj c _ _ rfl) (bo rfl _ _ _) rfl (aO _ _ _ _) ?_;intro w2 B;have bg:=B.at_;have N:=B.old (am M _) (show w.heap.size≠c.heap.size by have:=af M;omega);have O:=B.below (A.alloc A.size _) A.size;clear A M B)|(refine ed rfl 90 (.tmp 1) rfl w.heap.size 0 rfl _ _ (ai N) eD rfl (bo rfl _ _ _) ?_));refine(ep 2 1 7 3 9 1 D1 _ rfl (by decide)).mono ?_;rw[GK,li];rintro e f ⟨rfl,b⟩;have P:=aa N b;have Q:=aa bg b;have C:=O.trans (b.mono O.size);clear b O N bg;go_wp2_with (first|(refine ag rfl 62 (.tmp 3) (.tmp 26) rfl f.heap.size A1 rfl rfl 62 _ (aj f _ _ rfl) (aQ _ rfl _ _ _ _ _ _ _) rfl (aE _ _ _ _ _ _ _ _) ?_;intro w4 t;have bh:=t.at_;have bj:=t.old (am P _) (show w.heap.size≠f.heap.size by have:=af P;omega);have R:=t.old (am Q _) (show c.heap.size≠f.heap.size by have:=af Q;omega);have S:=t.below (C.alloc C.size _) C.size;clear C P Q t)|(refine ed rfl 90 (.tmp 2) rfl c.heap.size 0 rfl _ _ (ai R) eD rfl (bo rfl _ _ _) ?_));refine(ep 2 1 7 0 0 3 an _ rfl ik).mono ?_;rw[GJ,Ce];rintro e i ⟨rfl,b⟩;have T:=aa bj b;have U:=aa R b;have V:=aa bh b;have D:=S.trans (b.mono S.size);clear b S bj R bh;go_wp2_with (first|(refine ag rfl 62 (.tmp 5) (.tmp 31) rfl i.heap.size B1.v rfl rfl 62 _ (aj i _ _ rfl) (aQ _ rfl _ _ _ _ _ _ _) rfl (aE _ _ _ _ _ _ _ _) ?_;intro w6 r;have bk:=r.at_;have W:=r.old (am T _) (show w.heap.size≠i.heap.size by have:=af T;omega);have X:=r.old (am U _) (show c.heap.size≠i.heap.size by have:=af U;omega);have bl:=r.old (am V _) (show f.heap.size≠i.heap.size by have:=af V;omega);have Y:=r.below (D.alloc D.size _) D.size;clear D T U V r)|(refine ed rfl 90 (.tmp 1) rfl w.heap.size 0 rfl _ _ (ai W) eD rfl (bo rfl _ _ _) ?_)|(refine ed rfl 90 (.tmp 2) rfl c.heap.size 0 rfl _ _ (ai X) eD rfl (bo rfl _ _ _) ?_)|(refine pB rfl 116 2 _ rfl _ rfl _ _ (IJ _) ?_));have bm:=am W (.cells (ens es1).flatten.toArray 90);have bn:=am X (.cells (ens es1).flatten.toArray 90);have bp:=am bl (.cells (ens es1).flatten.toArray 90);have bq:=am bk (.cells (ens es1).flatten.toArray 90);have Z:=Y.alloc Y.size (.cells (ens es1).flatten.toArray 90);have u:=aj w6 (.cells (ens es1).flatten.toArray 90) _ rfl;clear Y W X bl bk;generalize (w6.alloc (.cells (ens es1).flatten.toArray 90))=w7 at*;refine(pZ 2 1 7 es1 _ 2 2 _ _ (OO u um) (ek _) CZ (by decide)).mono ?_;rw[Jg,GH];rintro e g ⟨rfl,b⟩;have ab:=aa bm b;have ad:=aa bn b;have ae:=aa bp b;have ak:=aa bq b;have E:=Z.trans (b.mono Z.size)
 clear b Z bm bn bp bq;clear u;go_wp2_with (first|(refine ag rfl 62 (.tmp 7) (.tmp 38) rfl g.heap.size P1.v rfl rfl 62 _ (aj g _ _ rfl) (aQ _ rfl _ _ _ _ _ _ _) rfl (aE _ _ _ _ _ _ _ _) ?_;intro w9 q;have br:=q.at_;have bs:=q.old (am ab _) (show w.heap.size≠g.heap.size by have:=af ab;omega);have bt:=q.old (am ad _) (show c.heap.size≠g.heap.size by have:=af ad;omega);have al:=q.old (am ae _) (show f.heap.size≠g.heap.size by have:=af ae;omega);have bu:=q.old (am ak _) (show i.heap.size≠g.heap.size by have:=af ak;omega);have ao:=q.below (E.alloc E.size _) E.size;clear E ab ad ae ak q)|(refine ed rfl 62 (.tmp 3) rfl f.heap.size 0 rfl _ _ (ai al) ej rfl (aQ _ rfl _ _ _ _ _ _ _) ?_));refine(iq D1 1 3 9 1 2 1 7 _ rfl (by decide)).mono ?_;rw[GD,li];rintro e h ⟨rfl,b⟩;have aq:=aa bs b;have ar:=aa bt b;have aw:=aa al b;have ax:=aa bu b;have ay:=aa br b;have G:=ao.trans (b.mono ao.size);clear b ao bs bt al bu br;go_wp2_with (first|(refine ag rfl 55 (.tmp 9) (.tmp 43) rfl h.heap.size (An .u8 Q1) rfl rfl 55 _ (aj h _ _ rfl) (bf kT) (by rw[ah,kT];rfl) (av _ _) ?_;intro cy p;have az:=p.at_;have bw:=p.old (am aq _) (show w.heap.size≠h.heap.size by have:=af aq;omega);have bx:=p.old (am ar _) (show c.heap.size≠h.heap.size by have:=af ar;omega);have bz:=p.old (am aw _) (show f.heap.size≠h.heap.size by have:=af aw;omega);have bA:=p.old (am ax _) (show i.heap.size≠h.heap.size by have:=af ax;omega);have bB:=p.old (am ay _) (show g.heap.size≠h.heap.size by have:=af ay;omega);have aA:=p.below (G.alloc G.size _) G.size;clear G aq ar aw ax ay p)|(refine ed rfl 55 (.tmp 9) rfl h.heap.size 0 rfl _ _ (ai az) l5 rfl (bf kT) ?_));refine(fH Q1 _ kT IW).mono ?_;rw[Ho,Hm];rintro e j ⟨rfl,b⟩;have aB:=aa bw b;have aC:=aa bx b;have aD:=aa bz b;have aF:=aa bA b;have aG:=aa bB b;have aH:=aa az b;have H:=aA.trans (b.mono aA.size);clear b aA bw bx bz bA bB az;go_wp2_with (first|(refine ag rfl 62 (.tmp 11) (.tmp 48) rfl j.heap.size A1 rfl rfl 62 _ (aj j _ _ rfl) (aQ _ rfl _ _ _ _ _ _ _) rfl (aE _ _ _ _ _ _ _ _) ?_;intro cz o;have bC:=o.at_;have bD:=o.old (am aB _) (show w.heap.size≠j.heap.size by have:=af aB;omega);have bE:=o.old (am aC _) (show c.heap.size≠j.heap.size by have:=af aC;omega);have bF:=o.old (am aD _) (show f.heap.size≠j.heap.size by have:=af aD;omega);have bG:=o.old (am aF _) (show i.heap.size≠j.heap.size by have:=af aF;omega);have bH:=o.old (am aG _) (show g.heap.size≠j.heap.size by have:=af aG;omega);have bI:=o.old (am aH _) (show h.heap.size≠j.heap.size by have:=af aH;omega);have aI:=o.below (H.alloc H.size _) H.size;clear H aB aC aD aF aG aH o)|(refine ac rfl 55 _ rfl _ rfl _ D9 ?_));refine(fH Kp _ rfl DW).mono ?_;rw[Hk,Hn];rintro e m ⟨rfl,b⟩;have aJ:=aa bD b;have aK:=aa bE b;have aL:=aa bF b
 have aM:=aa bG b;have aN:=aa bH b;have aP:=aa bI b;have aR:=aa bC b;have I:=aI.trans (b.mono aI.size);clear b aI bD bE bF bG bH bI bC;go_wp2_with (first|(refine ag rfl 62 (.tmp 13) (.tmp 53) rfl m.heap.size zeroV rfl rfl 62 _ (aj m _ _ rfl) (aQ _ rfl _ _ _ _ _ _ _) rfl (aE _ _ _ _ _ _ _ _) ?_;intro bJ n;have bK:=n.at_;have bL:=n.old (am aJ _) (show w.heap.size≠m.heap.size by have:=af aJ;omega);have bM:=n.old (am aK _) (show c.heap.size≠m.heap.size by have:=af aK;omega);have bN:=n.old (am aL _) (show f.heap.size≠m.heap.size by have:=af aL;omega);have aS:=n.old (am aM _) (show i.heap.size≠m.heap.size by have:=af aM;omega);have aT:=n.old (am aN _) (show g.heap.size≠m.heap.size by have:=af aN;omega);have bO:=n.old (am aP _) (show h.heap.size≠m.heap.size by have:=af aP;omega);have bP:=n.old (am aR _) (show j.heap.size≠m.heap.size by have:=af aR;omega);have aU:=n.below (I.alloc I.size _) I.size;clear I aJ aK aL aM aN aP aR n)|(refine ed rfl 62 (.tmp 7) rfl g.heap.size 0 rfl _ _ (ai aT) ej rfl (aQ _ rfl _ _ _ _ _ _ _) ?_)|(refine ed rfl 62 (.tmp 5) rfl i.heap.size 0 rfl _ _ (ai aS) ej rfl (aQ _ rfl _ _ _ _ _ _ _) ?_)|(refine dL rfl 156 (.tmp 57) rfl 62 B1.v _ 23 72 rfl hO fR rfl (by decide) (by decide) ?_));have bQ:=am bL (.cells B1.v.toArray 62);have bR:=am bM (.cells B1.v.toArray 62);have bS:=am bN (.cells B1.v.toArray 62);have bT:=am aS (.cells B1.v.toArray 62);have bU:=am aT (.cells B1.v.toArray 62);have bV:=am bO (.cells B1.v.toArray 62);have bX:=am bP (.cells B1.v.toArray 62);have bY:=am bK (.cells B1.v.toArray 62);have aV:=aU.alloc aU.size (.cells B1.v.toArray 62);have u:=aj bJ (.cells B1.v.toArray 62) _ rfl;clear aU bL bM bN aS aT bO bP bK;generalize (bJ.alloc (.cells B1.v.toArray 62))=cA at*;refine(uF P1 [B1] _ 1 1 _ _ BD (vr (x:=B1) Gs u) (ek _) In (by decide)).mono ?_;rw[uG,DL];rintro e k ⟨rfl,b⟩;have aW:=aa bQ b;have aX:=aa bR b;have aY:=aa bS b;have aZ:=aa bT b;have a0:=aa bU b;have a1:=aa bV b;have a2:=aa bX b;have a3:=aa bY b;have J:=aV.trans (b.mono aV.size);clear b aV bQ bR bS bT bU bV bX bY;clear u;go_wp2_with (first|(refine ag rfl 90 (.tmp 15) (.tmp 60) rfl k.heap.size (enV 3 9 1 D1) rfl rfl 90 _ (aj k _ _ rfl) (bo rfl _ _ _) rfl (aO _ _ _ _) ?_;intro cB l;have bZ:=l.at_;have b0:=l.old (am aW _) (show w.heap.size≠k.heap.size by have:=af aW;omega);have b1:=l.old (am aX _) (show c.heap.size≠k.heap.size by have:=af aX;omega);have b2:=l.old (am aY _) (show f.heap.size≠k.heap.size by have:=af aY;omega);have b3:=l.old (am aZ _) (show i.heap.size≠k.heap.size by have:=af aZ;omega);have b4:=l.old (am a0 _) (show g.heap.size≠k.heap.size by have:=af a0;omega);have b5:=l.old (am a1 _) (show h.heap.size≠k.heap.size by have:=af a1;omega);have b6:=l.old (am a2 _) (show j.heap.size≠k.heap.size by have:=af a2;omega);have b7:=l.old (am a3 _) (show m.heap.size≠k.heap.size by have:=af a3;omega);have a4:=l.below (J.alloc J.size _) J.size;clear J aW aX aY aZ a0 a1 a2 a3 l)|(go_at_call 121;refine(ol _ _ _ _).mono ?_;rintro e K ⟨rfl,rfl⟩)|(go_at_call 74;refine(kf _ _ (by decide) (by decide)).mono ?_;rw[of_r,of_l,of_s];rintro e K ⟨rfl,rfl⟩))
 refine(jE _).mono ?_;rintro e cC ⟨rfl,b⟩;have a5:=aa b0 b;have b8:=aa b1 b;have a6:=aa b2 b;have b9:=aa b3 b;have a7:=aa b4 b;have ca:=aa b5 b;have a8:=aa b6 b;have cb:=aa b7 b;have a9:=aa bZ b;have ba:=a4.trans (b.mono a4.size);clear b a4 b0 b1 b2 b3 b4 b5 b6 b7 bZ;go_wp2_with (first|(refine au 62 (.tmp 11) rfl j.heap.size 0 rfl rfl _ _ (ai a8) ej rfl (aQ _ rfl _ _ _ _ _ _ _) ?_)|(refine au 62 (.tmp 3) rfl f.heap.size 0 rfl rfl _ _ (ai a6) ej rfl (aQ _ rfl _ _ _ _ _ _ _) ?_)|(refine au 90 (.tmp 15) rfl k.heap.size 0 rfl rfl _ _ (ai a9) eD rfl (bo rfl _ _ _) ?_)|(refine au 90 (.tmp 1) rfl w.heap.size 0 rfl rfl _ _ (ai a5) eD rfl (bo rfl _ _ _) ?_)|(refine au 62 (.tmp 7) rfl g.heap.size 0 rfl rfl _ _ (ai a7) ej rfl (aQ _ rfl _ _ _ _ _ _ _) ?_));refine(bW _ _ _ _ _ _ _ _ _ BD.1 BD.2).mono ?_;rw[GT];rintro e cD ⟨rfl,b⟩;have cc:=aa a5 b;have cd:=aa b8 b;have cf:=aa a6 b;have cg:=aa b9 b;have ch:=aa a7 b;have cj:=aa ca b;have ck:=aa a8 b;have cl:=aa cb b;have cm:=aa a9 b;have bb:=ba.trans (b.mono ba.size);clear b ba a5 b8 a6 b9 a7 ca a8 cb a9;go_wp2_with (first|(refine ac rfl 62 _ rfl _ rfl _ cR ?_));refine(bW _ _ _ _ _ _ _ _ _ rfl ik).mono ?_;rw[Jt];rintro e cE ⟨rfl,b⟩;have cn:=aa cc b;have cp:=aa cd b;have cq:=aa cf b;have cr:=aa cg b;have ct:=aa ch b;have bc:=aa cj b;have cu:=aa ck b;have cv:=aa cl b;have cw:=aa cm b;have bd:=bb.trans (b.mono bb.size);clear b bb cc cd cf cg ch cj ck cl cm;go_wp2_with (first|(refine au 55 (.tmp 9) rfl h.heap.size 0 rfl rfl _ _ (ai bc) l5 rfl (bf kT) ?_));refine(qA Q1 _ kT).mono ?_;rw[DJ];rintro e cF ⟨rfl,b⟩;have cG:=aa cn b;have cH:=aa cp b;have cI:=aa cq b;have cJ:=aa cr b;have cK:=aa ct b;have cL:=aa bc b;have cM:=aa cu b;have cN:=aa cv b;have cO:=aa cw b;have cx:=bd.trans (b.mono bd.size);clear b bd cn cp cq cr ct bc cu cv cw;go_wp2_with fail;go_ret;exact⟨rfl,cx⟩
end
section
def Sh.wf(x:Sh):Prop:=(hZ .i64 x.r).wf=true∧(hZ .i64 x.l).wf=true∧(hZ .i64 x.s).wf=true∧(hZ .i64 x.k).wf=true∧(hZ .i64 x.b).wf=true∧(hZ .i64 x.o).wf=true∧(hZ .i64 x.m).wf=true
def En.wf(x:En):Prop:=(hZ .i64 x.l).wf=true∧(hZ .i64 x.s).wf=true∧(hZ .i64 x.r).wf=true
end
section
def chg(x:Sh)(v:Int):Nat→Sh
 |0=>{x with r:=v}
 |1=>{x with l:=v}
 |2=>{x with s:=v}
 |3=>{x with k:=v}
 |4=>{x with b:=v}
 |5=>{x with o:=v}
 |6=>{x with m:=v}
 |_=>{x with d:=x.d.set 0 (x.d.getD 0 0^^^(v%256).toNat)}
end
section
def KU(P:List Nat)(K j:Nat):List Nat:=P.take K++(eX (j-K) 255++P.drop j)
theorem qK(P:List Nat)(K:Nat):KU P K K=P:=by simp[KU]
theorem iG{P:List Nat}(h:P.length=32){K j:Nat}(b:K≤j)(c:j≤32):(KU P K j).length=32:=by simp[KU];omega
theorem yr{P:List Nat}(c:∀x∈P,x<256)(K j:Nat):∀x∈KU P K j,x<256:=by
 intro x b;unfold KU at b;grind
theorem sE{P:List Nat}(h:P.length=32){K j:Nat}(b:K≤j)(c:j<32):(KU P K j).set j 255=KU P K (j+1):=by
 unfold KU;have e1:(P.take K).length=K:=by rw[kn];omega
 have e2:P.drop j=P[j]::P.drop (j+1):=jg (by omega);rw[jI _ _ (by omega),jI _ _ (by simp_all),e1,e2];have e3:j-K-(eX (j-K) 255).length=0:=by simp
 rw[e3,List.set_cons_zero,show j+1-K=(j-K)+1 by omega,List.replicate_succ'];simp
end
section
theorem pG(f:Sh→Nat)(l:List Sh)(k:Nat)(x:Sh)(h:l[k]? =some x):NH ((l.take k++l.drop (k+1)).map f)^^^NH (l.map f)=f x:=by
 obtain⟨b,c⟩:=fj.1 h
 have e:l.map f=(l.take k).map f++(f x::(l.drop (k+1)).map f):=by
  rw[←ly,←jw];congr 1;rw[←c,←jg b,List.take_append_drop]
 rw[e,jw,cS,cS,pH];grind
theorem eqD{a b:List Nat}(c:a.length=16)(e:b.length=16)(h:∀i,i<16→a[i]? =b[i]?):a=b:=by
 apply List.ext_getElem?;grind
theorem uE(l:List En)(b o m:Int)(u:∀x∈l,x.ok)(g:No l b o m=true)(k:Nat)(x:En)(j:l[k]? =some x):
 MD (KY l b o m) ((owns l b o m).take k++(owns l b o m).drop (k+1))=true∧M1 (KY l b o m) ((owns l b o m).take k++(owns l b o m).drop (k+1))=x.v:=by
 unfold No at g;simp only[hG,beq_iff_eq,bne_iff_ne,List.all_eq_true]at g;obtain⟨E,Y,w⟩:=g;have n:=x6 u b o m;have p:(owns l b o m)[k]? =some (x.sh b o m):=by rw[owns,List.getElem?_map,j];rfl
 have Z:k<(owns l b o m).length:=(fj.1 p).1;have e:K0 x.d x.r x.l x.s 1 b o m=true:=w x (hX j);have A:=u x (hX j);obtain⟨r0,r1,l0,l1,s0,s1,-,-,b0,b1,o0,o1,m0,m1⟩:=jj e
 have G:∀y∈owns l b o m,y.k=1∧y.may=true∧y.b=b∧y.o=o∧y.m=m:=by
  intro y c;obtain⟨z,H,rfl⟩:=List.mem_map.1 c;exact⟨rfl,w z H,rfl,rfl,rfl⟩
 have aa:(owns l b o m).length=l.length:=by simp[owns]
 have hM:=gH (owns l b o m);have I:=be fun y c=>(n y c).1
 have J:KM (KY l b o m).r (KY l b o m).l (KY l b o m).s=KE (owns l b o m):=by
  have:=xE (KE (owns l b o m):Int) (by omega) (by omega);show KM (KQ _) (LB _) (LC _)=_;omega
 generalize f:(owns l b o m).take k++(owns l b o m).drop (k+1)=others
 have B:∀y∈others,y∈owns l b o m:=by
  intro y c;rw[←f]at c;rcases jt.1 c with h|h
  · exact List.mem_of_mem_take h
  · exact List.mem_of_mem_drop h
 have C:∀y∈others++[KY l b o m],y.d.length=16:=by
  intro y c;rcases jt.1 c with h|h
  · exact(n y (B y h)).1
  · rw[kk]at h;rw[h];exact I
 have K:(others.length:Int)=JV m-1:=by
  rw[←E,←f,kd,kn,List.length_drop];omega
 have L:KE (others++[KY l b o m])=KM x.r x.l x.s:=by
  rw[nT,J];have:=pG (fun y=>KM y.r y.l y.s) (owns l b o m) k (x.sh b o m) p;rw[f]at this;exact this
 have M:KT (others++[KY l b o m])=x.d:=by
  refine eqD (be C) A.1 fun i D=> ?_;rw[kY C i D,jw,cS];have e1:=pG (fun y=>y.d.getD i 0) (owns l b o m) k (x.sh b o m) p;rw[f]at e1
  have e2:(KY l b o m).d.getD i 0=NH ((owns l b o m).map fun y=>y.d.getD i 0):=by
   show(KT (owns l b o m)).getD i 0=_;rw[jd,kY (fun y c=>(n y c).1) i D];rfl
  have e3:NH ([KY l b o m].map fun y=>y.d.getD i 0)=(KY l b o m).d.getD i 0:=by simp[NH]
  have N:(x.sh b o m).d.getD i 0=x.d.getD i 0:=rfl;have ab:=A.1;rw[e3,e2,e1,N,jd,List.getElem?_eq_getElem (by omega)];rfl
 have q:=x9 x.r x.l x.s;have O:KQ (KM x.r x.l x.s:Int)=x.r:=by rw[q.1];omega
 have P:LB (KM x.r x.l x.s:Int)=x.l:=by rw[q.2.1];omega
 have Q:LC (KM x.r x.l x.s:Int)=x.s:=by rw[q.2.2];omega
 have R:OP (KY l b o m) others=x:=by
  unfold OP Qr;rw[L,M,O,P,Q]
 have S:NG (KY l b o m) others=false:=by
  unfold NG;rw[Bool.eq_false_iff];intro h;obtain⟨y,c,t⟩:=List.any_eq_true.1 h;obtain⟨a1,a2,T,a4,U⟩:=G y (B y c);unfold LA at t;rw[a1,a2,T,a4,U]at t;simp[KY]at t
 have V:(KY l b o m).may=true:=by
  have hb:=xB (KE (owns l b o m)) (by omega) (by omega);show K0 _ (KQ _) (LB _) (LC _) 2 b o m=true;unfold K0 at e⊢;rw[hG,hG]at e;rw[e.1.1];unfold MW inB KQ LB LC;simp;omega
 have W:OR (KY l b o m) others=true:=by
  unfold OR;rw[V,S,show(KY l b o m).k=2 from rfl,show(KY l b o m).m=m from rfl,K];simp
 have X:MD (KY l b o m) others=true:=by
  unfold MD;rw[W,R];exact e
 exact⟨X,by unfold M1;grind⟩
end
end Go.Proofs.YtlkpfnjdbgeifaaGreat
