import Derived.Test.YtlkpfnjdbgeifaaGreatFOwn
import Derived.Test.YtlkpfnjdbgeifaaGreatFOwnRows
set_option maxRecDepth 100000
set_option maxHeartbeats 4000000
set_option linter.unusedVariables false
open Go renaming wpList_load_mid→ed,World→gg,Value→jd,bodyPost_ret→jm,Calls→js,TypeId→jt
open Nat renaming le_refl→ej
open List renaming mem_of_getElem?→ek,getElem?_eq_getElem→eD,take_succ_eq_append_getElem→eX,take_of_length_le→hG,getElem?_map→hX,length_map→hZ,mem_map→jg
open Go.Proofs.Tryz renaming underlying156→fj,underlying62→fo,underlying90→hO,prog→iP
namespace Go.Proofs.YtlkpfnjdbgeifaaGreat
open Go.Proofs.Tryz
open Go.RowKit
theorem yaf{A:Prop}(h:A:=by
 go_enter func203, ntmps203;go_wp2_with (refine au 62 (.tmp 2) rfl w.heap.size 0 rfl rfl _ _ (ai HX) underlying62 rfl hV ?_);refine(bW _ _ _ _ _ _ _ _ _ HXk.1 HXk.2).mono ?_;rw[HM.out];rintro e w2 ⟨rfl,hb2⟩;have hbel2:=hbel.trans (hb2.mono hbel.size);clear x16 x17 x18 x19 x20 x21 x22;obtain⟨x16,x17,x18,x19,x20,x21,x22⟩:=bq HXk.1 (aa HX hb2);obtain⟨p16,p17,p18,p19,p20,p21,p22⟩:=bq HP.1 (aa HG hb2);clear hb2;go_wp2_with fail;go_ret;exact⟨rfl,hbel2⟩):A:=h
theorem yb9{A:Prop}(h:A:=by
 rcases Nat.eq_zero_or_pos n with h|h
 · exact h
 · obtain⟨b,o,e,_⟩:=hr.2.2 h;cases e):A:=h
theorem ydm{A:Prop}(h:A:=by
 go_wp2
 go_ret;exact⟨_,rfl,OwnRows.nil,Below.refl _ _⟩):A:=h
section
theorem fR:(iP.info? 62).map (fun i=>(i.zero,i.size,i.bytes))=some (some (.agg (shV an 0 0 0 0 0 0 0).toArray),23,72):=by kernel_rfl
theorem mL(l:List Sh):∀r∈shs l,∀u∈r,u.oneCell'=true:=by
 intro r b;obtain⟨x,_,rfl⟩:=jg.1 b;exact aE _ _ _ _ _ _ _ _
theorem rG(b o n c B:Nat)(l:List Sh)(w:gg)(i:Rds w B (some ⟨b,o,none⟩) 23 n (shs l))(j:B≤w.heap.size)(p:n≤1000):js iP 205 #[.slice (some ⟨b,o,none⟩) n c] w fun e f=>
 ∃v,e=.returned v∧OwnRows f w.heap.size 62 23 v n (shs l)∧Below w.heap.size w f:=by
 have q:=fun W:gg=>Lib.run_eql_slice_nil (P:= iP) W 156 62 (some ⟨b,o,none⟩) n c 0 0 fj
 have k:OwnRows (w.alloc (.cells #[] 62)) w.heap.size 62 23 (.slice (some ⟨w.heap.size,0,none⟩) 0 0) 0 []:=⟨World.ownsRow_made w #[] 0 (ej _) (by unfold maxLen;omega) rfl,rfl,by simp⟩;have g:Below w.heap.size w (w.alloc (.cells #[] 62)):=(Below.refl _ _).alloc (ej _) _;have m:Rds (w.alloc (.cells #[] 62)) B (some ⟨b,o,none⟩) 23 n (shs l):=i.below g j;go_enter func205, ntmps205;go_wp2_with (at_builtin;go_must (refine aN rfl (.tmp 5) (.tmp 6) 156 rfl 62 _ 23 72 fj fR rfl (by decide) k g rfl rfl m (mL _) (by unfold maxLen;omega) (by omega) (by simp) (ej _) ?_));exact yck
theorem mC(A:Option Addr)(n c B:Nat)(l:List Sh)(w:gg)(hr:Rds w B A 23 n (shs l))(g:B≤w.heap.size)(i:n≤1000)(j:∀a,A=some a→a.spot=none):js iP 205 #[.slice A n c] w fun e f=>
 ∃v,e=.returned v∧OwnRows f w.heap.size 62 23 v n (shs l)∧Below w.heap.size w f:=by
 cases A with
 |some a=>
  obtain⟨b,o,s⟩:=a;obtain rfl:s=none:=j _ rfl;exact rG b o n c B l w hr g i
 |none=>
  have k:n=0:=by
   exact yb9
  subst k;have m:shs l=[]:=List.eq_nil_of_length_eq_zero hr.1;rw[m];have p:=fun W:gg=>Lib.run_eql_slice_nil (P:= iP) W 156 62 none 0 c 0 0 fj
  go_enter func205, ntmps205;exact ydm
def Sh.may(x:Sh):Bool:=K0 x.d x.r x.l x.s x.k x.b x.o x.m
def LA(p x:Sh):Bool:=x.k !=1 ||(!x.may ||(x.b !=p.b ||(x.o !=p.o ||x.m !=p.m)))
theorem JN(p x:Sh)(g:Nat)(w:gg)(q:w.heap[g]? =some (.cells p.v.toArray 62 (0,0)))(r:p.ok)(k:x.ok):
 js iP 203 #[.agg x.v.toArray,g] w fun e u=>e=.returned (.bool (LA p x))∧Below w.heap.size w u:=by
 have t:=am q (.cells x.v.toArray 62);have n:=heap_alloc_new w (.cells x.v.toArray 62);have hbel:=(Below.refl _ w).alloc (ej _) (.cells x.v.toArray 62);have hV:=aQ x.d k.1 x.r x.l x.s x.k x.b x.o x.m;obtain⟨x16,x17,x18,x19,x20,x21,x22⟩:=bq k.1 n;have HG:=qZ t;have HX:=qZ n;have HP:=qZ r;have HXk:=qZ k;clear q t n r k;by_cases c:x.k=1
 · have t1:(x.k !=1)=false:=by simpa using c
   cases f:x.may with
   |false=>
    have E:=qZ (show LA p x=true by unfold LA;rw[t1,f];rfl);rw[E.out];have HM:=qZ (show K0 x.d x.r x.l x.s x.k x.b x.o x.m=false from f);clear f c;go_enter func203, ntmps203;go_wp2_with (refine au 62 (.tmp 2) rfl w.heap.size 0 rfl rfl _ _ (ai HX) fo rfl hV ?_);refine(bW _ _ _ _ _ _ _ _ _ HXk.1 HXk.2).mono ?_;rw[HM.out];rintro e w2 ⟨rfl,hb2⟩;have hbel2:=hbel.trans (hb2.mono hbel.size);clear x16 x17 x18 x19 x20 x21 x22 hb2;go_wp2_with fail;go_ret;exact⟨rfl,hbel2⟩
   |true=>
    have HM:=qZ (show K0 x.d x.r x.l x.s x.k x.b x.o x.m=true from f);clear f c;by_cases b:x.b=p.b
    · have i:(x.b !=p.b)=false:=by simpa using b
      by_cases j:x.o=p.o
      · have l:(x.o !=p.o)=false:=by simpa using j
        by_cases m:x.m=p.m
        · have o:(x.m !=p.m)=false:=by simpa using m
          have E:=qZ (show LA p x=false by unfold LA;rw[t1,i,l,o,show x.may=true from HM.out];rfl);rw[E.out];clear b j m;exact yaf
        · have o:(x.m !=p.m)=true:=by simpa using m
          have E:=qZ (show LA p x=true by unfold LA;rw[t1,i,l,o,show x.may=true from HM.out];rfl);rw[E.out];clear b j m;exact yaf
      · have l:(x.o !=p.o)=true:=by simpa using j
        have E:=qZ (show LA p x=true by unfold LA;rw[t1,i,l,show x.may=true from HM.out];rfl);rw[E.out];clear b j;exact yaf
    · have i:(x.b !=p.b)=true:=by simpa using b
      have E:=qZ (show LA p x=true by unfold LA;rw[t1,i,show x.may=true from HM.out];rfl);rw[E.out];clear b;exact yaf
 · have t1:(x.k !=1)=true:=by simpa using c
   have E:=qZ (show LA p x=true by unfold LA;rw[t1];rfl);rw[E.out];clear c;go_enter func203, ntmps203;go_wp2_with fail;go_ret;exact⟨rfl,hbel⟩
def Rx(no:Bool)(w:gg)(e:Ending)(b:gg):Prop:=∃i:Int,e=.returned i∧decide (0≤i)=no∧Below w.heap.size w b
theorem Fi(p:Sh)(g:Nat)(A:Option Addr)(n c B:Nat)(l:List Sh)(w:gg)(E:w.heap[g]? =some (.cells p.v.toArray 62 (0,0)))(N:p.ok)(t:Rds w B A 23 n (shs l))(O:B≤w.heap.size)(P:∀x∈l,x.ok)(X:n≤1000):
 js iP 237 #[.slice A n c,.func (.func 203) #[] #[g]] w (Rx (l.any (LA p)) w):=by
 have G:l.length=n:=by have:=t.1;rwa [shs,hZ]at this
 have H:=qZ G;have Q:=qZ E;clear G E;go_enter func237, ntmps237;go_wp2
 go_loopw [8] (fun i wr=>∃k:Nat,k≤n∧i=.int .i64 k∧(l.take k).any (LA p)=false∧Below w.heap.size w wr) (fun i _=>n-(intOf i).toNat)
 case atStart=>exact⟨0,by omega,rfl,rfl,Below.refl _ _⟩
 case round=>
  obtain⟨k,Y,rfl,I,f⟩:=hrel;have J:=qZ I;clear I;by_cases K:k<n
  · have u:k<l.length:=by rw[H.out];exact K
    obtain⟨x,h⟩:∃x,l[k]? =some x:=⟨_,eD u⟩;have z:=P x (ek h);have L:=t.below f O;obtain⟨b,o,rfl,Z,C⟩:=aH L K (r:=x.v) (by rw[shs,hX,h];rfl);have R:=qZ (show l.take (k+1)=l.take k++[x] by rw[eX u];rw[eD u]at h;rw[Option.some.inj h]);have S:=qZ (ek h);have T:=aQ x.d z.1 x.r x.l x.s x.k x.b x.o x.m;have M:=aa Q f;have U:=qZ M;have V:=qZ z;have ab:(k:Int)<(n:Int):=by omega
    clear h M z t L;go_wp2_with (refine ed rfl 62 (.tmp 14) rfl b (o+k*23) rfl _ _ C fo rfl T ?_);refine(JN p x g _ U N V).mono ?_;cases q:LA p x with
    |true=>
     have j:=qZ (show l.any (LA p)=true by rw[List.any_eq_true];exact⟨x,S,q⟩);clear q;rintro e W ⟨rfl,m⟩;have D:=f.trans (m.mono f.size);clear m C;go_wp2_with fail;go_ret;exact⟨(k:Int),rfl,by rw[j.out];simp,D⟩
    |false=>
     have j:=qZ (show(l.take (k+1)).any (LA p)=false by rw[R.out,List.any_append,J.out];simp[q]);clear q;rintro e W ⟨rfl,m⟩;have D:=f.trans (m.mono f.size);clear m C;go_wp2_with fail;go_roundw
     case rel=>exact⟨k+1,by omega,by go_num,j,D⟩
     case measure=>simp[intOf];omega
  · obtain rfl:k=n:=by omega
    have j:=qZ (show l.any (LA p)=false by have:=J.out;rwa [hG (by rw[H.out];exact ej _)]at this);go_wp2
    go_ret;exact⟨-1,rfl,by rw[j.out];rfl,f⟩
def NG(p:Sh)(l:List Sh):Bool:=l.any (LA p)
theorem pf(p:Sh)(g:Nat)(A:Option Addr)(n c B:Nat)(l:List Sh)(w:gg)(b:w.heap[g]? =some (.cells p.v.toArray 62 (0,0)))(m:p.ok)(f:Rds w B A 23 n (shs l))(o:B≤w.heap.size)(h:∀x∈l,x.ok)(q:n≤1000):
 js iP 202 #[.slice A n c,.func (.func 203) #[] #[g]] w fun e j=>e=.returned (.bool (NG p l))∧Below w.heap.size w j:=by
 unfold NG;have C:=qZ (Fi p g A n c B l w b m f o h q);clear b f h;go_enter func202, ntmps202;go_wp2_with fail;refine C.out.mono ?_;rintro e j ⟨i,rfl,k,r⟩;have t:=qZ k;clear k;go_wp2_with fail;go_ret;exact⟨by rw[←t.out];rfl,r⟩
end
theorem yaw{A:Prop}(h:A:=by
 go_enter func208, ntmps208;go_wp2_with (first|(go_at_call 115;refine(bA _ _).mono ?_;rintro e w' ⟨rfl,rfl⟩)|(refine ac rfl 62 _ rfl _ rfl _ cR ?_)|(refine ag rfl 62 (.tmp 8) (.tmp 28) rfl w.heap.size zeroV rfl rfl 62 _ (aj w _ _ rfl) (aQ _ rfl _ _ _ _ _ _ _) rfl (aE _ _ _ _ _ _ _ _) ?_;intro w6 hU6));refine bodyPost_ret (v:=.tuple #[.agg zeroV.toArray,.bool false]) ?_ rfl ⟨rfl,hU6.below ((Below.refl _ w).alloc (Nat.le_refl _) _) (by omega)⟩;rw[aD rfl _ _ _ _ _ _ _ rfl hU6.at_ underlying62 rfl (aQ _ rfl _ _ _ _ _ _ _)];rfl):A:=h
theorem yff{A:Prop}(h:A:=by
 intro v1 w1 hown1 hbel1 _ _;go_wp2
 go_ret;simp_all):A:=h
section
structure En where
 l:Int
 s:Int
 r:Int
 d:List Nat
def En.v(x:En):List jd:=enV x.l x.s x.r x.d
def En.ok(x:En):Prop:=x.d.length=16∧∀y∈x.d,y<256
def ens(l:List En):List (List jd):=l.map En.v
def En.sh(x:En)(b o m:Int):Sh:=⟨x.d,x.r,x.l,x.s,1,b,o,m⟩
def En.may(x:En)(b o m:Int):Bool:=K0 x.d x.r x.l x.s 1 b o m
def owns(l:List En)(b o m:Int):List Sh:=l.map fun x=>x.sh b o m
theorem x6{l:List En}(h:∀x∈l,x.ok)(b o m:Int):∀y∈owns l b o m,y.ok:=by
 intro y c;obtain⟨x,e,rfl⟩:=jg.1 c;exact h x e
def KY(l:List En)(b o m:Int):Sh:=⟨KT (owns l b o m),KQ (KE (owns l b o m)),LB (KE (owns l b o m)),LC (KE (owns l b o m)),2,b,o,m⟩
def No(l:List En)(b o m:Int):Bool:=((l.length:Int)==JV m)&&(l.length !=0&&l.all fun x=>x.may b o m)
def zeroV:List jd:=shV an 0 0 0 0 0 0 0
def OH(l:List En)(b o m:Int):List jd:=if No l b o m then(KY l b o m).v else zeroV
theorem bo{d:List Nat}(h:d.length=16)(l s r:Int):(iP.info? 90).map (·.size)=some (enV l s r d).length:=by rw[ax h];rfl
theorem aO(l s r:Int)(d:List Nat):∀v∈enV l s r d,v.oneCell'=true:=by
 intro v b;rcases List.mem_append.1 b with h|h
 · simp at h
   rcases h with rfl|rfl|rfl<;>rfl
 · exact av _ _ v h
theorem zU(b o m:Int): iP.built 62 [(4,.int .i64 2),(5,.int .i64 b),(6,.int .i64 o),(7,.int .i64 m)]=some (shV an 0 0 0 2 b o m).toArray:=by kernel_rfl
theorem va{d:List Nat}(h:d.length=16)(r l s k b o m:Int){e:List Nat}(c:e.length=16):splice (shV e r l s k b o m) 0 (An .u8 d)=shV d r l s k b o m:=by
 obtain⟨d0,d1,d2,d3,d4,d5,d6,d7,d8,d9,d10,d11,d12,d13,d14,d15,rfl⟩:=eO h;obtain⟨f,e1,e2,e3,g,e5,e6,e7,i,j,n,p,q,t,u,w,rfl⟩:=eO c;rfl
theorem fI{w:gg}{g:Nat}{x:En}{t:jt}(h:w.heap[g]? =some (.cells x.v.toArray t (0,0))):
 w.cell? ⟨g,0,none⟩=some (.int .i64 x.l)∧w.cell? ⟨g,1,none⟩=some (.int .i64 x.s)∧w.cell? ⟨g,2,none⟩=some (.int .i64 x.r)∧w.rangeAt g 3 (An .u8 x.d):=oU h
theorem OwnRows.ne{w:gg}{base C n:Nat}{e:jt}{v:jd}{b:List (List jd)}(h:OwnRows w base e C v n b){g:Nat}(f:g<base):v.ownBlock≠some g:=by
 intro c;have:=(h.1.lt g c).1;omega
theorem OwnRows.fresh{w:gg}{base C n:Nat}{e:jt}{v:jd}{b:List (List jd)}(h:OwnRows w base e C v n b):v.ownBlock≠some w.heap.size:=by
 intro c;have:=(h.1.lt _ c).2;omega
theorem vr{w:gg}{g:Nat}{x:Sh}{t:jt}{fr:Nat×Nat}(b:x.ok)(h:w.heap[g]? =some (.cells x.v.toArray t fr)):Rds w w.heap.size (some ⟨g,0,none⟩) 23 1 (shs [x]):=by
 have:=jX h;rwa [show x.v.length=23 from bc b.1 _ _ _ _ _ _ _]at this
theorem pZ(b o m:Int)(l:List En)(A:Option Addr)(n a4 aG:Nat)(w:gg)(hr:Rds w aG A 19 n (ens l))(hB:aG≤w.heap.size)(aJ:∀x∈l,x.ok)(hn:n≤4611686018427387904):
 js iP 208 #[.int .i64 b,.int .i64 o,.int .i64 m,.slice A n a4] w fun e w'=>e=.returned (.tuple #[.agg (OH l b o m).toArray,.bool (No l b o m)])∧Below w.heap.size w w':=by
 have S:l.length=n:=by have:=hr.1;rwa [ens,hZ]at this
 by_cases T:(n:Int)=JV m∧n≠0
 · obtain⟨hs,q⟩:=T
   have a5:JV m≤7:=by have:=aI m;unfold JV;omega
   have t1:((n:Int) !=JV m)=false:=by simpa using hs
   have t2:((n:Int)==0)=false:=by simp;omega
   have HL:=qZ S;have a6:=qZ hs;have bj:=qZ q;have bk:n≤7:=by omega
   clear hs q S a5;go_enter func208, ntmps208;go_wp2_with (go_at_call 115;refine(bA _ _).mono ?_;rintro e w' ⟨rfl,rfl⟩);go_loopw [10,31] (fun v au wr=>∃k:Nat,k≤n∧au=.int .i64 k∧OwnRows wr (w.heap.size+1) 62 23 v k (shs (owns (l.take k) b o m))∧((l.take k).all fun x=>x.may b o m)=true∧wr.heap[w.heap.size]? =some (.cells zeroV.toArray 62 (0,0))∧Below w.heap.size w wr) (fun _ au _=>n-(intOf au).toNat)
   case atStart=>exact⟨0,by omega,rfl,OwnRows.nil,rfl,aj w _ _ rfl,(Below.refl _ w).alloc (ej _) _⟩
   case round=>
    obtain⟨k,hk,rfl,C,aK,q,N⟩:=hrel;have HA:=qZ aK;clear aK;by_cases aL:k<n
    · have aM:k<l.length:=by rw[HL.out];exact aL
      obtain⟨x,Z⟩:∃x,l[k]? =some x:=⟨_,eD aM⟩;have O:=aJ x (ek Z);have aP:=hr.below N hB;obtain⟨bb,oo,rfl,bl,hR⟩:=aH aP aL (r:=x.v) (by rw[ens,hX,Z];rfl);have HT:=qZ (show l.take (k+1)=l.take k++[x] by rw[eX aM];simp_all);have HM:=qZ (ek Z);have P:=bo O.1 x.l x.s x.r;have aS:=qZ (ax O.1 x.l x.s x.r);have Q:=aQ x.d O.1 x.r x.l x.s 1 b o m;have ab:=qZ (bc O.1 x.r x.l x.s 1 b o m);have bm:(k:Int)<(n:Int):=by omega
      have t:=N.size;have D:w.heap.size≠wr.heap.size:=by have:=af q;omega
      have U:=qZ O;clear Z aP O;obtain⟨c,aw⟩:∃c:gg,c=wr:=⟨_,rfl⟩;subst aw;cases R:x.may b o m with
      |false=>
       have z:=qZ (show No l b o m=false by
        unfold No;have:(l.all fun x=>x.may b o m)=false:=by rw[Bool.eq_false_iff];intro h;have:=List.all_eq_true.1 h x HM;rw[R]at this;cases this
        simp_all)
       have G:=qZ (show OH l b o m=zeroV by unfold OH;rw[z.out];rfl);have V:=qZ (show K0 x.d x.r x.l x.s 1 b o m=false from R);have HO:=qZ (show Ox x.d x.r x.l x.s b o m=zeroV by unfold Ox;rw[V.out];rfl);clear R;go_wp2_with (first|(refine ed rfl 90 (.tmp 33) rfl bb (oo+k*19) rfl _ _ hR hO rfl P ?_)|(refine ag rfl 90 (.tmp 12) (.tmp 34) rfl c.heap.size x.v rfl rfl 90 _ (aj c _ _ rfl) P (by rw[En.v,aS.out];rfl) (aO _ _ _ _) ?_;intro w2 f;have W:=f.at_;have E:=f.old (am q _) D;have ad:=(C.alloc _).upd f C.fresh;have u:=f.below (N.alloc t _) t)|(refine ed rfl 90 (.tmp 12) rfl c.heap.size 0 rfl _ _ (ai W) hO rfl P ?_));refine(ep b o m x.l x.s x.r x.d _ U.1 U.2).mono ?_;rw[V.out,HO.out];rintro e g ⟨rfl,j⟩;have B:=aa E j;have p:=u.trans (j.mono u.size);have X:w.heap.size≠g.heap.size:=by have:=af B;omega
       clear E u j ad W f;go_wp2_with (first|(refine ag rfl 62 (.tmp 13) (.tmp 41) rfl g.heap.size zeroV rfl rfl 62 _ (aj g _ _ rfl) (aQ _ rfl _ _ _ _ _ _ _) rfl (aE _ _ _ _ _ _ _ _) ?_;intro w4 i;have H:=i.old (am B _) X;have I:=i.below (p.alloc p.size _) p.size)|(refine ac rfl 62 _ rfl _ rfl _ cR ?_)|(refine ag rfl 62 (.tmp 8) (.tmp 45) rfl w.heap.size zeroV rfl rfl 62 _ H (aQ _ rfl _ _ _ _ _ _ _) rfl (aE _ _ _ _ _ _ _ _) ?_;intro w6 hU6));refine jm (v:=.tuple #[.agg zeroV.toArray,.bool false]) ?_ rfl ⟨by rw[z.out,G.out],hU6.below I (by omega)⟩;exact yb4
      |true=>
       have Y:=qZ (show((l.take (k+1)).all fun x=>x.may b o m)=true by rw[HT.out,List.all_append,HA.out];simp[R]);have V:=qZ (show K0 x.d x.r x.l x.s 1 b o m=true from R);have HO:=qZ (show Ox x.d x.r x.l x.s b o m=(x.sh b o m).v by unfold Ox;rw[V.out];rfl);have HW:=qZ (show shs (owns (l.take k) b o m)++shs [x.sh b o m]=shs (owns (l.take (k+1)) b o m) by rw[HT.out];simp[shs,owns]);clear R;go_wp2_with (first|(refine ed rfl 90 (.tmp 33) rfl bb (oo+k*19) rfl _ _ hR hO rfl P ?_)|(refine ag rfl 90 (.tmp 12) (.tmp 34) rfl c.heap.size x.v rfl rfl 90 _ (aj c _ _ rfl) P (by rw[En.v,aS.out];rfl) (aO _ _ _ _) ?_;intro w2 f;have W:=f.at_;have E:=f.old (am q _) D;have ad:=(C.alloc _).upd f C.fresh;have u:=f.below (N.alloc t _) t)|(refine ed rfl 90 (.tmp 12) rfl c.heap.size 0 rfl _ _ (ai W) hO rfl P ?_));refine(ep b o m x.l x.s x.r x.d _ U.1 U.2).mono ?_;rw[V.out,HO.out];rintro e g ⟨rfl,j⟩;have B:=aa E j;have p:=u.trans (j.mono u.size);have X:w.heap.size≠g.heap.size:=by have:=af B;omega
       have aT:=ad.below j;have s3:w.heap.size+1≤g.heap.size:=by have:=af B;omega
       clear E u j ad W f
       go_wp2_with (first|(refine ag rfl 62 (.tmp 13) (.tmp 41) rfl g.heap.size (x.sh b o m).v rfl rfl 62 _ (aj g _ _ rfl) Q (by rw[Sh.v,En.sh,ab.out];rfl) (aE _ _ _ _ _ _ _ _) ?_;intro w4 i;have aU:=i.at_;have H:=i.old (am B _) X;have ay:=(aT.alloc _).upd i aT.fresh;have I:=i.below (p.alloc p.size _) p.size;have a7:=i.size;have s4:w.heap.size+1≤w4.heap.size:=by(rw[a7];simp;omega))|(refine ed rfl 62 (.tmp 13) rfl g.heap.size 0 rfl _ _ (ai aU) fo rfl Q ?_)|(refine dL rfl 156 (.tmp 47) rfl 62 (x.sh b o m).v _ 23 72 rfl fj fR ab.out (by decide) (by decide) ?_)|
        (at_builtin;go_must (refine aN rfl (.tmp 46) (.tmp 48) 156 rfl 62 _ 23 72 fj fR rfl (by decide) (ay.alloc _) (I.alloc I.size _) rfl rfl (vr (x:=x.sh b o m) U (aj w4 _ _ rfl)) (mL _) (by unfold maxLen;omega) (by omega) (by simp;omega) (by omega) ?_;intro v5 w5 aV ae aW a8)))
       have ak:=aR (am H _) aW (fun e=>ay.ne (Nat.lt_succ_self _) e.symm);rw[HW.out]at aV;clear aW a8 ay H aU i;go_roundw
       case rel=>exact⟨k+1,by omega,by go_num,aV,Y,ak,ae⟩
       case measure=>simp[intOf];omega
    · obtain rfl:k=n:=by omega
      have az:l.take k=l:=hG (by rw[HL.out];omega);rw[az]at C;have Y:=HA.out;rw[az]at Y;have z:=qZ (show No l b o m=true by unfold No;rw[HL.out,Y,a6.out];grind);have G:=qZ (show OH l b o m=(KY l b o m).v by unfold OH;rw[z.out];rfl);have aA:=x6 aJ b o m;have al:=be fun y hy=>(aA y hy).1
      have bn:=gH (owns l b o m);have a9:=qZ (show(KY l b o m).v=shV (KT (owns l b o m)) (KQ (KE (owns l b o m))) (LB (KE (owns l b o m))) (LC (KE (owns l b o m))) 2 b o m from rfl);have ba:=qZ aA;generalize owns l b o m=L at*;have J:=qZ al;have aB:(iP.info? 35).map (·.size)=some (An .u8 (KT L)).length:=by rw[ah,al];kernel_rfl
      have aX:=qZ (show(An .u8 (KT L)).length=16 by rw[ah,al]);obtain⟨bp,c10,rfl,-,-⟩:=C.slice;have aY:=C.rds;have D:w.heap.size≠wr.heap.size:=by have:=af q;omega
      have t:=N.size;obtain⟨c,aw⟩:∃c:gg,c=wr:=⟨_,rfl⟩;subst aw;clear az Y HA C aA al hr;go_wp2_with (first|(refine ac rfl 62 _ rfl _ rfl _ (zU b o m) ?_)|(refine ag rfl 62 (.tmp 15) (.tmp 54) rfl c.heap.size (shV an 0 0 0 2 b o m) rfl rfl 62 _ (aj c _ _ rfl) (aQ _ rfl _ _ _ _ _ _ _) rfl (aE _ _ _ _ _ _ _ _) ?_;intro w2 f;have aZ:=f.at_;have E:=f.old (am q _) D;have a0:=(aY.below ((Below.refl _ c).alloc (ej _) _) (ej _)).upd f (ej _);have u:=f.below (N.alloc t _) t;have bd:=f.size));refine(tt _ _ _ _ _ _ a0 (by simp_all) ba (by omega)).mono ?_;rintro e g ⟨rfl,j⟩;have aC:=aa aZ j;have B:=aa E j;have p:=u.trans (j.mono u.size);have X:w.heap.size≠g.heap.size:=by have:=af B;omega
      have bf:c.heap.size≠g.heap.size:=by have:=af aC;omega
      clear aZ E a0 u bd f j aY
      go_wp2_with (first|(refine ag rfl 35 (.tmp 16) (.tmp 58) rfl g.heap.size (An .u8 (KT L)) rfl rfl 35 _ (aj g _ _ rfl) aB (by rw[aX.out];rfl) (av _ _) ?_;intro w4 i;have a1:=i.at_;have a2:=i.old (am aC _) bf;have H:=i.old (am B _) X;have I:=i.below (p.alloc p.size _) p.size)|(refine ed rfl 35 (.tmp 16) rfl g.heap.size 0 rfl _ _ (ai a1) underlying35 rfl aB ?_)|
       (refine bI rfl 35 (.tmp 61) (.tmp 60) rfl c.heap.size 0 (An .u8 (KT L)) rfl rfl 62 _ a2 aB (by rw[aX.out,bc (show an.length=16 from rfl)];decide) (av _ _) ?_;intro w5 aq;have K:=aq.at_;rw[va J.out _ _ _ _ _ _ _ rfl]at K;have ak:=aq.old H D;have ae:=aq.below I t))
      refine(kf (KE L:Int) _ (by omega) (by omega)).mono ?_;rintro e w' ⟨rfl,rfl⟩;have f16:=ao K 16;have f17:=ao K 17;have f18:=ao K 18;obtain⟨br,bs,bt,-⟩:=bq J K;have U1:=ar (i:=16) K (.int .i64 (KQ (KE L:Int)));have U2:=ar (i:=17) U1.at_ (.int .i64 (LB (KE L:Int)));have U3:=ar (i:=18) U2.at_ (.int .i64 (LC (KE L:Int)));have aF:=U3.at_;rw[(fQ J.out _ _ _ _ _ _ _ _).1,(fQ J.out _ _ _ _ _ _ _ _).2.1,(fQ J.out _ _ _ _ _ _ _ _).2.2.1]at aF;have HF:=qZ (And.intro aF (And.intro (U3.old (U2.old (U1.old ak D) D) D) (U3.below (U2.below (U1.below ae t) t) t)));clear U1 U2 U3 aF K ak ae aq a2 H I i a1 aC B p;have Q:=aQ (KT L) J (KQ (KE L:Int)) (LB (KE L:Int)) (LC (KE L:Int)) 2 b o m;have ab:=qZ (bc J (KQ (KE L:Int)) (LB (KE L:Int)) (LC (KE L:Int)) 2 b o m);go_upto_region 16 with fail
      generalize ((w5.setCell ⟨c.heap.size,16,none⟩ (.int .i64 (KQ (KE L:Int)))).setCell ⟨c.heap.size,17,none⟩ (.int .i64 (LB (KE L:Int)))).setCell ⟨c.heap.size,18,none⟩ (.int .i64 (LC (KE L:Int)))=w6 at*;obtain⟨h6,bg,bh⟩:=HF;go_wp2_with (first|(refine ed rfl 62 (.tmp 15) rfl c.heap.size 0 rfl _ _ (ai h6) fo rfl Q ?_)|(refine ag rfl 62 (.tmp 8) (.tmp 71) rfl w.heap.size _ rfl rfl 62 _ bg Q (by rw[ab.out];rfl) (aE _ _ _ _ _ _ _ _) ?_;intro w7 a3));refine jm (v:=.tuple #[.agg (shV (KT L) (KQ (KE L:Int)) (LB (KE L:Int)) (LC (KE L:Int)) 2 b o m).toArray,.bool true]) ?_ rfl ⟨by rw[z.out,G.out,a9.out],a3.below bh (by omega)⟩;rw[aD rfl _ _ _ _ _ _ _ rfl a3.at_ fo rfl Q];rfl
 · have z:No l b o m=false:=by
    unfold No;rw[S];by_cases M:(n:Int)=JV m
    · simp_all
    · simp[M]
   have G:OH l b o m=zeroV:=by unfold OH;rw[z];rfl
   rw[z,G];have HS:=qZ T;by_cases M:(n:Int)=JV m
   · have t1:((n:Int) !=JV m)=false:=by simpa using M
     have q:n=0:=by
      rcases Nat.eq_zero_or_pos n with h|h
      · exact h
      · exact absurd ⟨M,by omega⟩ T
     have t2:((n:Int)==0)=true:=by simp[q]
     clear M T z G S HS;clear q;exact yaw
   · have t1:((n:Int) !=JV m)=true:=by simpa using M
     clear M T z G S HS;exact yaw
end
section
theorem oE{d:List Nat}(c:d.length=16)(e:∀x∈d,x<256){r l s k b o m:Int}(h:K0 d r l s k b o m=true):NV (Lo d r l s k b o m)=true∧OM (Lo d r l s k b o m) 4=shV d r l s k b o m:=by
 obtain⟨f,g,i,j,s0,s1,k0,k1,n,w,p,z,m0,m1⟩:=jj h;obtain⟨e1,e2,e3,q,e5,e6,e7,t⟩:=pT c e f g i j s0 s1 (show 0≤k by omega) (show k<256 by omega) n (show b<256 by omega) p (show o<256 by omega) m0 m1;have u:=tp (df c r l s k b o m) (jY e r l s k b o m);rw[e1,e2,e3,q,e5,e6,e7,t]at u;constructor
 · unfold NV
   simp_all
 · unfold OM
   simp_all
theorem mJ{x:Sh}(h:x.ok):(Om x.d x.r x.l x.s x.k x.b x.o x.m).length=32∧∀z∈Om x.d x.r x.l x.s x.k x.b x.o x.m,z<256:=by
 unfold Om;split
 · exact⟨df h.1 _ _ _ _ _ _ _,jY h.2 _ _ _ _ _ _ _⟩
 · exact⟨rfl,by decide⟩
def zS:Sh:=⟨an,0,0,0,0,0,0,0⟩
def Nf(P:List Nat):Sh:=if NV P then⟨P.take 16,rR P,rL P,rS P,rK P,rB P,rO P,L7 P⟩else zS
theorem CG(P:List Nat):(Nf P).v=Oo P:=by unfold Nf Oo;split<;>rfl
theorem rx{P:List Nat}(c:P.length=32)(b:∀x∈P,x<256):(Nf P).ok:=by
 unfold Nf;split
 · exact⟨by simp_all,jO b 16⟩
 · exact⟨rfl,ik⟩
theorem Fu{x:Sh}(b:x.ok)(h:x.may=true):NV (Om x.d x.r x.l x.s x.k x.b x.o x.m)=true∧Nf (Om x.d x.r x.l x.s x.k x.b x.o x.m)=x:=by
 have e:Om x.d x.r x.l x.s x.k x.b x.o x.m=Lo x.d x.r x.l x.s x.k x.b x.o x.m:=by unfold Om;rw[show K0 x.d x.r x.l x.s x.k x.b x.o x.m=true from h];rfl
 obtain⟨g1,g2⟩:=oE b.1 b.2 h;obtain⟨c,f,g,i,s0,s1,k0,k1,j,l,k,m,m0,m1⟩:=jj h;obtain⟨e1,e2,e3,n,e5,e6,e7,o⟩:=pT b.1 b.2 c f g i s0 s1 (show 0≤x.k by omega) (show x.k<256 by omega) j (show x.b<256 by omega) k (show x.o<256 by omega) m0 m1;rw[e];refine⟨g1,?_⟩;unfold Nf;simp_all
end
end Go.Proofs.YtlkpfnjdbgeifaaGreat
