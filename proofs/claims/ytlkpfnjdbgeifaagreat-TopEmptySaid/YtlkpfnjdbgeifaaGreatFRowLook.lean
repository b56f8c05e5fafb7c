import Derived.Deep.RegionHeldLaw
import Derived.Test.YtlkpfnjdbgeifaaGreatFDevMs
set_option linter.unusedSimpArgs false
set_option linter.unusedVariables false
set_option maxRecDepth 100000
set_option maxHeartbeats 16000000
open List renaming getElem?_eq_some_iff→ed,mem_of_getElem?→fj,mem_append→gg,foldl_cons→hG,foldl_nil→hZ,mem_singleton→jd,drop_eq_getElem_cons→jg,getElem?_map→jm,getElem?_eq_getElem→jt,pairwise_singleton→jw,mem_cons_of_mem→kd,mem_append_left→kk,mem_map→lx
open Go renaming undef→ej,Value→eX,World→hX,bodyPost_ret→jI,bodyPost→ly,wp_load_mid→l4,Calls→nr
open Int renaming eq_ofNat_of_zero_le→ek
open Go.Region renaming binds→eD
open Go.Proofs.Tryz renaming underlying3→fo,underlying79→hO,underlying156→js,underlying90→kb,underlying158→kn,underlying62→kr,underlying4→l5,prog→l8
open Array renaming getElem?_eq_some_iff→iP
namespace Go.Proofs.YtlkpfnjdbgeifaaGreat
open Go.Proofs.Tryz
open Go.RowKit
theorem ybc{A:Prop}(h:A:=by
 intro ux L w' hL hJ;have hs:Mr w0 w' [(wL.heap.size,x.v, 62),(w0.heap.size,x.v, 62)] []:=by simpa[hL 9 (by decide)]using hJ
 clear hJ;simp only[List.foldl_cons,List.foldl_nil];go_simp;go_wp2_with fail;change bodyPost _ _ _ _ _ _;exact bodyPost_ret (hs.Nn 1 rfl rfl _ rfl underlying62 rfl bg HXl.out) rfl ⟨by first|rfl|(rw[hk];rfl),hs.out⟩):A:=h
theorem yby{A:Prop}(h:A:=by
 refine Wn ?_;have hJ':Mr w0 w' [(wL.heap.size,x.v, 62),(w0.heap.size,shV an 0 0 0 0 0 0 0, 62)] []:=by simpa[hL]using hJ.out
 refine Ea hJ' 62 rfl ev (aZ 0) bg HXl.out rfl (aE _ _ _ _ _ _ _ _) fun w'' hw=>⟨ux,undef,rfl,rfl,?_⟩
 simpa[JW]using hw):A:=h
theorem ycr{A:Prop}(h:A:=by
 refine Wn ?_;exact wp_load_mid 62 (.tmp 8) rfl wL.heap.size 0 ev x.v _ (ai (hJ.out.blk (i:=0) rfl)) underlying62 rfl (by rw[HXl.out];exact bg) ⟨ux,_,rfl,rfl,by simpa[JW]using hJ.out⟩):A:=h
theorem yc8{A:Prop}(h:A:=by
 have t7:=hJ.out.cell 0 22 rfl (cJ x HX.out 6);have c4':=(hJ.out.out.cell (p:=⟨km,0,none⟩) (World.block_lt_of_cell? w0 _ c4)).trans c4;exact cH):A:=h
namespace dev
open JT (Nd JS)
section
variable {w0:hX}{base g m:Nat}{N:Nd}
theorem mM(h:JS w0 base g m N){j l n km:Nat}{b r q:Int}(d:Int)(hd:wfI d)(f:wfI b)(z:wfI r)(c1:w0.cell? ⟨j,0,none⟩=some (.pointer (some ⟨g,0,none⟩)))(c2:w0.cell? ⟨l,0,none⟩=some (.int .i64 b))(c3:w0.cell? ⟨n,0,none⟩=some (.int .i64 r))(c4:w0.cell? ⟨km,0,none⟩=some (.int .i64 q)):
 nr l8 140 #[d,j,l,n,km] w0 fun e w'=>e=.returned (.tuple #[.agg (one N b r q d).1.v.toArray,.bool (one N b r q d).2])∧Below w0.heap.size w0 w':=by
 have D:=qZ (fun W (E:Below w0.heap.size w0 W)=>kt (h.below E) ⟨d,b,r⟩ ⟨hd,f,z⟩);have HX:=qZ (fW h.ok ⟨d,b,r⟩);have hs:=Mr.start w0;have e1:one N b r q d=((look N ⟨d,b,r⟩).1,(look N ⟨d,b,r⟩).2==1&&(look N ⟨d,b,r⟩).1.m==q):=rfl;rw[e1];generalize look N ⟨d,b,r⟩=y at*;obtain⟨x,k⟩:=y;have HXl:=qZ (bi HX.out);clear h hd f z e1;go_enter func140, ntmps140;go_wp2_with (first|(refine ma ?_;try (clear hs;intro w hs))|(refine ac rfl 52 _ rfl _ rfl _ (rP d b r) ?_));refine(D.out w hs.out).mono ?_;rintro e wL ⟨rfl,f⟩;replace hs:=hs.below f;clear f D;go_upto_region 2 with(refine ma ?_;try (clear hs;intro w hs))
 have hk:(k==1)=true∨(k==1)=false:=by cases k==1<;>simp
 rcases hk with hk|hk
 · have H:Kz (([(some 19,.agg x.v.toArray),(some 20,k),(some 21,.bool true),(some 22,.bool true),(some 23,.pointer (some ⟨wL.heap.size,22,none⟩)),(some 24,x.m),(some 25,q),(some 26,.bool (x.m==q)),(some 27,.bool (x.m==q)),(none,ej),(some 7,.bool (x.m==q))]:List (Option Tmp×eX)).map (·.1))=true:=by kernel_rfl
   refine dz (X:=Unit) (fun _=> [(some 19,.agg x.v.toArray),(some 20,k),(some 21,.bool true),(some 22,.bool true),(some 23,.pointer (some ⟨wL.heap.size,22,none⟩)),(some 24,x.m),(some 25,q),(some 26,.bool (x.m==q)),(some 27,.bool (x.m==q)),(none,ej),(some 7,.bool (x.m==q))])
    (fun _ L w'=>Mr w0 w' [(wL.heap.size,x.v, 62),(w0.heap.size,if L 9 then x.v else shV an 0 0 0 0 0 0 0, 62)] []) ⟨(),fun L hL=>by rw[hL 9];exact hs.drew⟩ ?_ ?_
   · refine⟨?_,rr,rr,rr,rr,?_,?_,rr,rr,?_,rr,trivial⟩
     all_goals
      intro ux L w' hL hpre hJ a ha he;simp[eD]at hpre
     · exact ycr
     · exact yc8
     · exact yc8
     · exact yby
   · exact ybc
 · have H:Kz (([(some 19,.agg x.v.toArray),(some 20,k),(some 21,.bool false),(some 22,.bool false),(some 23,ej),(some 24,ej),(some 25,ej),(some 26,ej),(some 27,.bool false),(none,ej),(some 7,.bool false)]:List (Option Tmp×eX)).map (·.1))=true:=by kernel_rfl
   refine dz (X:=Unit) (fun _=> [(some 19,.agg x.v.toArray),(some 20,k),(some 21,.bool false),(some 22,.bool false),(some 23,ej),(some 24,ej),(some 25,ej),(some 26,ej),(some 27,.bool false),(none,ej),(some 7,.bool false)])
    (fun _ L w'=>Mr w0 w' [(wL.heap.size,x.v, 62),(w0.heap.size,if L 9 then x.v else shV an 0 0 0 0 0 0 0, 62)] []) ⟨(),fun L hL=>by rw[hL 9];exact hs.drew⟩ ?_ ?_
   · refine⟨?_,rr,rr,rr,?_,?_,?_,?_,rr,?_,rr,trivial⟩
     all_goals
      intro ux L w' hL hpre hJ a ha he;simp[eD]at hpre
     · exact ycr
     · exact gn
     · exact gn
     · exact gn
     · exact gn
     · exact yby
   · exact ybc
end
open JT (Nd JS)
theorem vd(N:Nd)(b r m:Int)(k:Nat):ME N b r m (k+1)=ME N b r m k++[one N b r m (Le m b r k)]:=by
 unfold ME;rw[List.range_succ,List.map_append];rfl
theorem It{x:Int}(b: -1≤x)(c:x<8):wfI x:=sw (by omega) (by omega)
theorem pY(m b r:Int):wfI (Ka m b r):=by
 rcases ir m b r with h|⟨M,P,-,-,-,e,-,c⟩
 · rw[h];exact It (by omega) (by omega)
 · rw[c];exact It (by omega) (by omega)
theorem xZ(m b r s:Int):wfI (Le m b r s):=by
 unfold Le;split
 · exact It (by omega) (by omega)
 · unfold atI
   split
   · exact It (by omega) (by omega)
   · split
     · rename_i d e
       have c:=fj e;unfold N8 at c;split at c
       · have:=(List.mem_filter.1 c).1
         rw[List.mem_range]at this;exact It (by omega) (by omega)
       · simp at c
     · exact It (by omega) (by omega)
theorem gJ{N:Nd}(h:N.ok)(b r m d:Int):(one N b r m d).1.ok:=fW h _
theorem rW:(⟨an,0,0,0,0,0,0,0⟩:Sh).ok:=⟨rfl,ik⟩
theorem ra{A f:Option Addr}{n c g c2:Nat}(p:Sh)(b:Bool):∀x∈foV (.slice A n c) (.slice f g c2) p b,x.oneCell'=true:=by
 intro x e;unfold foV at e;rcases gg.1 e with e|e
 · simp at e
   rcases e with rfl|rfl<;>rfl
 · rcases gg.1 e with e|e
   · exact aE _ _ _ _ _ _ _ _ x e
   · simp at e;subst e;rfl
theorem vE{b:Type}(l:List b)(x:b)(r:List b):x∈l++x::r:=by simp
theorem Cd{b:Type}(l:List b)(x y:b)(r:List b):y∈l++x::y::r:=by simp
theorem IR:(l8.info? 156).map (·.size)=some 1:=by kernel_rfl
theorem IS:(l8.info? 79).map (·.size)=some 1:=by kernel_rfl
structure LkJ (w0:hX) (F T k:Nat) (REST:List Bk) (u v:eX) (par:Sh) (wh gd:Bool) (x:Sh) (X1 X2:List eX) (z:Nat×Nat×eX×eX) (L:Nat→Bool) (w:hX):Prop where
 ms:∃L',Mr w0 w (L'++(T,x.v, 62)::(F,foV (bif L 11 then z.2.2.1 else u) (bif L 13 then z.2.2.2 else v) par wh, 158)::REST) [⟨4,1,bif L 9 then z.2.2.2 else v,bif L 9 then k+1 else k,bif L 9 then X2++[.bool gd]else X2⟩,⟨62,23,bif L 4 then z.2.2.1 else u,bif L 4 then k+1 else k,bif L 4 then X1++x.v else X1⟩]∧(L 3=true→(z.1,x.v, 62)∈L')∧(L 8=true→(z.2.1,[.bool gd], 4)∈L')
 a:L 4=true→L 1=true
 b:L 9=true→L 6=true
 c:L 11=true→L 4=true
 d:L 13=true→L 9=true
theorem LkJ.JW{e w:hX}{F T k:Nat}{f:List Bk}{u v:eX}{g:Sh}{j l:Bool}{x:Sh}{X1 X2:List eX}{z:Nat×Nat×eX×eX}{L:Nat→Bool}{i:Nat}(h:LkJ e F T k f u v g j l x X1 X2 z L w)(o:JW L i 3=L 3)(b:JW L i 4=L 4)(p:JW L i 8=L 8)(c:JW L i 9=L 9)(m:JW L i 11=L 11)(n:JW L i 13=L 13):LkJ e F T k f u v g j l x X1 X2 z (JW L i) w:=by
 refine⟨?_,fun q=> ?_,fun q=> ?_,fun q=> ?_,fun q=> ?_⟩
 · rw[o,b,p,c,m,n];exact h.ms
 · rw[b]at q;simp[Go.Proofs.YtlkpfnjdbgeifaaGreat.JW,h.a q]
 · rw[c]at q;simp[Go.Proofs.YtlkpfnjdbgeifaaGreat.JW,h.b q]
 · rw[m]at q;rw[b];exact h.c q
 · rw[n]at q;rw[c];exact h.d q
section
variable {w0:hX}{base g m:Nat}{N:Nd}
theorem lO(h:JS w0 base g m N)(b r q:Int)(z:wfI b)(hr:wfI r):nr l8 86 #[g,b,r,q] w0 fun e w'=>
 ∃u v,e=.returned (.agg (foV u v (Lf N b r q).par (Lf N b r q).whole).toArray)∧Mr w0 w' [] [⟨4,1,v,(JV q).toNat,MC ((Lf N b r q).sl.map (·.2))⟩,⟨62,23,u,(JV q).toNat,(shs ((Lf N b r q).sl.map (·.1))).flatten⟩]:=by
 have aU:∀(fn:Fn) (first ad:Array eX) (w:hX),(Instr.makeFunc fn first ad).run l8 w=.ok (.func fn first ad) w:=fun _ _ _ _=>rfl
 have eg:∀ae w,(callFunc 140 ae).run l8 w=.ok (.enter 140 ae) w:=enters_of func140 (by kernel_rfl) rfl;have af:=qZ (fun d:Int=>gJ h.ok b r q d);rw[show(Lf N b r q).par=(one N b r q (Ka q b r)).1 from rfl,show(Lf N b r q).whole=(one N b r q (Ka q b r)).2 from rfl,show(Lf N b r q).sl=ME N b r q (JV q).toNat from rfl];have T:=af.out (Ka q b r);obtain⟨y,U⟩:∃y,y=one N b r q (Ka q b r):=⟨_,rfl⟩;rw[←U]at T⊢;obtain⟨D,E⟩:=y;have n:=qZ (show D.ok from T);have au:=qZ U;have aV:=qZ (bi n);obtain⟨K,hK⟩:∃K:Nat,JV q=(K:Int):=⟨(JV q).toNat,by have:=aI q;unfold JV;split<;>omega⟩;have aW:K≤7:=by have:=aI q;unfold JV at hK;split at hK<;>omega
 have HK:=qZ hK;have ag:(JV q).toNat=K:=by omega
 rw[ag];clear hK ag U T;have ah:=qZ h;have HB:=qZ z;have HR:=qZ hr;have hs:=Mr.start w0;clear h z hr;go_enter func86, ntmps86;go_upto_region 3 with(first|(refine aG hs 25 rfl rfl (.pointer (some ⟨g,0,none⟩)) [.pointer (some ⟨g,0,none⟩)] rfl rfl rfl ?_;clear hs;intro V hs)|(refine aG hs 3 rfl rfl (.int .i64 q) [.int .i64 q] (w:=W) rfl rfl rfl ?_;clear hs;intro Y hs)|(refine aG hs 3 rfl rfl (.int .i64 r) [.int .i64 r] (w:=wb) rfl rfl rfl ?_;clear hs;intro W hs)|(refine aG hs 3 rfl rfl (.int .i64 b) [.int .i64 b] (w:=V) rfl rfl rfl ?_;clear hs;intro wb hs)|(refine az hs 158 rfl rfl _ (foV (.slice none 0 0) (.slice none 0 0) ⟨an,0,0,0,0,0,0,0⟩ false) gq rfl (w:=wf) rfl ?_;clear hs;intro w hs)|(refine az hs 158 rfl rfl _ (foV (.slice none 0 0) (.slice none 0 0) ⟨an,0,0,0,0,0,0,0⟩ false) gq rfl (w:=Y) rfl ?_;clear hs;intro wf hs))
 go_wp2_with (first|(refine aK 2 hs rfl 3 rfl rfl rfl fo rfl (by first|rfl|exact cJ _ (by first|assumption|exact(by assumption:Hid _).out) _|assumption) ?_)|(refine aK 3 hs rfl 3 rfl rfl rfl fo rfl (by first|rfl|exact cJ _ (by first|assumption|exact(by assumption:Hid _).out) _|assumption) ?_)|(refine aK 4 hs rfl 3 rfl rfl rfl fo rfl (by first|rfl|exact cJ _ (by first|assumption|exact(by assumption:Hid _).out) _|assumption) ?_));refine(bH q b r w).mono ?_;rintro e w1 ⟨rfl,kq,rfl⟩;replace hs:=hs.drewN kq;generalize w.drewN kq=w at hs⊢;go_wp2_with fail;refine(mM (ah.below hs.out) (Ka q b r) (pY q b r) HB HR (hs.cell 5 0 rfl rfl) (hs.cell 4 0 rfl rfl) (hs.cell 3 0 rfl rfl) (hs.cell 2 0 rfl rfl)).mono ?_;rw[←au.out];rintro e w2 ⟨rfl,z⟩;replace hs:=hs.below z;clear z;go_wp2_with (first|(refine so hs 62 rfl rfl 2 rfl rfl bg (by first|rfl|assumption|(simp;done)|(exact(by assumption:Hid _).out)) (by first|decide|(simp;done)|(simp;omega)|omega) (by first|exact aE _ _ _ _ _ _ _ _|exact aO _ _ _ _|exact av _ _|decide|(intro u hu;simp at hu;subst hu;rfl)|assumption) ?_;clear hs;intro w hs;rw[Hs rW n.out]at hs)|(refine lI (v:=.bool E) hs 4 rfl rfl rfl rfl qQ (by rw[cF n.out];omega) rfl ?_;clear hs;intro w hs;rw[F8 n.out]at hs)|(refine aK 2 hs rfl 3 rfl rfl rfl fo rfl (by first|rfl|exact cJ _ (by first|assumption|exact(by assumption:Hid _).out) _|assumption) ?_)|(go_at_call 115;refine(bA _ _).mono ?_;rw[HK.out];rintro e w' ⟨rfl,rfl⟩));replace hs:=(hs.empty 62 23 rfl).empty 4 1 rfl;go_loopw [28] (fun i wr=>∃(k:Nat) (u v:eX),k≤K∧i=.int .i64 k∧Mr w0 wr ((wf.heap.size,foV u v D E, 158)::[(Y.heap.size,foV (.slice none 0 0) (.slice none 0 0) ⟨an,0,0,0,0,0,0,0⟩ false, 158),(W.heap.size,[.int .i64 q], 3),(wb.heap.size,[.int .i64 r], 3),(V.heap.size,[.int .i64 b], 3),(w0.heap.size,[.pointer (some ⟨g,0,none⟩)], 25)]) [⟨4,1,v,k,MC ((ME N b r q k).map (·.2))⟩,⟨62,23,u,k,(shs ((ME N b r q k).map (·.1))).flatten⟩]) (fun i _=>K-(intOf i).toNat)
 case atStart=>exact⟨0,_,_,by omega,rfl,hs⟩
 case round=>
  clear hs;obtain⟨k,u,v,hk,rfl,hs⟩:=hrel;by_cases aX:k<K
  · have aY:(k:Int)<(K:Int):=by omega
    have Z:=af.out (Le q b r k);obtain⟨y,M⟩:∃y,y=one N b r q (Le q b r k):=⟨_,rfl⟩;have HS:=qZ (vd N b r q k);rw[←M]at Z HS;obtain⟨x,H⟩:=y;have HX:=qZ (show x.ok from Z);have HY:=qZ M;have aa:=qZ (bi HX);clear Z M;go_wp2_with (refine ma ?_;try (clear hs;intro w hs));refine(ge q b r k _ (by omega) (by omega)).mono ?_;rintro e w1 ⟨rfl,aj,rfl⟩;replace hs:=hs.drewN aj;generalize World.drewN _ aj=w at hs⊢;go_wp2_with fail;refine(mM (ah.below hs.out) (Le q b r k) (xZ q b r k) HB HR (hs.cell 5 0 rfl rfl) (hs.cell 4 0 rfl rfl) (hs.cell 3 0 rfl rfl) (hs.cell 2 0 rfl rfl)).mono ?_;rw[←HY.out];rintro e wL ⟨rfl,z⟩;replace hs:=hs.below z;clear z;go_upto_region 8 with(refine ma ?_;try (clear hs;intro w hs))
    generalize hF:wf.heap.size=F at*;generalize hT:wL.heap.size=ak at*
    refine dz (X:=Nat×Nat×eX×eX) (fun ux=> [(some 41,F),(some 42,u),(some 43,.agg x.v.toArray),(some 44,.slice (some ⟨ux.1,0,none⟩) 1 1),(some 45,ux.2.2.1),(some 46,.pointer (some ⟨F,1,none⟩)),(some 47,v),(some 48,H),(some 49,.slice (some ⟨ux.2.1,0,none⟩) 1 1),(some 50,ux.2.2.2),(some 51,F),(none,ej),(some 52,.pointer (some ⟨F,1,none⟩)),(none,ej)])
     (fun ux L w'=>LkJ w0 F ak k [(Y.heap.size,foV (.slice none 0 0) (.slice none 0 0) ⟨an,0,0,0,0,0,0,0⟩ false, 158),(W.heap.size,[.int .i64 q], 3),(wb.heap.size,[.int .i64 r], 3),(V.heap.size,[.int .i64 b], 3),(w0.heap.size,[.pointer (some ⟨g,0,none⟩)], 25)] u v D E H x ((shs ((ME N b r q k).map (·.1))).flatten) (MC ((ME N b r q k).map (·.2))) ux L w') ⟨(0,0,ej,ej),fun L hL=>⟨⟨[],by simp only[hL 4,hL 9,hL 11,hL 13,cond_false];exact hs.drew,(by rw[hL 3];intro e;cases e),(by rw[hL 8];intro e;cases e)⟩,(by rw[hL 4];intro e;cases e),(by rw[hL 9];intro e;cases e),(by rw[hL 11];intro e;cases e),(by rw[hL 13];intro e;cases e)⟩⟩ ?_ ?_
    · refine⟨rr,?_,?_,?_,?_,rr,?_,rr,?_,?_,rr,?_,rr,?_,trivial⟩
      all_goals
       intro ux L w' hL hpre hJ a ha he;simp[eD]at hpre
      · refine Wn ?_
        have R:L 11=false:=by
         cases e:L 11 with
         |false=>rfl
         |true=>exact absurd (hJ.out.a (hJ.out.c e)) (by simp[hL])
        obtain⟨f,hm,h3,l⟩:=hJ.out.ms;simp only[R,cond_false]at hm;have aw:=aZ 0;exact ex hm (Cd _ _ _ _) 156 rfl aw js rfl rfl ⟨ux,_,rfl,rfl,hJ.out.JW rfl rfl rfl rfl rfl rfl⟩
      · refine Wn ?_
        obtain⟨f,hm,h3,l⟩:=hJ.out.ms;exact l4 62 (.tmp 12) rfl ak 0 ev x.v _ (ai (hm.own _ (vE _ _ _)).1) kr rfl (by rw[aa.out];exact bg) ⟨ux,_,rfl,rfl,hJ.out.JW rfl rfl rfl rfl rfl rfl⟩
      · refine Wn ?_
        obtain⟨f,hm,h3,l⟩:=hJ.out.ms;have ax:=aZ 2;refine iN hm 156 rfl ax rfl js jT aa (by decide) (by decide) rfl fun O j=>⟨(w'.heap.size,ux.2),_,rfl,rfl,?_⟩
        exact⟨⟨(w'.heap.size,x.v, 62)::f,j,fun _=>by simp,fun q=>kd _ (l q)⟩,hJ.out.a,hJ.out.b,hJ.out.c,hJ.out.d⟩
      · refine Wn ?_
        have R:L 11=false:=by
         cases e:L 11 with
         |false=>rfl
         |true=>exact absurd (hJ.out.c e) (by simp[hL])
        have ay:L 4=false:=hL;obtain⟨f,hm,h3,l⟩:=hJ.out.ms;simp only[R,ay,cond_false]at hm;have aA:=aZ 1;have aB:=aZ 3;refine fP hm.swap (kk _ (h3 (by simp[hpre]))) 156 rfl js jT rfl (by decide) aa aA aB (aE _ _ _ _ _ _ _ _) (by unfold maxLen;omega) (by omega) fun v' O j=>⟨(ux.1,ux.2.1,v',ux.2.2.2),_,rfl,rfl,?_⟩
        refine⟨⟨f,?_,h3,l⟩,fun _=>by simp[JW,hpre],hJ.out.b,fun _=>rfl,hJ.out.d⟩;have j:=j.swap;simpa[JW,R]using j
      · refine Wn ?_
        have S:L 13=false:=by
         cases e:L 13 with
         |false=>rfl
         |true=>exact absurd (hJ.out.b (hJ.out.d e)) (by simp[hL])
        obtain⟨f,hm,h3,l⟩:=hJ.out.ms;simp only[S,cond_false]at hm;have aC:=aZ 5;exact ex hm (Cd _ _ _ _) 79 rfl aC hO rfl rfl ⟨ux,_,rfl,rfl,hJ.out.JW rfl rfl rfl rfl rfl rfl⟩
      · refine Wn ?_
        obtain⟨f,hm,h3,l⟩:=hJ.out.ms;have aD:=aZ 7;refine iN (row:=[.bool H]) hm 79 rfl aD rfl hO xi rfl (by decide) (by decide) rfl fun O j=>⟨(ux.1,w'.heap.size,ux.2.2),_,rfl,rfl,?_⟩
        exact⟨⟨(w'.heap.size,[.bool H], 4)::f,j,fun q=>kd _ (h3 q),fun _=>by simp⟩,hJ.out.a,hJ.out.b,hJ.out.c,hJ.out.d⟩
      · refine Wn ?_
        have S:L 13=false:=by
         cases e:L 13 with
         |false=>rfl
         |true=>exact absurd (hJ.out.d e) (by simp[hL])
        have aF:L 9=false:=hL;obtain⟨f,hm,h3,l⟩:=hJ.out.ms;simp only[S,aF,cond_false]at hm;have aH:=aZ 6;have aJ:=aZ 8;refine fP hm (kk _ (l (by simp[hpre]))) 79 rfl hO xi rfl (by decide) rfl aH aJ (by intro y M;simp at M;subst M;rfl) (by unfold maxLen;omega) (by omega) fun v' O j=>⟨(ux.1,ux.2.1,ux.2.2.1,v'),_,rfl,rfl,?_⟩
        refine⟨⟨f,?_,h3,l⟩,hJ.out.a,fun _=>by simp[JW,hpre],hJ.out.c,fun _=>rfl⟩;simpa[JW,S]using j
      · refine Wn ?_
        have aL:L 11=false:=hL;have h4:L 4=true:=by simp[hpre]
        obtain⟨f,hm,h3,l⟩:=hJ.out.ms;simp only[aL,h4,cond_false,cond_true]at hm;have aM:=aZ 10;have aN:=aZ 4;obtain⟨A9,c9,I,-,-⟩:=hm.slice 1 rfl;have I:ux.2.2.1=.slice A9 (k+1) c9:=I;refine eL hm 156 rfl aM aN IR (by rw[cF n.out];omega) (by rw[I];rfl) fun O j=>⟨ux,ej,rfl,rfl,?_⟩
        refine⟨⟨f,?_,h3,l⟩,hJ.out.a,hJ.out.b,fun _=>by simp[JW,h4],hJ.out.d⟩;have e:∀al:eX,(foV u al D E).set 0 ux.2.2.1=foV ux.2.2.1 al D E:=fun _=>rfl
        rw[e]at j;simpa[JW,h4]using j
      · refine Wn ?_
        have aQ:L 13=false:=hL;have ab:L 9=true:=by simp[hpre]
        obtain⟨f,hm,h3,l⟩:=hJ.out.ms;simp only[aQ,ab,cond_false,cond_true]at hm;have aR:=aZ 12;have aS:=aZ 9;obtain⟨A9,c9,I,-,-⟩:=hm.slice 0 rfl;have I:ux.2.2.2=.slice A9 (k+1) c9:=I;refine eL hm 79 rfl aR aS IS (by rw[cF n.out];omega) (by rw[I];rfl) fun O j=>⟨ux,ej,rfl,rfl,?_⟩
        refine⟨⟨f,?_,h3,l⟩,hJ.out.a,hJ.out.b,hJ.out.c,fun _=>by simp[JW,ab]⟩;have e:∀ao:eX,(foV ao v D E).set 1 ux.2.2.2=foV ao ux.2.2.2 D E:=fun _=>rfl
        rw[e]at j;simpa[JW,ab]using j
    · intro ux L w' hL hJ
      obtain⟨f,hm,-,-⟩:=hJ.ms;simp only[hL 4 (by decide),hL 9 (by decide),hL 11 (by decide),hL 13 (by decide),cond_true]at hm;have aq:=hm.Qy;have ar:=aq.tail;have aT:=qZ ar;clear hm hJ aq ar;simp only[hG,hZ];go_simp;go_wp2_with fail;have e1:MC ((ME N b r q k++[(x,H)]).map (·.2))=MC ((ME N b r q k).map (·.2))++[.bool H]:=by simp[MC]
      have e2:(shs ((ME N b r q k++[(x,H)]).map (·.1))).flatten=(shs ((ME N b r q k).map (·.1))).flatten++x.v:=by simp[shs]
      refine⟨⟨_,_,_,_,⟨k+1,by omega,?_,ux.2.2.1,ux.2.2.2,?_⟩,rfl,rfl,rfl,rfl⟩,by simp[intOf];omega⟩
      · go_num
      · rw[HS.out,e1,e2]
        exact aT
  · obtain rfl:k=K:=by omega
    obtain⟨Av,cv,hv,-,-⟩:=hs.slice 0 rfl;obtain⟨Au,cu,hu,-,-⟩:=hs.slice 1 rfl;have hv:v=.slice Av k cv:=hv;have hu:u=.slice Au k cu:=hu;subst hv hu;go_wp2_with (first|(refine bM 0 hs rfl 158 rfl rfl rfl kn rfl dF (cF n _ _ _) ?_)|(refine lJ hs 158 rfl rfl rfl rfl dF (cF n _ _ _) (cF rW _ _ _) (ra _ _) ?_;clear hs;intro w hs));change ly _ _ _ _ _ _;exact jI (hs.Qu 1 rfl rfl _ rfl kn rfl dF (cF n _ _ _)) rfl ⟨_,_,rfl,hs.bare⟩
end
end dev
theorem ycp{A:Prop}(h:A:=by
 go_wp2_with fail;go_ret2;rw[HF.out];exact⟨rfl,hs.a.1,CN hs.fr hs.a.2⟩):A:=h
namespace dev
open JT (Nd JS Fr Kn Ko)
theorem bY(b r:Int)(N:Nd)(f:Int)(x:Int×List Nat)(l:List (Int×List Nat)):Me b r N f (x::l)=if N.Kv ⟨x.1,b,r⟩ x.2=0 then Me b r (N.Kq ⟨x.1,b,r⟩ x.2) f l else if N.Kv ⟨x.1,b,r⟩ x.2=9 then(N.Kq ⟨x.1,b,r⟩ x.2,f,9)else Me b r (N.Kq ⟨x.1,b,r⟩ x.2) (Mz f x.1) l:=rfl
def OT(g:Nat)(b w:hX):Prop:=∀k,k<b.heap.size→g<k→(∃o,b.heap[k]? =some o∧Kn o=none)→w.heap[k]? =b.heap[k]?
theorem OT.chg{d:TypeId→Bool}{g:Nat}{b w c:hX}(h:OT g b w)(l:Chg d w c):OT g b c:=fun k m n f=>by
 have e:=h k m n f;obtain⟨o,p,q⟩:=f;have i:w.heap[k]? =some o:=e.trans p;refine(l.block k (iP.1 i).1 ?_).trans e;rintro ⟨r,t,fr,j,-⟩;rw[i]at j;cases j
 cases q
theorem OT.fr{base g:Nat}{b w c:hX}(h:OT g b w)(l:Fr base g w c):OT g b c:=fun k m f i=>by
 have e:=h k m f i;obtain⟨o,n,p⟩:=i;have j:w.heap[k]? =some o:=e.trans n;exact(l.maps k (iP.1 j).1 f ⟨o,j,p⟩).trans e
theorem CN{base g:Nat}{w b:hX}(h:Dvc Ko base w b)(e:OT g w b):Fr base g w b:=
 ⟨h.os,h.tape,h.output,h.size,fun k f c=>h.block k f (by
  rintro ⟨n,i⟩;rcases c with c|⟨j,t,fr,l,m⟩
  · omega
  · exact i ⟨j,t,fr,l,m⟩),e⟩
theorem dS{z:hX}{base g m:Nat}{N:Nd}(h:JS z base g m N)(aI:base≤z.heap.size)(b r q:Int)(D:wfI b)(hr:wfI r)(l:List En)(aj:∀x∈l,x.ok){A:Option Addr}{n c:Nat}(hl:RdT Ko z z.heap.size A 19 n (ens l))(hn:n≤1000)(hT:tot N+1002≤1000000000000000):
 nr l8 150 #[g,b,r,q,.slice A n c] z fun e P=>e=.returned (.tuple #[.int .i64 (Kl N b r q l).2.1,.int .i64 (Kl N b r q l).2.2])∧JS P base g m (Kl N b r q l).1∧Fr base g z P:=by
 have aw:l.length=n:=by have:=hl.1.1;rwa [ens,List.length_map]at this
 have aa:=qZ aw;have HB:=qZ D;have HR:=qZ hr;have ay:=qZ aj;have HT:=qZ hT;have Z:=qZ (pZ b r q l A n c z.heap.size z hl.1 (Nat.le_refl _) aj (by omega))
 have hs:Ms Ko Ko base (fun w=>JS w base g m N∧OT g z w) (fun w=>RdT Ko w z.heap.size A 19 n (ens l)) z z [] []:=
  Ms.start (fun _ h=>h) aI (fun U w2 M a=>⟨JS.chg (fun _ h=>h) a.1 M,a.2.chg M⟩) (fun U w2 M b=>b.old M) ⟨h,fun _ _ _ _=>rfl⟩ hl
 clear h D hr aj hl hT aw;cases I:No l b r q with
 |false=>
  have HF:=qZ (show Kl N b r q l=(N,0,1) by unfold Kl;rw[if_neg (by rw[I];simp)]);have HV:=qZ (show(OH l b r q).length=23 by unfold OH;rw[if_neg (by rw[I];simp)];rfl);have a5:=qZ (show∀x∈OH l b r q,x.oneCell'=true by unfold OH;rw[if_neg (by rw[I];simp)];exact aE _ _ _ _ _ _ _ _);rw[I]at Z;go_enter func150, ntmps150;go_wp2_with fail;refine Z.mono ?_;rintro e w ⟨rfl,D⟩;replace hs:=hs.below D;clear D;go_wp2_with (refine ma ?_;try (clear hs;intro w hs));go_ret2;rw[HF.out];exact⟨rfl,hs.a.1,CN hs.fr hs.a.2⟩
 |true=>
  have HW:=qZ (show Kl N b r q l=Me b r N 0 (Ls b r q l) by unfold Kl;rw[if_pos I]);have aJ:=qZ (show∀x∈l,x.may b r q=true by unfold No at I;simp only[Bool.and_eq_true,List.all_eq_true]at I;exact I.2.2);have az:OH l b r q=(KY l b r q).v:=by unfold OH;rw[if_pos I]
  rw[I,az]at Z;obtain⟨p,af⟩:∃x,x=KY l b r q:=⟨_,rfl⟩;have aK:=qZ af;have aA:=qZ (show p.ok by rw[af];exact Bz ay b r q);have ak:=qZ (bi aA);rw[←af]at Z;clear az I af;go_enter func150, ntmps150;go_wp2_with fail;refine Z.mono ?_;rintro e U ⟨rfl,D⟩;replace hs:=hs.below D;clear D Z;go_wp2_with (refine ma ?_;try (clear hs;intro w hs));generalize a6:U.heap.size=P0 at*;have aB:Lt N N 0:=Lt.refl N;go_loopw [14,33] (fun aL i wr=>∃(j:Nat) (f:Nd) (E:Int),j≤n+1∧i=.int .i64 (j:Int)∧aL=.int .i64 E∧Me b r N 0 (Ls b r q l)=Me b r f E ((Ls b r q l).drop j)∧Lt N f j∧Ms Ko Ko base (fun w=>JS w base g m f∧OT g z w) (fun w=>RdT Ko w z.heap.size A 19 n (ens l)) z wr [(P0,p.v, 62)] []) (fun _ i _=>n+1-(intOf i).toNat)
  case atStart=>exact⟨0,N,0,by omega,rfl,rfl,rfl,aB,hs⟩
  case round=>
   clear hs aB;obtain⟨j,f,E,hj,rfl,rfl,hP,aC,hs⟩:=hrel;have V:=qZ hP;have R:=qZ aC;clear hP aC;by_cases a7:j<n+1
   · have a8:(j:Int)<(n:Int)+1:=by omega
     go_upto_region 8 with fail
     refine dq (by kernel_rfl) (by kernel_rfl) (X:=Nat) (fun ux=> [(some 36,q),(some 37,b),(some 38,r),(some 39,.int .i64 (Ka q b r)),(some 40,.agg p.v.toArray),(some 17,ux),(some 16,.int .i64 (Ka q b r)),(none,ej)])
      (fun ux L P=>L8 (fun w L=>Ms Ko Ko base (fun w=>JS w base g m f∧OT g z w) (fun w=>RdT Ko w z.heap.size A 19 n (ens l)) z w L []) [(P0,p.v, 62)] 62 p.v (shV an 0 0 0 0 0 0 0) 5 7 ux L P) (fun _=>rfl) (by kernel_rfl) ⟨0,fun L S=>L8.start hs.drew (S 5) (S 7)⟩ ?_ ?_
     · refine⟨?_,?_,?_,?_,?_,?_,?_,?_,trivial⟩
       all_goals
        intro ux L P S hpre hJ a ha;simp[eD]at hpre
       · refine Wn ?_
         have x1:a.eval (.tmp 3)=.int .i64 q:=I1;exact Jd
       · refine Wn ?_
         have x1:a.eval (.tmp 1)=.int .i64 b:=I1;exact Jd
       · refine Wn ?_
         have x1:a.eval (.tmp 2)=.int .i64 r:=I1;exact Jd
       · refine Wn ?_
         have x1:=aZ 0;have x2:=aZ 1;have x3:=aZ 2;clear ha;refine pc3 ?_;intro K HK;refine(bH q b r P).mono ?_;rintro e aD ⟨rfl,D⟩;exact HK _ _ ⟨ux,_,rfl,rfl,hJ.below (fun _ ab=>by obtain⟨aM,rfl⟩:=D;exact ab.drewN aM) rfl rfl⟩
       · refine Wn ?_
         obtain⟨L',T,-⟩:=hJ.ms;exact l4 62 (.tmp 12) rfl P0 0 I1 p.v _ (ai (T.own _ (vE _ _ _)).1) kr rfl (by rw[ak.out];exact bg) ⟨ux,_,rfl,rfl,hJ.JW rfl rfl⟩
       · refine Wn ?_
         obtain⟨L',T,h8⟩:=hJ.no S;refine qG T 62 rfl _ (shV an 0 0 0 0 0 0 0) rQ rfl rfl fun aD hw=>⟨P.heap.size,_,rfl,rfl,?_⟩
         exact L8.made hw h8 (by decide)
       · refine Wn ?_
         have x1:=aZ 3;exact Jd
       · refine Wn ?_
         obtain⟨L2,T⟩:=hJ.at_ (by simp[hpre]) S;have aN:=aZ 5;have aQ:=aZ 4;refine mI T 62 rfl aN aQ bg ak rfl (aE _ _ _ _ _ _ _ _) fun aD hw=>⟨ux,ej,rfl,rfl,?_⟩
         exact L8.full hw (by simp[hpre])
     · intro ux L P S hJ
       obtain⟨L2,T⟩:=hJ.done (S 5 (by decide)) (S 7 (by decide));have hs:Ms Ko Ko base (fun w=>JS w base g m f∧OT g z w) (fun w=>RdT Ko w z.heap.size A 19 n (ens l)) z P ((ux,p.v, 62)::[(P0,p.v, 62)]) []:=Ms.less T (List.Sublist.cons_cons _ (List.sublist_append_right _ _)) (.refl _);clear T hJ;generalize ux=sb at*;simp only[hG,hZ];go_simp;by_cases aF:j<n
       · have aR:(j:Int)<(n:Int):=by omega
         obtain⟨x,hx⟩:∃x,l[j]? =some x:=⟨_,jt (by rw[aa.out];exact aF)⟩;have al:=fj hx;have ag:=qZ (ay x al);have aS:=qZ (aJ x al);have O:=qZ (show(x.sh b r q).ok from ag);have aT:=qZ (bi O);have aU:=qZ (show Ox x.d x.r x.l x.s b r q=(x.sh b r q).v by unfold Ox;rw[if_pos (show K0 x.d x.r x.l x.s 1 b r q=true from aS.out)];rfl);have ao:=qZ (xZ q b r j);obtain⟨k,J⟩:∃aq,aq=Om x.d x.r x.l x.s 1 b r q:=⟨_,rfl⟩;have ar:=qZ J;have ad:=qZ (show k.length=32 by rw[J];exact(mJ O).1);have au:=qZ (show∀ab∈k,ab<256 by rw[J];exact(mJ O).2);have aW:=qZ (show(An .u8 k).length=32 by rw[ah];exact ad)
         have W:=qZ (show(Ls b r q l).drop j=(Le q b r j,k)::(Ls b r q l).drop (j+1) by
          have hg:(Ls b r q l)[j]? =some (Le q b r j,k):=by
           unfold Ls;rw[List.getElem?_append_left (by have:=aa.out;simp;omega),jm,List.getElem?_zipIdx,hx,J];simp
          exact(jg (ed.1 hg).1).trans (by rw[(ed.1 hg).2]))
         have aX:=qZ (show(ens l)[j]? =some x.v by simp[ens,hx]);have aY:=qZ (show x.v.length=19 from ax ag.1 _ _ _);clear hx al J;go_wp2_with fail;refine(ge q b r j _ (by omega) (by omega)).mono ?_;rintro e U ⟨rfl,kq,rfl⟩;replace hs:=hs.drewN kq;generalize World.drewN _ kq=w at hs⊢;obtain⟨b1,o1,a1,-,a2⟩:=aH hs.b.1 aF aX;subst a1;go_wp2_with (first|(refine wpList_load_mid rfl 90 (.tmp 56) rfl b1 _ rfl x.v _ a2 kb rfl (by rw[aY.out];exact aV) ?_));refine(ep b r q x.l x.s x.r x.d _ ag.1 ag.2).mono ?_;rw[aU.out];rintro e U ⟨rfl,D⟩;replace hs:=hs.below D;clear D;go_wp2_with (refine ma ?_;try (clear hs;intro w hs));refine(iq x.d x.r x.l x.s 1 b r q _ O.1 O.2).mono ?_;rw[←ar.out];rintro e w2 ⟨rfl,D⟩;replace hs:=hs.below D;clear D;go_wp2_with (first|(refine ma ?_;try (clear hs;intro w hs))|(refine ac rfl 52 _ rfl _ rfl _ (rP _ b r) ?_));refine(JT.gE hs.a.1 ⟨Le q b r j,b,r⟩ ⟨ao,HB,HR⟩ _ ad au (by have:=R.out.tot;have:=HT.out;unfold tot at*;omega) (by have:=R.out.tot;have:=HT.out;unfold tot at*;omega)).mono ?_;rintro e w3 ⟨rfl,ae,Y⟩;replace hs:=hs.dev (A':=fun w=>JS w base g m (f.Kq ⟨Le q b r j,b,r⟩ k)∧OT g z w) (Fr.dvc Y) ⟨ae,hs.a.2.fr Y⟩ (fun U w2 M a=>⟨JS.chg (fun _ h=>h) a.1 M,a.2.chg M⟩);clear ae Y;by_cases H:f.Kv ⟨Le q b r j,b,r⟩ k=0
         · rw[H]
           go_wp2_with fail;go_roundw
           case rel=>exact⟨j+1,f.Kq ⟨Le q b r j,b,r⟩ k,E,by omega,by go_num,rfl,by rw[V.out,W.out];rw[bY,if_pos H],(R.trans (eG f _ _)).mono (by omega),hs.drop 2⟩
           case measure=>first|(simp[intOf];done)|(simp[intOf];omega)
         · have aG:(f.Kv ⟨Le q b r j,b,r⟩ k==0)=false:=by simpa using H
           by_cases Q:f.Kv ⟨Le q b r j,b,r⟩ k=9
           · rw[Q]
             have HF:=qZ (show Kl N b r q l=(f.Kq ⟨Le q b r j,b,r⟩ k,E,9) by rw[HW.out,V.out,W.out];rw[bY,if_neg H,if_pos Q]);exact ycp
           · have a3:(f.Kv ⟨Le q b r j,b,r⟩ k==9)=false:=by simpa using Q
             go_wp2_with fail;refine(g8 E (Le q b r j) _).mono ?_;rintro e w4 ⟨rfl,rfl⟩;go_wp2_with fail;go_roundw
             case rel=>exact⟨j+1,f.Kq ⟨Le q b r j,b,r⟩ k,Mz E (Le q b r j),by omega,by go_num,rfl,by rw[V.out,W.out];rw[bY,if_neg H,if_neg Q],(R.trans (eG f _ _)).mono (by omega),hs.drop 2⟩
             case measure=>first|(simp[intOf];done)|(simp[intOf];omega)
       · obtain rfl:j=n:=by omega
         have aR:¬(j:Int)<(j:Int):=by omega
         have O:=aA;have aT:=ak;have ao:=qZ (pY q b r);obtain⟨k,J⟩:∃aq,aq=Om p.d p.r p.l p.s p.k p.b p.o p.m:=⟨_,rfl⟩;have ad:=qZ (show k.length=32 by rw[J];exact(mJ O).1);have au:=qZ (show∀ab∈k,ab<256 by rw[J];exact(mJ O).2);have aW:=qZ (show(An .u8 k).length=32 by rw[ah];exact ad);have ar:=qZ J
         have W:=qZ (show(Ls b r q l).drop j=(Ka q b r,k)::(Ls b r q l).drop (j+1) by
          have hg:(Ls b r q l)[j]? =some (Ka q b r,k):=by
           unfold Ls;rw[List.getElem?_append_right (by simp[aa.out]),J,aK.out];simp[aa.out];rfl
          exact(jg (ed.1 hg).1).trans (by rw[(ed.1 hg).2]))
         clear J;go_wp2_with (refine ma ?_;try (clear hs;intro w hs));refine(iq p.d p.r p.l p.s p.k p.b p.o p.m _ O.1 O.2).mono ?_;rw[←ar.out];rintro e w2 ⟨rfl,D⟩;replace hs:=hs.below D;clear D;go_wp2_with (first|(refine ma ?_;try (clear hs;intro w hs))|(refine ac rfl 52 _ rfl _ rfl _ (rP _ b r) ?_));refine(JT.gE hs.a.1 ⟨Ka q b r,b,r⟩ ⟨ao,HB,HR⟩ _ ad au (by have:=R.out.tot;have:=HT.out;unfold tot at*;omega) (by have:=R.out.tot;have:=HT.out;unfold tot at*;omega)).mono ?_;rintro e w3 ⟨rfl,ae,Y⟩;replace hs:=hs.dev (A':=fun w=>JS w base g m (f.Kq ⟨Ka q b r,b,r⟩ k)∧OT g z w) (Fr.dvc Y) ⟨ae,hs.a.2.fr Y⟩ (fun U w2 M a=>⟨JS.chg (fun _ h=>h) a.1 M,a.2.chg M⟩);clear ae Y;by_cases H:f.Kv ⟨Ka q b r,b,r⟩ k=0
         · rw[H]
           go_wp2_with fail;go_roundw
           case rel=>exact⟨j+1,f.Kq ⟨Ka q b r,b,r⟩ k,E,by omega,by go_num,rfl,by rw[V.out,W.out];rw[bY,if_pos H],(R.trans (eG f _ _)).mono (by omega),hs.drop 2⟩
           case measure=>first|(simp[intOf];done)|(simp[intOf];omega)
         · have aG:(f.Kv ⟨Ka q b r,b,r⟩ k==0)=false:=by simpa using H
           by_cases Q:f.Kv ⟨Ka q b r,b,r⟩ k=9
           · rw[Q]
             have HF:=qZ (show Kl N b r q l=(f.Kq ⟨Ka q b r,b,r⟩ k,E,9) by rw[HW.out,V.out,W.out];rw[bY,if_neg H,if_pos Q]);exact ycp
           · have a3:(f.Kv ⟨Ka q b r,b,r⟩ k==9)=false:=by simpa using Q
             go_wp2_with fail;refine(g8 E (Ka q b r) _).mono ?_;rintro e w4 ⟨rfl,rfl⟩;go_wp2_with fail;go_roundw
             case rel=>exact⟨j+1,f.Kq ⟨Ka q b r,b,r⟩ k,Mz E (Ka q b r),by omega,by go_num,rfl,by rw[V.out,W.out];rw[bY,if_neg H,if_neg Q],(R.trans (eG f _ _)).mono (by omega),hs.drop 2⟩
             case measure=>first|(simp[intOf];done)|(simp[intOf];omega)
   · have a4:j=n+1:=by omega
     subst a4
     have hF:Kl N b r q l=(f,E,if E=0 then 0 else 7):=by
      rw[HW.out,V.out,List.drop_eq_nil_of_le (by unfold Ls;simp[aa.out])];rfl
     have HF:=qZ hF;clear hF;by_cases H:E=0
     · subst H
       exact ycp
     · have aG:(E !=0)=true:=by simpa using H
       go_wp2_with fail;go_ret2;rw[HF.out,if_neg H];exact⟨rfl,hs.a.1,CN hs.fr hs.a.2⟩
end dev
theorem yes{A:Prop}(h:A:=by
 unfold No at hp;simp only[Bool.and_eq_true,beq_iff_eq,bne_iff_ne]at hp;exact⟨hp.1,hp.2.1⟩):A:=h
namespace dev
open JT (Nd JS Fr Kn Ko)
open tal (Ty Kb L1)
open tab (Tb JZ LS)
theorem A4:∀f:Fin 256,∀d:Fin 8,Mz (f.val:Int) (d.val:Int)≠0∧0≤Mz (f.val:Int) (d.val:Int)∧Mz (f.val:Int) (d.val:Int)<256:=by decide+kernel
theorem wZ{f d:Int}(h:0≤f∧f<256)(b:0≤d∧d<8):Mz f d≠0∧0≤Mz f d∧Mz f d<256:=by
 obtain⟨F,rfl⟩:=ek h.1;obtain⟨E,rfl⟩:=ek b.1;exact A4 ⟨F,by omega⟩ ⟨E,by omega⟩
theorem ti{N:Nd}{a:Ad}{p:List Nat}(h:N.Kv a p=0):(N.Kq a p).ops=N.ops+1:=by
 unfold Nd.Kv at h;unfold Nd.Kq;by_cases c:N.Kg a≠0
 · omega
 rw[if_neg c]at h⊢;by_cases e:a.p≠((N.at a).cells.length:Int)
 · omega
 rw[if_neg e]at h⊢;obtain⟨-,-,-,-,b,-⟩:=pc N;split
 · exact b
 · exact b
theorem nO(b r:Int):∀(L:List (Int×List Nat)) (N:Nd) (f:Int),(∀x∈L,0≤x.1∧x.1<8)→0≤f∧f<256→(Me b r N f L).2.2=0→f=0∧(Me b r N f L).1.ops=N.ops+L.length
 |[],N,f,_,_,h=>by
  unfold Me at h⊢;simp_all
 |x::L,N,f,c,i,h=>by
  rw[bY]at h⊢;by_cases e:N.Kv ⟨x.1,b,r⟩ x.2=0
  · rw[if_pos e]at h⊢
    obtain⟨j,k⟩:=nO b r L _ f (fun y g=>c y (by simp[g])) i h;refine⟨j,?_⟩;rw[k,ti e,List.length_cons];omega
  · rw[if_neg e]at h⊢
    by_cases l:N.Kv ⟨x.1,b,r⟩ x.2=9
    · simp_all
    · rw[if_neg l]at h
      obtain⟨n,m⟩:=wZ i (c x (by simp));obtain⟨j,-⟩:=nO b r L _ _ (fun y g=>c y (by simp[g])) m h;omega
theorem vf{N:Nd}{b r m:Int}{l:List En}(f:0≤b)(g:0≤r)(h:(Kl N b r m l).2.2=0):(Kl N b r m l).1.ops=N.ops+(l.length+1):=by
 unfold Kl at h⊢;by_cases hp:No l b r m=true
 · rw[if_pos hp]at h⊢
   have o:(Ls b r m l).length=l.length+1:=by unfold Ls;simp
   have j:(l.length:Int)=JV m∧l.length≠0:=by
    exact yes
   have i:0≤m∧m<256:=dQ (m:=m) (by
    intro e;have:=j.1;unfold JV at this;omega)
   have k:∀x∈Ls b r m l,0≤x.1∧x.1<8:=fun x c=>by
    have p:=bX (s:=0) i f g (by omega);unfold Ls at c;rcases gg.1 c with c|c
    · obtain⟨y,n,rfl⟩:=lx.1 c
      have q:=(ed.1 (List.mem_zipIdx_iff_getElem?.1 n)).1;obtain⟨d0,d1,-⟩:=bX (s:=y.2) i f g (by omega);omega
    simp_all
   have:=(nO b r (Ls b r m l) N 0 k (by decide) h).2;omega
 simp_all
theorem pW(b r m:Int):∀(l:List (En×Nat)) (T:Tb) (x:En×Nat),Ln T b r m (l++[x])=(Ln T b r m l).MH x.1.l x.1.s x.1.r b r (x.2:Int) m
 |[],T,x=>rfl
 |y::l,T,x=>by
  rw[List.cons_append];exact pW b r m l _ x
theorem tQ(b:hX→Nat→Prop):∃c:hX→Nat,(∀w,(∃k,b w k)→b w (c w))∧∀w k,b w k→c w≤k:=by
 have key:∀w,∃n,((∃k,b w k)→b w n)∧∀k,b w k→n≤k:=fun w=>by
  by_cases h:∃k,b w k
  · obtain⟨k,e⟩:=h
    induction k using Nat.strongRecOn with
    |_ k f=>
     grind
  simp_all
 exact⟨fun w=>Classical.choose (key w),fun w=>(Classical.choose_spec (key w)).1,fun w=>(Classical.choose_spec (key w)).2⟩
section
variable {w w' w0:hX}{pl:Pl}{m c:Nat}{D E:Dv}{B:hX→Prop}{Lb:List Bk}{S:List Sl}
theorem na{base C:Nat}(h:DFr base w w'):Old Kx C w w':=by
 have b:=h.dvc;exact⟨b.os,b.tape,b.output,b.size,fun k e f=>b.block k e fun g=>f fun q=>g.2 q.2⟩
theorem Mp.of(h:Kk w pl m c E)(g:DFr pl.base w0 w)(i:pl.base≤w0.heap.size)(b:B w)(j:∀e f,Old Kx w0.heap.size e f→B e→B f):Mp pl m c E B w0 w [(pl.pg,E.p.v pl, 192)] []where
 sub t ht:=by unfold OZ at ht;simp_all
 own x hx:=by
  exact yfp
 srt:=jw _ _
 sls:=by simp
 sps:=.nil
 fr:=g.dvc
 le:=i
 sa _ _ hk a:=a.chg hk
 sb:=j
 a:=h.x
 b:=b
theorem Mp.of1(h:Kk w' pl m c E)(p:DFr pl.base w0 w')(r:pl.base≤w0.heap.size)(b:B w')(t:∀g i,Old Kx w0.heap.size g i→B g→B i){e:TypeId}{C n:Nat}{v:eX}{j:List eX}(u:w0.heap.size≤w.heap.size)(A:pl.pg<w.heap.size)(k:w'.ownsRow w.heap.size e C v n j)(z:OZ e=false):Mp pl m c E B w0 w' [(pl.pg,E.p.v pl, 192)] [⟨e,C,v,n,j⟩]:=by
 have f:=Mp.of h p r b t;refine⟨f.sub,f.own,f.srt,fun s l=> ?_,jw _ _,f.fr,f.le,f.sa,f.sb,f.a,f.b⟩;rw[jd]at l;subst l;refine⟨gF k u,z,fun x o q=> ?_⟩;rw[jd]at o;subst o;obtain⟨G,-,H⟩:=br k q;omega
end
end dev
theorem Gd{A:Prop}(h:A:=by
 have c0:=hJ.out.cell 1 0 rfl rfl;have c1:=hJ.out.cell 1 1 rfl rfl;have c2:=hJ.out.cell 1 2 rfl rfl;exact cH):A:=h
theorem yaz{A:Prop}(h:A:=by
 go_wp2_with (first|(refine ac rfl 90 _ rfl _ rfl _ gw ?_)|(refine ma ?_;try (clear hs;intro w hs)));change bodyPost _ _ _ _ _ _;exact bodyPost_ret (hs.Nn 0 rfl rfl _ rfl underlying90 rfl aV rfl) rfl ⟨by rw[HQ.out];rfl,hs.out⟩):A:=h
theorem ycm{A:Prop}(h:A:=by
 refine dM ?_;intro K HK;refine(ge q b r s w' HS1 HS2).mono ?_;rintro e w'' ⟨rfl,hb⟩;exact HK _ _ ⟨ux,_,rfl,rfl,by obtain⟨k,rfl⟩:=hb;simpa[JW]using hJ.out.drewN k⟩):A:=h
theorem yeq{A:Prop}(h:A:=by
 rintro e w'' ⟨rfl,hb⟩;exact HK _ _ ⟨ux,_,rfl,rfl,by simpa[JW]using hJ.out.below hb⟩):A:=h
namespace dev
open JT (Nd JS)
theorem FG{m b r s:Int}(h:¬Le m b r s<0):0≤s∧s<JV m:=by
 have f:0≤s:=Classical.byContradiction fun q=>h (by rw[Dq m b r s (by omega)];decide)
 refine⟨f,Classical.byContradiction fun q=> ?_⟩;rcases ir m b r with e|⟨M,P,rfl,c,l,g,i,j⟩
 · exact h (by unfold Le;rw[e,if_pos (by decide)];decide)
 · have e:MT (M:Int) (Ka (M:Int) b r)=KS M P:=by
    rw[j,MT,if_neg (by omega),lL ⟨M,c⟩ ⟨P,g⟩,fL (Nat.lt_of_le_of_lt Nat.and_le_left c)];rfl
   have k:(KS M P).length=cnt M 8-1:=nV c g i;have n:JV (M:Int)=(cnt M 8:Int)-1:=by unfold JV;rw[if_neg (by rw[dy c];omega),dy c]
   exact h (by rw[zM f (by rw[e,k];omega)];decide)
theorem mT(f:Fo)(i:f.par.ok)(j:∀x∈f.sl,x.1.ok){slot:Nat}{e:En}(h:f.MK slot=some e):e.ok:=by
 unfold Fo.MK at h;cases c:others f.sl 0 slot with
 |none=>rw[c]at h;cases h
 |some o=>
  rw[c]at h;simp only at h;split at h
  · have k:=Option.some.inj h
    subst k;have l:=iu _ _ _ _ j c
    have g:∀y∈o++[f.par],y.ok:=fun y b=>by
     rcases gg.1 b with b|b
     · exact l y b
     · rw[jd.1 b];exact i
    exact⟨be fun y b=>(g y b).1,jZ (fun y b=>(g y b).1) fun y b=>(g y b).2⟩
  · cases h
theorem oC{N:Nd}(h:0<N.D)(b r:Int):inG (N.D:Int) (N.B:Int) (N.P:Int) 0 b r=N.inG ⟨0,b,r⟩:=by
 unfold inG wiB Nd.inG;rw[Bool.eq_iff_iff];simp only[Bool.and_eq_true,decide_eq_true_eq];omega
section
variable {w0:hX}{base g m:Nat}{N:Nd}
theorem dH(h:JS w0 base g m N)(b r s q:Int)(hb:wfI b)(Z:wfI r)(hs:wfI s):nr l8 51 #[g,.agg #[b,r,s],q] w0 fun e w'=>
 e=.returned (.tuple #[.agg (Km N b r s q).1.v.toArray,.int .i64 (Km N b r s q).2])∧Below w0.heap.size w0 w':=by
 have H:=qZ h;have M:=qZ h.ok.geo;have HS1:=qZ (show-9223372036854775808≤s by have:=hs;unfold wfI at this;simp[Lit.wf,IntKind.min,IntKind.max,IntKind.bits,IntKind.signed]at this;omega);have HS2:=qZ (show s≤9223372036854775807 by have:=hs;unfold wfI at this;simp[Lit.wf,IntKind.min,IntKind.max,IntKind.bits,IntKind.signed]at this;omega);have HB:=qZ hb;have HR:=qZ Z;have aA:∀x,Km N b r s q=x→Hid (Km N b r s q=x):=fun _ e=>qZ e
 clear h hb Z hs;have hs:=Mr.start w0;by_cases hd:Le q b r s<0
 · have HQ:=qZ (show Km N b r s q=(zE,3) by unfold Km;rw[if_pos (.inl hd)])
   go_enter func51, ntmps51;go_upto_region 1 with(first|(refine aG hs 94 rfl rfl _ _ rfl rfl rfl ?_;clear hs;intro S hs)|(refine ma ?_;try (clear hs;intro w hs)))
   refine dz (X:=Unit) (fun _=> [(some 11,q),(some 12,w0.heap.size),(some 13,b),(some 14,.pointer (some ⟨w0.heap.size,1,none⟩)),(some 15,r),(some 16,.pointer (some ⟨w0.heap.size,2,none⟩)),(some 17,s),(some 18,.int .i64 (Le q b r s)),(some 19,.bool true),(some 20,.bool true),(some 21,ej),(some 22,ej),(some 23,ej),(some 24,ej),(some 25,ej),(some 26,ej),(some 27,ej),(some 28,ej),(some 29,ej),(some 30,.bool true)])
    (fun _ L w'=>Mr w0 w' [(S.heap.size,enV 0 0 0 an, 90),(w0.heap.size,[.int .i64 b,.int .i64 r,.int .i64 s], 94)] []) ⟨(),fun L hL=>hs.drew⟩ ?_ ?_
   · refine⟨rr,rr,?_,rr,?_,rr,?_,?_,rr,rr,?_,?_,?_,?_,?_,?_,?_,?_,?_,rr,trivial⟩
     all_goals
      intro ux L w' hL hpre hJ a ha he;simp[eD]at hpre
     · exact Gd
     · exact Gd
     · exact Gd
     · exact ycm
     · exact gn
     · exact gn
     · exact gn
     · exact gn
     · exact gn
     · exact gn
     · exact gn
     · exact gn
     · exact gn
   · intro ux L w' hL hJ
     have hs:=hJ;clear hJ hL;simp only[hG,hZ];go_simp;exact yaz
 · go_enter func51, ntmps51
   go_upto_region 1 with(first|(refine aG hs 94 rfl rfl _ _ rfl rfl rfl ?_;clear hs;intro S hs)|(refine ma ?_;try (clear hs;intro w hs)))
   refine dz (X:=Unit) (fun _=> [(some 11,q),(some 12,w0.heap.size),(some 13,b),(some 14,.pointer (some ⟨w0.heap.size,1,none⟩)),(some 15,r),(some 16,.pointer (some ⟨w0.heap.size,2,none⟩)),(some 17,s),(some 18,.int .i64 (Le q b r s)),(some 19,.bool false),(some 20,.bool false),(some 21,g),(some 22,.agg #[(N.D:Int),(N.B:Int),(N.P:Int)]),(some 23,w0.heap.size),(some 24,b),(some 25,.pointer (some ⟨w0.heap.size,1,none⟩)),(some 26,r),(some 27,.agg #[.int .i64 0,b,r]),(some 28,.bool (inG (N.D:Int) (N.B:Int) (N.P:Int) 0 b r)),(some 29,.bool (!inG (N.D:Int) (N.B:Int) (N.P:Int) 0 b r)),(some 30,.bool (!inG (N.D:Int) (N.B:Int) (N.P:Int) 0 b r))])
    (fun _ L w'=>Mr w0 w' [(S.heap.size,enV 0 0 0 an, 90),(w0.heap.size,[.int .i64 b,.int .i64 r,.int .i64 s], 94)] []) ⟨(),fun L hL=>hs.drew⟩ ?_ ?_
   · refine⟨rr,rr,?_,rr,?_,rr,?_,?_,rr,rr,rr,?_,rr,?_,rr,?_,?_,?_,rr,rr,trivial⟩
     all_goals
      intro ux L w' hL hpre hJ a ha he;simp[eD]at hpre
     · exact Gd
     · exact Gd
     · exact Gd
     · exact ycm
     · refine dM ?_
       intro K HK;refine(eI (H.below hJ.out.out)).mono ?_;exact yeq
     · exact Gd
     · exact Gd
     · refine Wy ?_
       have aj:=aZ 13;have ak:=aZ 15;exact ba 52 _ rfl _ (show [(1,a.eval (.tmp 24)),(2,a.eval (.tmp 26))]=_ by rw[aj,ak]) _ (JQ b r) ⟨ux,_,rfl,rfl,by simpa[JW]using hJ.out⟩
     · refine dM ?_
       intro K HK;refine(jA (N.D:Int) N.B N.P 0 b r w' ⟨by omega,by have:=M.out;omega⟩ ⟨by omega,by have:=M.out;omega⟩ ⟨by omega,by have:=M.out;omega⟩).mono ?_;exact yeq
   · intro ux L w' hL hJ
     have hs:=hJ;clear hJ hL;simp only[hG,hZ];go_simp;generalize aa:inG (N.D:Int) (N.B:Int) (N.P:Int) 0 b r=gi at*;have T:=qZ (show N.inG ⟨0,b,r⟩=gi from(oC (by have:=M.out;omega) b r).symm.trans aa);clear aa;cases gi with
     |false=>
      have HQ:=qZ (show Km N b r s q=(zE,3) by unfold Km;rw[if_pos (.inr T.out)]);exact yaz
     |true=>
      have ab:=qZ hd;have HS:=qZ (FG hd);go_wp2_with fail;refine(JT.Ja (H.below hs.out)).mono ?_;rintro e w2 ⟨rfl,rfl⟩;cases U:N.off with
      |true=>
       have HQ:=qZ (show Km N b r s q=(zE,9) by unfold Km;rw[if_neg (fun z=>z.elim (fun z=>by have:=ab.out;omega) (fun z=>by rw[T.out]at z;cases z)),if_pos U]);exact yaz
      |false=>
       obtain⟨f,n⟩:∃f,f=Lf N b r q:=⟨_,rfl⟩;have HQ:=qZ (show Km N b r s q=(match f.sl[s.toNat]? with|some (x,true)=>(Mf x,0)|_=>match f.MK s.toNat with|some e=>(e,0)|none=>(zE,10)) by unfold Km;rw[if_neg (fun z=>z.elim (fun z=>by have:=ab.out;omega) (fun z=>by rw[T.out]at z;cases z)),if_neg (by rw[U];simp),n];rfl);have ad:=qZ (fun al (hW:Below w0.heap.size w0 al)=>lO (H.below hW) b r q HB HR);obtain⟨K,hK⟩:∃K,K=(JV q).toNat:=⟨_,rfl⟩;have ae:f.sl.length=K:=by rw[n,hK];exact eh N b r q _
       have af:∀y∈f.sl,y.1.ok:=fun y j=>by
        rw[n]at j;obtain⟨z,-,rfl⟩:=lx.1 j;exact gJ H.ok b r q _
       have ag:f.par.ok:=by rw[n];exact gJ H.ok b r q _
       have aB:K≤7:=by have:=aI q;rw[hK];unfold JV;split<;>omega
       have ao:0≤s∧s<(K:Int):=by have:=HS.out;rw[hK];omega
       rw[←n,←hK]at ad;obtain⟨sl,l,D⟩:=f;have E:=qZ (show l.ok from ag);have O:=qZ (show∀y∈sl,y.1.ok from af);have V:=qZ (show sl.length=K from ae);clear n hK ae af ag U;obtain⟨k,rfl⟩:=ek ao.1;rw[Int.toNat_natCast]at HQ;have aq:k<K:=by omega
       obtain⟨y,j⟩:∃y,sl[k]? =some y:=⟨_,jt (by rw[V.out];exact aq)⟩;have ah:=qZ j;have W:=qZ (O y (fj j));have aC:=qZ (bi W);have ar:=qZ (show(Mf y.1).v.length=19 from ax W.1 _ _ _);have au:=qZ (show(shs (sl.map (·.1)))[k]? =some y.1.v by simp only[shs,jm,j];rfl);have ai:=qZ (show(MC (sl.map (·.2)))[k]? =some (.bool y.2) by simp only[MC,jm,j];rfl)
       have HC:=qZ (show∀z∈shs (sl.map (·.1)),z.length=23 by
        intro z hz;simp only[shs,List.map_map,lx]at hz;obtain⟨y,j,rfl⟩:=hz;exact bi (O y j))
       clear j;obtain⟨x,gd⟩:=y;go_wp2_with (refine ma ?_;try (clear hs;intro w hs));refine(ad _ hs.out).mono ?_;rintro e wL ⟨u,v,rfl,hm⟩;replace hs:=hs.join hm hm.out (by simp);clear hm;obtain⟨gv,cv,hv⟩:=hs.form 0 rfl (by omega);obtain⟨gu,cu,hu⟩:=hs.form 1 rfl (by omega);subst hv hu;cases gd with
       |true=>
        have R:=qZ (show Km N b r (k:Int) q=(Mf x,0) by rw[HQ.out,ah.out]);go_wp2_with (first|(refine az hs 158 rfl rfl _ (foV (.slice none 0 0) (.slice none 0 0) ⟨an,0,0,0,0,0,0,0⟩ false) gq rfl rfl ?_;clear hs;intro w hs)|(refine aJ hs 158 rfl rfl rfl rfl dF (cF E _ _ _) (cF rW _ _ _) (ra _ _) ?_;clear hs;intro w hs)|(refine aK 0 hs rfl 79 rfl rfl rfl hO rfl rfl ?_)|(refine aK 2 hs rfl 3 rfl rfl rfl fo rfl rfl ?_)|(refine fp 0 hs rfl 4 rfl rfl rfl l5 rfl ai ?_)|(refine aK 0 hs rfl 156 rfl rfl rfl js rfl rfl ?_)|(refine dO 1 hs rfl HC 62 rfl rfl rfl kr rfl au bg ?_));refine(i9 x W _).mono ?_;rintro e w3 ⟨rfl,hb⟩;replace hs:=hs.below hb;clear hb;go_wp2_with (refine ma ?_;try (clear hs;intro w hs));change ly _ _ _ _ _ _;exact jI (hs.Nn 1 rfl rfl _ rfl kb rfl aV ar) rfl ⟨by rw[R.out];rfl,hs.out⟩
       |false=>
        have R:=qZ (show Km N b r (k:Int) q=(match(⟨sl,l,D⟩:Fo).MK k with|some e=>(e,0)|none=>(zE,10)) by rw[HQ.out,ah.out]);go_wp2_with (first|(refine az hs 158 rfl rfl _ (foV (.slice none 0 0) (.slice none 0 0) ⟨an,0,0,0,0,0,0,0⟩ false) gq rfl rfl ?_;clear hs;intro w hs)|(refine aJ hs 158 rfl rfl rfl rfl dF (cF E _ _ _) (cF rW _ _ _) (ra _ _) ?_;clear hs;intro w hs)|(refine aK 0 hs rfl 79 rfl rfl rfl hO rfl rfl ?_)|(refine aK 2 hs rfl 3 rfl rfl rfl fo rfl rfl ?_)|(refine fp 0 hs rfl 4 rfl rfl rfl l5 rfl ai ?_)|(refine bM 0 hs rfl 158 rfl rfl rfl kn rfl dF (cF E _ _ _) ?_));refine(oq ⟨sl,l,D⟩ k V (hs.rds 1 rfl (by simp[shs,V.out]) HC) (hs.rd 0 rfl) E O (by omega)).mono ?_
        have aw:=qZ (show(Ns ⟨sl,l,D⟩ k).v.length=19 by
         unfold Ns;cases I:(⟨sl,l,D⟩:Fo).MK k with
         |none=>rfl
         |some e=>exact ax (mT _ E.out O.out I).1 _ _ _)
        rintro e w3 ⟨rfl,hb⟩;replace hs:=hs.below hb;clear hb;cases I:(⟨sl,l,D⟩:Fo).MK k with
        |none=>
         have Y:=qZ (show Km N b r (k:Int) q=(zE,10) by rw[R.out,I]);go_wp2_with (first|(refine ma ?_;try (clear hs;intro w hs))|(refine ac rfl 90 _ rfl _ rfl _ gw ?_));change ly _ _ _ _ _ _;exact jI (hs.Nn 2 rfl rfl _ rfl kb rfl aV rfl) rfl ⟨by rw[Y.out];rfl,hs.out⟩
        |some e1=>
         have ay:=qZ (show Ns ⟨sl,l,D⟩ k=e1 by unfold Ns;rw[I];rfl);have Y:=qZ (show Km N b r (k:Int) q=(e1,0) by rw[R.out,I]);go_wp2_with (refine ma ?_;try (clear hs;intro w hs));change ly _ _ _ _ _ _;exact jI (hs.Nn 2 rfl rfl _ rfl kb rfl aV aw) rfl ⟨by rw[Y.out,ay.out];rfl,hs.out⟩
end
end dev
end Go.Proofs.YtlkpfnjdbgeifaaGreat
