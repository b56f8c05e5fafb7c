import Derived.Lib.RowBridge
import Derived.Test.YtlkpfnjdbgeifaaGreatFRowLook
import Derived.Test.YtlkpfnjdbgeifaaGreatFSortInt
set_option linter.unusedSimpArgs false
set_option linter.unusedVariables false
set_option maxRecDepth 100000
set_option maxHeartbeats 16000000
open Bool renaming and_eq_true→ed
open Go renaming undef→ej,Value→jI,World→kr,wp_load_mid→l8,bodyPost_ret→o4
open Classical renaming byContradiction→ek
open List renaming length_append→eD,sublist_append_right→fj,length_filterMap_le→fo,mem_of_getElem?→hG,range_succ→hO,flatMap_append→hX,mem_range→hZ,take_add_one→jd,length_range→jg,getElem?_map→jm,getElem?_eq_getElem→js,mem_flatMap→jt,mem_map→jw,foldl_cons→kb,mem_filter→kd,mem_append_right→kk,foldl_nil→kn,range→lx,append_assoc→ly,foldl_append→l4,nil_sublist→l5
open Int renaming eq_ofNat_of_zero_le→eX,toNat_natCast→gg,natCast_nonneg→iP,le_refl→nr
namespace Go.Proofs.YtlkpfnjdbgeifaaGreat
open Go.Proofs.Tryz
open Go.RowKit
theorem yaq{A:Prop}(h:A:=by
 go_roundw
 case rel=>
  refine⟨k+1,_,by omega,by go_num,rfl,?_⟩;have q1:KL N b r ml i++L4 ⟨sl,par,wh⟩ b r q (k+1)=KL N b r ml i++L4 ⟨sl,par,wh⟩ b r q k:=by rw[kO,HFo.out,List.append_nil]
  rw[q1];exact hs.drop 2
 case measure=>first|(simp[intOf];done)|(simp[intOf];omega)):A:=h
theorem ya4{A:Prop}(h:A:=by
 refine Wn ?_;obtain⟨L',hm,hk,hc⟩:=hJ.out.at_ (by simp[hpre]) hL;have e58:=aZ 0;have e74:=aZ 16;refine fP hm (List.mem_append_left _ hk) 174 rfl underlying174 gA rfl (by decide) HFl e58 e74 (fi _) (by have:=HOut.out;unfold maxLen;omega) (by have:=HOut.out;omega) fun v' w'' hw=>⟨(ux.1,v',ux.2.2),_,rfl,rfl,?_⟩
 exact ApJ.full hw hk (by simp[hpre]) (by simp[hpre]) hc (by decide)):A:=h
theorem ybj{A:Prop}(h:A:=by
 refine Wn ?_;have h0:=hJ.out.early hL
 have x1:a.eval (.tmp 7)=o:=by
  rw[ha.out];refine Eq.trans (iJ (i:=18) (v:=ux.2.2) ?_ ?_ ?_) ?_
  · rfl
  · simpa using h0
  · exact HD
  · rfl
 exact Jd):A:=h
theorem ybl{A:Prop}(h:A:=by
 obtain⟨L',s0,hm⟩:=hJ.out.any;have c10:w'.cell? ⟨fb,1,none⟩=some (.slice (some ⟨gv,0,none⟩) K cv):=hm.LM (cs:=foV (.slice (some ⟨gu,0,none⟩) K cu) (.slice (some ⟨gv,0,none⟩) K cv) par wh) (t:= 158) (List.mem_append_right _ (List.Mem.tail _ (List.Mem.tail _ (List.Mem.head _)))) rfl;exact cH):A:=h
theorem ybo{A:Prop}(h:A:=by
 obtain⟨L',s0,hm⟩:=hJ.out.any;have c8:w'.cell? ⟨fb,25,none⟩=some (.bool wh):=hm.LM (cs:=foV (.slice (some ⟨gu,0,none⟩) K cu) (.slice (some ⟨gv,0,none⟩) K cv) par wh) (t:= 158) (List.mem_append_right _ (List.Mem.tail _ (List.Mem.tail _ (List.Mem.head _)))) (ud HPo _ _ _);exact cH):A:=h
theorem ybr{A:Prop}(h:A:=by
 refine Wn ?_;obtain⟨L',hm,hb,hc⟩:=hJ.out.no hL;have e73:=aZ 15;refine iN hm 174 rfl e73 rfl underlying174 gA HFl (by decide) (by decide) rfl fun w'' hw=>⟨(w'.heap.size,ux.2),_,rfl,rfl,?_⟩
 exact ApJ.made hw hb hc (by decide) (by decide)):A:=h
theorem ybv{A:Prop}(h:A:=by
 refine Wn ?_;have e60:=aZ 2;have e61:=aZ 3;have e62:=aZ 4;exact ba 94 _ rfl _ (show [(0,a.eval (.tmp 60)),(1,a.eval (.tmp 61)),(2,a.eval (.tmp 62))]=_ by rw[e60,e61,e62]) _ (Bx b r k) ⟨ux,_,rfl,rfl,hJ.out.JW rfl rfl rfl⟩):A:=h
theorem yce{A:Prop}(h:A:=by
 refine Wn ?_;obtain⟨L',hm,h8⟩:=hJ.out.no hL;refine qG hm 90 rfl _ (enV 0 0 0 an) jK rfl rfl fun w'' hw=>⟨w'.heap.size,_,rfl,rfl,?_⟩
 exact L8.made hw h8 (by decide)):A:=h
theorem ycl{A:Prop}(h:A:=by
 refine Wn ?_;have h17:L 17=true:=by simp[hpre]
 have e75:=aZ 17;exact cZ (.tmp 75) (.inr rfl) _ e75 ⟨(ux.1,ux.2.1,ux.2.1),_,rfl,rfl,hJ.out.put h17 (by decide) (by decide)⟩):A:=h
namespace dev
open JT (Nd JS)
def fds(l:List Fd):List (List jI):=l.map Fd.v
def KL(N:Nd)(b r:Int)(c:List Int)(i:Nat):List Fd:=(c.take i).flatMap (dev.allM N b r)
def L4(f:Fo)(b r q:Int)(k:Nat):List Fd:=(lx k).filterMap (KV f b r q)
theorem kO(f:Fo)(b r q:Int)(k:Nat):L4 f b r q (k+1)=L4 f b r q k++(match KV f b r q k with|some x=> [x]|none=> []):=by
 unfold L4;rw[hO,List.filterMap_append];cases h:KV f b r q k<;>simp[h]
theorem pv(N:Nd)(b r:Int)(c:List Int)(i:Nat){q:Int}(h:c[i]? =some q):KL N b r c (i+1)=KL N b r c i++dev.allM N b r q:=by
 unfold KL;rw[jd,h,hX];simp
theorem oJ{sl:List (Sh×Bool)}{e:Sh}{c:Bool}{b r q:Int}{k:Nat}{x:Sh}(h:sl[k]? =some (x,true)):KV ⟨sl,e,c⟩ b r q k=if(Mf x).r=3 then none else some ⟨Mf x,b,r,k,q,c,false⟩:=by
 unfold KV;dsimp only;rw[h];rfl
theorem oI{sl:List (Sh×Bool)}{f:Sh}{c:Bool}{b r q:Int}{k:Nat}{x:Sh}{e:En}(h:sl[k]? =some (x,false))(g:(⟨sl,f,c⟩:Fo).MK k=some e):KV ⟨sl,f,c⟩ b r q k=if e.r=3 then none else some ⟨e,b,r,k,q,c,true⟩:=by
 unfold KV;dsimp only;rw[h,g];rfl
theorem vT{sl:List (Sh×Bool)}{c:Sh}{e:Bool}{b r q:Int}{k:Nat}{x:Sh}(h:sl[k]? =some (x,false))(f:(⟨sl,c,e⟩:Fo).MK k=none):KV ⟨sl,c,e⟩ b r q k=none:=by
 unfold KV;dsimp only;rw[h,f];rfl
theorem Bx(b r s:Int): prog.built 94 [(0,.int .i64 b),(1,.int .i64 r),(2,.int .i64 s)]=some ([.int .i64 b,.int .i64 r,.int .i64 s]:List jI).toArray:=by kernel_rfl
theorem CX{e:En}(g:e.ok)(b r s q:Int)(c f:Bool): prog.built 177 [(0,.agg e.v.toArray),(1,.agg #[b,r,s]),(2,.int .i64 q),(3,.bool c),(4,.bool f)]=some (Fd.v ⟨e,b,r,s,q,c,f⟩).toArray:=by
 obtain⟨l,h,i,d⟩:=e;obtain⟨d0,d1,d2,d3,d4,d5,d6,d7,d8,d9,d10,d11,d12,d13,d14,d15,rfl⟩:=eO g.1;kernel_rfl
theorem gA:(prog.info? 177).map (fun i=>(i.zero,i.size,i.bytes))=some (some (.agg (Fd.v ⟨⟨0,0,0,an⟩,0,0,0,0,false,false⟩).toArray),25,80):=by kernel_rfl
theorem Ey(f:Fo)(b r q:Int)(k:Nat):(L4 f b r q k).length≤k:=by
 unfold L4;have:=fo (KV f b r q) (lx k);rwa [jg]at this
theorem uI(N:Nd)(b r:Int)(c:List Int):∀i,(KL N b r c i).length≤8*i
 |0=>by simp[KL]
 |i+1=>by
  have f:=uI N b r c i;cases h:c[i]? with
  |none=>
   have:KL N b r c (i+1)=KL N b r c i:=by
    unfold KL;rw[jd,h];simp
   rw[this];omega
  |some q=>
   rw[pv N b r c i h,eD]
   have:(dev.allM N b r q).length≤7:=by
    unfold dev.allM;have e:=fo (KV (Lf N b r q) b r q) (lx (Lf N b r q).sl.length);rw[jg]at e;have g:(Lf N b r q).sl.length=(JV q).toNat:=eh N b r q _;have:=aI q;have:(JV q).toNat≤7:=by unfold JV;split<;>omega
    omega
   omega
theorem tL(N:Nd)(b r:Int):(Nx N b r).length≤N.D:=by
 unfold Nx;have c:=Go.Lib.compact_length_le (MF (Ma (Lw N b r N.D)));have e:=oD (Lw N b r N.D);rw[nJ]at e;rw[kM]at c;omega
theorem uq{x:Sh}(h:x.ok):(Mf x).ok:=h
theorem nI{f:kr}{base g aH:Nat}{N:Nd}(h:JS f base g aH N)(b r:Int)(hb:wfI b)(hr:wfI r):Calls prog 96 #[g,b,r] f fun e w'=>
 ∃v,e=.returned v∧Mr f w' [] [⟨177,25,v,(KK N b r).length,(fds (KK N b r)).flatten⟩]:=by
 have z:=qZ (qh h b r hb hr);have aL:=qZ (fun(q:Int) W (hW:Below f.heap.size f W)=>lO (h.below hW) b r q hb hr);have ay:=qZ (fun(q d:Int)=>gJ h.ok b r q d);have aA:=qZ (show KK N b r=KL N b r (Nx N b r) (Nx N b r).length by unfold KL;rw[List.take_length];rfl);have U:=qZ (show(Nx N b r).length≤6 by have:=tL N b r;have:=h.ok.geo;omega);obtain⟨ml,aB⟩:∃ml,ml=Nx N b r:=⟨_,rfl⟩;rw[aA.out];rw[←aB]at z U⊢;obtain⟨M,ad⟩:∃M,M=ml.length:=⟨_,rfl⟩;rw[←ad]at z U⊢;have V:=qZ ad;clear h hb hr aB ad aA;go_enter func96, ntmps96;go_wp2_with fail;refine z.mono ?_;rintro e w ⟨mv,rfl,hs⟩;clear z;obtain⟨Am,j,ae,-,-⟩:=hs.slice 0 rfl;have ae:mv=.slice Am M j:=ae;subst ae;replace hs:=hs.empty 177 25 rfl;have aM:KL N b r ml 0=[]:=rfl;go_wp2_with fail;go_loopw [7,20] (fun D iv wr=>∃(i:Nat) (o:jI),i≤M∧iv=.int .i64 (i:Int)∧o=D∧Mr f wr [] [⟨177,25,o,(KL N b r ml i).length,(fds (KL N b r ml i)).flatten⟩,⟨3,1,.slice Am M j,M,ints .i64 ml⟩]) (fun _ iv _=>M-(intOf iv).toNat)
 case atStart=>exact⟨0,_,by omega,rfl,rfl,hs⟩
 case round=>
  clear hs aM;obtain⟨i,o,hi,rfl,rfl,hs⟩:=hrel;by_cases aN:i<M
  · have a7:(i:Int)<(M:Int):=by omega
    obtain⟨l,a8,aQ⟩:=hs.form 1 rfl (by omega);have aR:Am=some ⟨l,0,none⟩:=by injection aQ
    subst aR;obtain⟨q,Y⟩:∃q,ml[i]? =some q:=⟨_,js (by rw[←V.out];exact aN)⟩;have HQ:=qZ Y;have a9:=qZ (show(ints .i64 ml)[i]? =some (.int .i64 q) by simp only[ints,jm,Y];rfl);have HA:=qZ (show KL N b r ml (i+1)=KL N b r ml i++L4 (Lf N b r q) b r q (Lf N b r q).sl.length from pv N b r ml i Y);have aS:=qZ (show(KL N b r ml i).length≤48 by have:=uI N b r ml i;have:=U.out;omega);clear Y;go_wp2_with (refine ma ?_;try (clear hs;intro w hs));refine(aL q _ hs.out).mono ?_;rintro e wL ⟨u,v,rfl,hm⟩;replace hs:=hs.join hm hm.out (by simp);clear hm;obtain⟨K,hK⟩:∃K,K=(JV q).toNat:=⟨_,rfl⟩;have af:(Lf N b r q).sl.length=K:=by rw[hK];exact eh N b r q _
    have ag:∀y∈(Lf N b r q).sl,y.1.ok:=fun y m=>by
     obtain⟨s,-,rfl⟩:=jw.1 m;exact ay q _
    have ah:(Lf N b r q).par.ok:=ay q _;have bb:K≤7:=by have:=aI q;rw[hK];unfold JV;split<;>omega
    rw[←hK]at hs;obtain⟨aj,hf⟩:∃aj,aj=Lf N b r q:=⟨_,rfl⟩;rw[←hf]at hs HA af ag ah⊢;obtain⟨sl,par,wh⟩:=aj;have HPo:=qZ (show par.ok from ah);have Z:=qZ (show∀y∈sl,y.1.ok from ag);have aa:=qZ (show sl.length=K from af);clear hf hK af ag ah;obtain⟨I,cv,hv,-,-⟩:=hs.slice 0 rfl;have hv:v=.slice I K cv:=hv;obtain⟨O,cu,hu,-,-⟩:=hs.slice 1 rfl;have hu:u=.slice O K cu:=hu;subst hv hu;replace hs:=hs.Ry;go_wp2_with (first|(refine az hs 158 rfl rfl _ (foV (.slice none 0 0) (.slice none 0 0) ⟨an,0,0,0,0,0,0,0⟩ false) gq rfl rfl ?_;clear hs;intro w hs)|(refine aJ hs 158 rfl rfl rfl rfl dF (cF HPo _ _ _) (cF rW _ _ _) (ra _ _) ?_;clear hs;intro w hs)|(refine aK 0 hs rfl 156 rfl rfl rfl underlying156 rfl rfl ?_));generalize bc:wL.heap.size=fb at*;have e0:L4 ⟨sl,par,wh⟩ b r q 0=[]:=rfl;have aC:Mr f w [(fb,foV (.slice O K cu) (.slice I K cv) par wh, 158)] [⟨177,25,o,(KL N b r ml i++L4 ⟨sl,par,wh⟩ b r q 0).length,(fds (KL N b r ml i++L4 ⟨sl,par,wh⟩ b r q 0)).flatten⟩,⟨4,1,.slice I K cv,K,MC (sl.map (·.2))⟩,⟨62,23,.slice O K cu,K,(shs (sl.map (·.1))).flatten⟩,⟨3,1,.slice (some ⟨l,0,none⟩) M j,M,ints .i64 ml⟩]:=by rw[e0,List.append_nil];exact hs
    replace hs:=aC;clear aC e0;go_loopw [7,32] (fun D kv wr=>∃(k:Nat) (o:jI),k≤K∧kv=.int .i64 (k:Int)∧o=D∧Mr f wr [(fb,foV (.slice O K cu) (.slice I K cv) par wh, 158)] [⟨177,25,o,(KL N b r ml i++L4 ⟨sl,par,wh⟩ b r q k).length,(fds (KL N b r ml i++L4 ⟨sl,par,wh⟩ b r q k)).flatten⟩,⟨4,1,.slice I K cv,K,MC (sl.map (·.2))⟩,⟨62,23,.slice O K cu,K,(shs (sl.map (·.1))).flatten⟩,⟨3,1,.slice (some ⟨l,0,none⟩) M j,M,ints .i64 ml⟩]) (fun _ kv _=>K-(intOf kv).toNat)
    case atStart=>exact⟨0,_,by omega,rfl,rfl,hs⟩
    case round=>
     clear hs;obtain⟨k,o,hk,rfl,rfl,hs⟩:=hrel;by_cases aT:k<K
     · have bd:(k:Int)<(K:Int):=by omega
       obtain⟨gv,bf,aU⟩:=hs.form 1 rfl (by omega);have aW:I=some ⟨gv,0,none⟩:=by injection aU
       obtain⟨gu,bh,aX⟩:=hs.form 2 rfl (by omega);have aY:O=some ⟨gu,0,none⟩:=by injection aX
       subst aW aY;obtain⟨y,m⟩:∃y,sl[k]? =some y:=⟨_,js (by rw[aa.out];exact aT)⟩;have R:=qZ m;have HX:=qZ (Z y (hG m));have a1:=qZ (bi HX);have ab:=qZ (show(Mf y.1).v.length=19 from ax HX.1 _ _ _);have S:=qZ (uq HX);have bj:=qZ (show(shs (sl.map (·.1)))[k]? =some y.1.v by simp only[shs,jm,m];rfl);have HG:=qZ (show(MC (sl.map (·.2)))[k]? =some (.bool y.2) by simp only[MC,jm,m];rfl)
       have HC:=qZ (show∀aD∈shs (sl.map (·.1)),aD.length=23 by
        intro aD hz;simp only[shs,List.map_map,jw]at hz;obtain⟨y,m,rfl⟩:=hz;exact bi (Z y m))
       have HOut:=qZ (show(KL N b r ml i++L4 ⟨sl,par,wh⟩ b r q k).length≤60 by rw[eD];have:=aS.out;have:=Ey ⟨sl,par,wh⟩ b r q k;omega);obtain⟨x,gd⟩:=y;clear m;go_upto_region 9 with(refine ma ?_;try (clear hs;intro w hs))
       generalize hT:wr.heap.size=T at*
       refine dz (X:=Nat) (fun ux=> [(some 37,.agg x.v.toArray),(some 38,.agg (Mf x).v.toArray),(some 39,.pointer (some ⟨fb,1,none⟩)),(some 40,.slice (some ⟨gv,0,none⟩) K cv),(some 41,(k:Int)),(some 42,.pointer (some ⟨gv,k,none⟩)),(some 43,gd),(some 13,ux),(none,ej),(some 14,gd)])
        (fun ux L w'=>L8 (fun w L=>Mr f w L [⟨177,25,o,(KL N b r ml i++L4 ⟨sl,par,wh⟩ b r q k).length,(fds (KL N b r ml i++L4 ⟨sl,par,wh⟩ b r q k)).flatten⟩,⟨4,1,.slice (some ⟨gv,0,none⟩) K cv,K,MC (sl.map (·.2))⟩,⟨62,23,.slice (some ⟨gu,0,none⟩) K cu,K,(shs (sl.map (·.1))).flatten⟩,⟨3,1,.slice (some ⟨l,0,none⟩) M j,M,ints .i64 ml⟩]) [(T,x.v, 62),(fb,foV (.slice (some ⟨gu,0,none⟩) K cu) (.slice (some ⟨gv,0,none⟩) K cv) par wh, 158)] 90 (Mf x).v (enV 0 0 0 an) 7 8 ux L w') ⟨0,fun L hL=>L8.start hs.drew (hL 7) (hL 8)⟩ ?_ ?_
       · refine⟨?_,?_,rr,?_,rr,rr,?_,?_,?_,rr,trivial⟩
         all_goals
          intro ux L w' hL hpre hJ a ha he;simp[Region.binds]at hpre
         · refine Wn ?_
           obtain⟨L',hm,-⟩:=hJ.out.ms;exact l8 62 (.tmp 12) rfl T 0 ev x.v _ (ai (hm.own _ (vE _ _ _)).1) underlying62 rfl (by rw[a1.out];exact bg) ⟨ux,_,rfl,rfl,hJ.out.JW rfl rfl⟩
         · refine dM ?_
           intro K HK;refine(i9 x HX w').mono ?_;rintro e w'' ⟨rfl,hb⟩;exact HK _ _ ⟨ux,_,rfl,rfl,hJ.out.below (fun _ q=>q.below hb) rfl rfl⟩
         · refine Wn ?_
           obtain⟨L',hm,-⟩:=hJ.out.ms;have a2:=aZ 2;exact ex hm (Cd _ _ _ _) 79 rfl a2 underlying79 rfl rfl ⟨ux,_,rfl,rfl,hJ.out.JW rfl rfl⟩
         · obtain⟨L',hm,-⟩:=hJ.out.ms
           have bk:=hm.OJ 1 k rfl HG;exact cH
         · exact yce
         · refine Wn ?_
           obtain⟨L2,hm⟩:=hJ.out.at_ (by simp[hpre]) hL;have a3:=aZ 7;have a4:=aZ 1;refine mI hm 90 rfl a3 a4 aV ab rfl (aO _ _ _ _) fun w'' hw=>⟨ux,ej,rfl,rfl,?_⟩
           exact L8.full hw (by simp[hpre])
       · intro ux L w' hL hJ
         obtain⟨L2,hm⟩:=hJ.done (hL 7 (by decide)) (hL 8 (by decide));have hs:Mr f w' ((ux,(Mf x).v, 90)::[(T,x.v, 62),(fb,foV (.slice (some ⟨gu,0,none⟩) K cu) (.slice (some ⟨gv,0,none⟩) K cv) par wh, 158)]) [⟨177,25,o,(KL N b r ml i++L4 ⟨sl,par,wh⟩ b r q k).length,(fds (KL N b r ml i++L4 ⟨sl,par,wh⟩ b r q k)).flatten⟩,⟨4,1,.slice (some ⟨gv,0,none⟩) K cv,K,MC (sl.map (·.2))⟩,⟨62,23,.slice (some ⟨gu,0,none⟩) K cu,K,(shs (sl.map (·.1))).flatten⟩,⟨3,1,.slice (some ⟨l,0,none⟩) M j,M,ints .i64 ml⟩]:=Ms.less hm (List.Sublist.cons_cons _ (fj _ _)) (.refl _);clear hm hJ hL;generalize ux=eb at*;simp only[kb,kn];go_simp;cases gd with
         |true=>
          have a5:=hs.cell 0 2 rfl (v:=.int .i64 (Mf x).r) rfl;by_cases n:(Mf x).r=3
          · have HFo:=qZ (show(match KV ⟨sl,par,wh⟩ b r q k with|some x=> [x]|none=> [])=[] by rw[oJ R.out,if_pos n])
            have ak:((Mf x).r !=3)=false:=by simpa using n
            go_wp2_with (first|fail);exact yaq
          · have HFo:=qZ (show(match KV ⟨sl,par,wh⟩ b r q k with|some x=> [x]|none=> [])=[⟨Mf x,b,r,(k:Int),q,wh,!true⟩] by rw[oJ R.out,if_neg n];rfl)
            have ak:((Mf x).r !=3)=true:=by simpa using n
            have HFl:=qZ (fk (x:=⟨Mf x,b,r,(k:Int),q,wh,!true⟩) S);go_upto_region 13 with fail
            have HD:Kz (([(some 58,ej),(some 59,ej),(some 60,ej),(some 61,ej),(some 62,ej),(some 63,ej),(some 64,ej),(some 65,ej),(some 66,ej),(some 67,ej),(some 68,ej),(some 69,ej),(some 70,ej),(some 71,ej),(some 72,ej),(some 73,ej),(some 74,ej),(some 75,ej),(some 7,ej)]:List (Option Tmp×jI)).map (·.1))=true:=by kernel_rfl
            refine dz (X:=Nat×jI×jI) (fun ux=> [(some 58,o),(some 59,.agg (Mf x).v.toArray),(some 60,b),(some 61,r),(some 62,(k:Int)),(some 63,.agg ([b,r,(k:Int)]:List jI).toArray),(some 64,q),(some 65,.pointer (some ⟨fb,25,none⟩)),(some 66,wh),(some 67,.pointer (some ⟨fb,1,none⟩)),(some 68,.slice (some ⟨gv,0,none⟩) K cv),(some 69,(k:Int)),(some 70,.pointer (some ⟨gv,k,none⟩)),(some 71,.bool true),(some 72,.bool (!true)),(some 73,.agg (Fd.v ⟨Mf x,b,r,(k:Int),q,wh,!true⟩).toArray),(some 74,.slice (some ⟨ux.1,0,none⟩) 1 1),(some 75,ux.2.1),(some 7,ux.2.2)])
             (fun ux L w'=>ApJ (fun w L al=>Mr f w L al) [(eb,(Mf x).v, 90),(T,x.v, 62),(fb,foV (.slice (some ⟨gu,0,none⟩) K cu) (.slice (some ⟨gv,0,none⟩) K cv) par wh, 158)] [⟨4,1,.slice (some ⟨gv,0,none⟩) K cv,K,MC (sl.map (·.2))⟩,⟨62,23,.slice (some ⟨gu,0,none⟩) K cu,K,(shs (sl.map (·.1))).flatten⟩,⟨3,1,.slice (some ⟨l,0,none⟩) M j,M,ints .i64 ml⟩] 177 25 o (KL N b r ml i++L4 ⟨sl,par,wh⟩ b r q k).length (fds (KL N b r ml i++L4 ⟨sl,par,wh⟩ b r q k)).flatten (Fd.v ⟨Mf x,b,r,(k:Int),q,wh,!true⟩) 0 16 17 18 ux L w') ⟨(0,ej,ej),fun L hL=>ApJ.start hs.drew (hL 16) (hL 17) (hL 18)⟩ ?_ ?_
            · refine⟨?_,?_,rr,rr,rr,?_,rr,rr,?_,rr,?_,rr,rr,?_,rr,?_,?_,?_,?_,trivial⟩
              all_goals
               intro ux L w' hL hpre hJ a ha he;simp[Region.binds]at hpre
              · exact ybj
              · refine Wn ?_
                obtain⟨L',s0,hm⟩:=hJ.out.any;exact l8 90 (.tmp 13) rfl eb 0 ev (Mf x).v _ (ai (hm.own (eb,(Mf x).v, 90) (kk _ (List.Mem.head _))).1) underlying90 rfl (by rw[ab.out];exact aV) ⟨ux,_,rfl,rfl,hJ.out.JW rfl rfl rfl⟩
              · exact ybv
              · exact ybo
              · exact ybl
              · obtain⟨L',s0,hm⟩:=hJ.out.any
                have a6:w'.cell? ⟨gv,k,none⟩=some (.bool true):=hm.OJ 1 k rfl HG;exact cH
              · refine Wn ?_
                have ao:=aZ 1;have aq:=aZ 5;have ar:=aZ 6;have au:=aZ 8;have aw:=aZ 14;exact ba 177 _ rfl _ (show [(0,a.eval (.tmp 59)),(1,a.eval (.tmp 63)),(2,a.eval (.tmp 64)),(3,a.eval (.tmp 66)),(4,a.eval (.tmp 72))]=_ by rw[ao,aq,ar,au,aw]) _ (CX S b r k q wh (!true)) ⟨ux,_,rfl,rfl,hJ.out.JW rfl rfl rfl⟩
              · exact ybr
              · exact ya4
              · exact ycl
            · intro ux L w' hL hJ
              obtain⟨L2,hm⟩:=hJ.done (hL 17 (by decide));have E:=(hJ.d (hL 18 (by decide))).symm;have hs:Mr f w' [(eb,(Mf x).v, 90),(T,x.v, 62),(fb,foV (.slice (some ⟨gu,0,none⟩) K cu) (.slice (some ⟨gv,0,none⟩) K cv) par wh, 158)] (⟨177,25,ux.2.1,(KL N b r ml i++L4 ⟨sl,par,wh⟩ b r q k).length+1,(fds (KL N b r ml i++L4 ⟨sl,par,wh⟩ b r q k)).flatten++(Fd.v ⟨Mf x,b,r,(k:Int),q,wh,!true⟩)⟩::[⟨4,1,.slice (some ⟨gv,0,none⟩) K cv,K,MC (sl.map (·.2))⟩,⟨62,23,.slice (some ⟨gu,0,none⟩) K cu,K,(shs (sl.map (·.1))).flatten⟩,⟨3,1,.slice (some ⟨l,0,none⟩) M j,M,ints .i64 ml⟩]):=Ms.less hm (fj _ _) (.refl _);clear hm hJ hL;obtain⟨u1,D,u3⟩:=ux;have E:D=u3:=E;subst E;simp only[kb,kn];go_simp;go_wp2_with fail;go_roundw
              case rel=>
               refine⟨k+1,_,by omega,by go_num,rfl,?_⟩;have q1:KL N b r ml i++L4 ⟨sl,par,wh⟩ b r q (k+1)=KL N b r ml i++L4 ⟨sl,par,wh⟩ b r q k++[⟨Mf x,b,r,(k:Int),q,wh,!true⟩]:=by rw[kO,HFo.out,ly]
               have q2:(fds (KL N b r ml i++L4 ⟨sl,par,wh⟩ b r q k++[⟨Mf x,b,r,(k:Int),q,wh,!true⟩])).flatten=(fds (KL N b r ml i++L4 ⟨sl,par,wh⟩ b r q k)).flatten++Fd.v ⟨Mf x,b,r,(k:Int),q,wh,!true⟩:=by simp[fds]
               rw[q1,q2,eD];exact hs.drop 2
              case measure=>first|(simp[intOf];done)|(simp[intOf];omega)
         |false=>
          have aF:=qZ (fun e=>mT ⟨sl,par,wh⟩ HPo Z (slot:=k) (e:=e))
          have V:=qZ (show(Ns ⟨sl,par,wh⟩ k).v.length=19 by
           unfold Ns;cases H:(⟨sl,par,wh⟩:Fo).MK k with
           |none=>rfl
           |some e=>exact ax (aF e H).1 _ _ _)
          go_wp2_with (first|(refine bM 2 hs rfl 158 rfl rfl rfl underlying158 rfl dF (cF HPo _ _ _) ?_));refine(oq ⟨sl,par,wh⟩ k aa (hs.rds 2 rfl (by simp[shs,aa.out]) HC) (hs.rd 1 rfl) HPo Z (by omega)).mono ?_;rintro e w3 ⟨rfl,hb⟩;replace hs:=hs.below hb;clear hb;cases H:(⟨sl,par,wh⟩:Fo).MK k with
          |none=>
           have HFo:=qZ (show(match KV ⟨sl,par,wh⟩ b r q k with|some x=> [x]|none=> [])=[] by rw[vT R.out H]);go_wp2_with (refine ma ?_;try (clear hs;intro w hs));exact yaq
          |some en=>
           have aG:=qZ (show Ns ⟨sl,par,wh⟩ k=en by unfold Ns;rw[H];rfl);have z:=qZ H;have S:=qZ (aF en H);rw[aG.out]at V;rw[aG.out];clear H;go_upto_region 12 with(refine ma ?_;try (clear hs;intro w hs))
           have ab:=V;have a5:=hs.cell 0 2 rfl (v:=.int .i64 (en).r) rfl;by_cases n:(en).r=3
           · have HFo:=qZ (show(match KV ⟨sl,par,wh⟩ b r q k with|some x=> [x]|none=> [])=[] by rw[oI R.out z.out,if_pos n])
             have ak:((en).r !=3)=false:=by simpa using n
             go_wp2_with (first|fail);exact yaq
           · have HFo:=qZ (show(match KV ⟨sl,par,wh⟩ b r q k with|some x=> [x]|none=> [])=[⟨en,b,r,(k:Int),q,wh,!false⟩] by rw[oI R.out z.out,if_neg n];rfl)
             have ak:((en).r !=3)=true:=by simpa using n
             have HFl:=qZ (fk (x:=⟨en,b,r,(k:Int),q,wh,!false⟩) S);go_upto_region 13 with fail
             have HD:Kz (([(some 58,ej),(some 59,ej),(some 60,ej),(some 61,ej),(some 62,ej),(some 63,ej),(some 64,ej),(some 65,ej),(some 66,ej),(some 67,ej),(some 68,ej),(some 69,ej),(some 70,ej),(some 71,ej),(some 72,ej),(some 73,ej),(some 74,ej),(some 75,ej),(some 7,ej)]:List (Option Tmp×jI)).map (·.1))=true:=by kernel_rfl
             refine dz (X:=Nat×jI×jI) (fun ux=> [(some 58,o),(some 59,.agg (en).v.toArray),(some 60,b),(some 61,r),(some 62,(k:Int)),(some 63,.agg ([b,r,(k:Int)]:List jI).toArray),(some 64,q),(some 65,.pointer (some ⟨fb,25,none⟩)),(some 66,wh),(some 67,.pointer (some ⟨fb,1,none⟩)),(some 68,.slice (some ⟨gv,0,none⟩) K cv),(some 69,(k:Int)),(some 70,.pointer (some ⟨gv,k,none⟩)),(some 71,.bool false),(some 72,.bool (!false)),(some 73,.agg (Fd.v ⟨en,b,r,(k:Int),q,wh,!false⟩).toArray),(some 74,.slice (some ⟨ux.1,0,none⟩) 1 1),(some 75,ux.2.1),(some 7,ux.2.2)])
              (fun ux L w'=>ApJ (fun w L al=>Mr f w L al) [(eb,(en).v, 90),(T,x.v, 62),(fb,foV (.slice (some ⟨gu,0,none⟩) K cu) (.slice (some ⟨gv,0,none⟩) K cv) par wh, 158)] [⟨4,1,.slice (some ⟨gv,0,none⟩) K cv,K,MC (sl.map (·.2))⟩,⟨62,23,.slice (some ⟨gu,0,none⟩) K cu,K,(shs (sl.map (·.1))).flatten⟩,⟨3,1,.slice (some ⟨l,0,none⟩) M j,M,ints .i64 ml⟩] 177 25 o (KL N b r ml i++L4 ⟨sl,par,wh⟩ b r q k).length (fds (KL N b r ml i++L4 ⟨sl,par,wh⟩ b r q k)).flatten (Fd.v ⟨en,b,r,(k:Int),q,wh,!false⟩) 0 16 17 18 ux L w') ⟨(0,ej,ej),fun L hL=>ApJ.start hs.drew (hL 16) (hL 17) (hL 18)⟩ ?_ ?_
             · refine⟨?_,?_,rr,rr,rr,?_,rr,rr,?_,rr,?_,rr,rr,?_,rr,?_,?_,?_,?_,trivial⟩
               all_goals
                intro ux L w' hL hpre hJ a ha he;simp[Region.binds]at hpre
               · exact ybj
               · refine Wn ?_
                 obtain⟨L',s0,hm⟩:=hJ.out.any;exact l8 90 (.tmp 13) rfl eb 0 ev (en).v _ (ai (hm.own (eb,(en).v, 90) (kk _ (List.Mem.head _))).1) underlying90 rfl (by rw[ab.out];exact aV) ⟨ux,_,rfl,rfl,hJ.out.JW rfl rfl rfl⟩
               · exact ybv
               · exact ybo
               · exact ybl
               · obtain⟨L',s0,hm⟩:=hJ.out.any
                 have a6:w'.cell? ⟨gv,k,none⟩=some (.bool false):=hm.OJ 1 k rfl HG;exact cH
               · refine Wn ?_
                 have ao:=aZ 1;have aq:=aZ 5;have ar:=aZ 6;have au:=aZ 8;have aw:=aZ 14;exact ba 177 _ rfl _ (show [(0,a.eval (.tmp 59)),(1,a.eval (.tmp 63)),(2,a.eval (.tmp 64)),(3,a.eval (.tmp 66)),(4,a.eval (.tmp 72))]=_ by rw[ao,aq,ar,au,aw]) _ (CX S b r k q wh (!false)) ⟨ux,_,rfl,rfl,hJ.out.JW rfl rfl rfl⟩
               · exact ybr
               · exact ya4
               · exact ycl
             · intro ux L w' hL hJ
               obtain⟨L2,hm⟩:=hJ.done (hL 17 (by decide));have E:=(hJ.d (hL 18 (by decide))).symm;have hs:Mr f w' [(eb,(en).v, 90),(T,x.v, 62),(fb,foV (.slice (some ⟨gu,0,none⟩) K cu) (.slice (some ⟨gv,0,none⟩) K cv) par wh, 158)] (⟨177,25,ux.2.1,(KL N b r ml i++L4 ⟨sl,par,wh⟩ b r q k).length+1,(fds (KL N b r ml i++L4 ⟨sl,par,wh⟩ b r q k)).flatten++(Fd.v ⟨en,b,r,(k:Int),q,wh,!false⟩)⟩::[⟨4,1,.slice (some ⟨gv,0,none⟩) K cv,K,MC (sl.map (·.2))⟩,⟨62,23,.slice (some ⟨gu,0,none⟩) K cu,K,(shs (sl.map (·.1))).flatten⟩,⟨3,1,.slice (some ⟨l,0,none⟩) M j,M,ints .i64 ml⟩]):=Ms.less hm (fj _ _) (.refl _);clear hm hJ hL;obtain⟨u1,D,u3⟩:=ux;have E:D=u3:=E;subst E;simp only[kb,kn];go_simp;go_wp2_with fail;go_roundw
               case rel=>
                refine⟨k+1,_,by omega,by go_num,rfl,?_⟩;have q1:KL N b r ml i++L4 ⟨sl,par,wh⟩ b r q (k+1)=KL N b r ml i++L4 ⟨sl,par,wh⟩ b r q k++[⟨en,b,r,(k:Int),q,wh,!false⟩]:=by rw[kO,HFo.out,ly]
                have q2:(fds (KL N b r ml i++L4 ⟨sl,par,wh⟩ b r q k++[⟨en,b,r,(k:Int),q,wh,!false⟩])).flatten=(fds (KL N b r ml i++L4 ⟨sl,par,wh⟩ b r q k)).flatten++Fd.v ⟨en,b,r,(k:Int),q,wh,!false⟩:=by simp[fds]
                rw[q1,q2,eD];exact hs.drop 2
               case measure=>first|(simp[intOf];done)|(simp[intOf];omega)
     · obtain rfl:k=K:=by omega
       have bl:=U.out;go_wp2_with fail;go_roundw
       case rel=>
        refine⟨i+1,_,by omega,by go_num,rfl,?_⟩;have e1:KL N b r ml (i+1)=KL N b r ml i++L4 ⟨sl,par,wh⟩ b r q k:=by rw[HA.out,aa.out]
        rw[e1];exact hs.less (l5 _) (.cons_cons _ (.cons _ (.cons _ (.refl _))))
       case measure=>first|(simp[intOf];done)|(simp[intOf];omega)
  · obtain rfl:i=M:=by omega
    go_wp2_with fail;go_ret;exact⟨_,rfl,hs.less (l5 _) (.cons_cons _ (.cons _ (.refl _)))⟩
end dev
theorem yaa{A:Prop}(h:A:=by
 obtain⟨K,hK⟩:∃K:Nat,JV E.p.mask=(K:Int):=⟨(JV E.p.mask).toNat,by have:=aI E.p.mask;unfold JV;split<;>omega⟩;have hK7:K≤7:=by have:=aI E.p.mask;unfold JV at hK;split at hK<;>omega
 have HK:=qZ hK;have hKn:(JV E.p.mask).toNat=K:=by omega
 have HKn:=qZ hKn;clear hK hKn;go_wp2_with (refine ma ?_;try (clear hs;intro w hs));refine(bA _ _).mono ?_;rw[HK.out];rintro e w2 ⟨rfl,rfl⟩;by_cases hlim:1099511627775-min (n:Int) (K:Int)+1<E.p.next
 · have HR:=qZ (show r=(E,0,11) by
    have:=HB.out;unfold Dv.Of at this;rw[HKn.out,HLn.out]at this;dsimp only at this;rw[if_pos (by show 1099511627775-((min n K:Nat):Int)+1<E.p.next;omega)]at this;exact(Option.some.inj this).symm)
   go_wp2_with (refine ma ?_;try (clear hs;intro w hs));go_ret2;rw[HR.out];exact⟨rfl,Mp.out (E:=E) hs HL.out rfl rfl rfl HSm.out HWo.out⟩
 · obtain⟨es,hes⟩:∃es,es=LL l E.p.next K:=⟨_,rfl⟩
   obtain⟨W,hW⟩:∃W,W=Kl E.N E.p.op E.p.row E.p.mask es:=⟨_,rfl⟩;have HWe:=qZ hW
   have HB2:=qZ (show(if W.2.2=1 then some ({E with N:=W.1,p:={E.p with next:=E.p.next+((min n K:Nat):Int)}},(0:Int),(1:Int))else if W.2.2=0 then some ({E with N:=W.1,p:={E.p with next:=E.p.next+((min n K:Nat):Int),row:=E.p.row+1},T:=Ln E.T E.p.op (E.p.row+1-1) E.p.mask ((es.take (min n K)).zipIdx)},((min n K:Nat):Int),0)else if W.2.2=9 then some ({E with N:=W.1,p:={E.p with next:=E.p.next+((min n K:Nat):Int),row:=E.p.row+1}},0,9)else(Dv.OQ {E with N:=W.1,p:={E.p with next:=E.p.next+((min n K:Nat):Int),row:=E.p.row+1}} W.2.1).write j l)=some r by
    have:=HB.out;unfold Dv.Of at this;rw[HKn.out,HLn.out]at this;dsimp only at this;rw[if_neg (by show¬1099511627775-((min n K:Nat):Int)+1<E.p.next;omega),←hes,←hW]at this;exact this)
   have HEn:=qZ (show∀e∈es,e.ok by rw[hes];exact xC (fun e he=>(HOk.out e he).1) _ _);have HEs:=qZ (show es.length=K by rw[hes];exact BW _ _ _);have HNb:=qZ hes;clear HB hW;obtain⟨hdev,hdf⟩:=Mp.out (E:=E) hs HL.out rfl rfl rfl HSm.out HWo.out;have hnm:=re (cc:=cc) hdev l (fun e he=>(HOk.out e he).1) (hs.b.up hs.size) hn K (by omega) HNx.out.2.1 (by have:=HNx.out.1;omega);rw[HLn.out]at hnm;have HNm:=qZ hnm;clear hnm;have HDv:=qZ hdf;have HPg:=qZ (af hdev.pen);have HRd:=qZ hs.b;have HSz:=qZ hs.size;clear hdev hdf hes;go_wp2_with (refine ma ?_;try (clear hs;intro w hs));refine HNm.out.mono ?_;rintro e w2 ⟨v,rfl,hown,hdv2,hdf2⟩;rw[←HNb.out]at hown;have hs:=Mp.of1 (w0:=w0) hdv2 (HDv.out.trans hdf2) HBl.out (HRd.out.old (na hdf2)) HSb.out HSz.out HPg.out hown rfl;clear hown hdv2 hdf2 HNm HRd HSz HDv HPg;obtain⟨Av,cv,hv,hcv1,hcv2⟩:=hs.slice 0 rfl;have hcv1:K≤cv:=hcv1;have hv:v=.slice Av K cv:=hv;subst hv;go_upto_region 14 with(refine ma ?_;try (clear hs;intro w hs))
   have HLt:=qZ (show Lt E.N W.1 8 by rw[HWe.out];exact(ou E.N E.p.op E.p.row E.p.mask es).mono (by rw[HEs.out];omega))
   have HRW:=qZ (show∀w3:World,(fun w3=>Mp pl m c {E with p:={E.p with next:=E.p.next+((min n K:Nat):Int)}} (fun w=>RdT Kx w w0.heap.size A 19 n (ens l)) w0 w3 [(pl.pg,({E.p with next:=E.p.next+((min n K:Nat):Int)}:Pn).v pl, 192)] [⟨90,19,.slice Av K cv,K,(ens es).flatten⟩]) w3→Calls prog 150 #[pl.g,E.p.op,E.p.row,E.p.mask,.slice Av K cv] w3 fun e w'=>e=.returned (.tuple #[W.2.1,W.2.2])∧JS w' pl.base pl.g m W.1∧Fr pl.base pl.g w3 w' from fun w3 hs=>by
    have hloc:∀b o,Av=some ⟨b,o,none⟩→0<K→Loc Ko w3 b:=fun b o e hk=>by
     subst e;obtain⟨cur,q1,-⟩:=br (hs.sl (i:=0) rfl) (k:=b) rfl;exact⟨_,_,_,q1,rfl⟩
    have hrw:=dS (c:=cv) hs.a.JT (Nat.le_trans HBl.out hs.size) E.p.op E.p.row E.p.mask (bw (by have:=HOpn.out;show-1000000000000000≤E.p.op;omega) (by have:=HNx.out;show E.p.op≤1000000000000000;omega)) (bw (by have:=HNx.out;show-1000000000000000≤E.p.row;omega) (by have:=HRw.out;show E.p.row≤1000000000000000;omega)) es HEn.out (A:=Av) (n:=K) ⟨hs.rds 0 rfl (by rw[ens,List.length_map];exact HEs.out) (kC HEn.out),hloc⟩ (by omega) (by have:=HT.out;show tot E.N+1002≤1000000000000000;omega);rw[←HWe.out]at hrw;exact hrw)
   have HP2:=qZ (show∀w3 w4:World,(fun w3=>Mp pl m c {E with p:={E.p with next:=E.p.next+((min n K:Nat):Int)}} (fun w=>RdT Kx w w0.heap.size A 19 n (ens l)) w0 w3 [(pl.pg,({E.p with next:=E.p.next+((min n K:Nat):Int)}:Pn).v pl, 192)] [⟨90,19,.slice Av K cv,K,(ens es).flatten⟩]) w3→(JS w4 pl.base pl.g m W.1∧Fr pl.base pl.g w3 w4)→(fun w3=>Mp pl m c {E with N:=W.1,p:={E.p with next:=E.p.next+((min n K:Nat):Int)}} (fun w=>RdT Kx w w0.heap.size A 19 n (ens l)) w0 w3 [(pl.pg,({E.p with next:=E.p.next+((min n K:Nat):Int)}:Pn).v pl, 192)] [⟨90,19,.slice Av K cv,K,(ens es).flatten⟩]∧∃nt,nt≤c+3*E.N.ops∧JZ w3 pl.lg pl.mb pl.cb nt E.T) w4 from fun w3 w4 hs hb=>by
    obtain⟨hn3,hf3⟩:=hb;obtain⟨nt,hnt,hTab⟩:=hs.a.tab;exact⟨Mp.JT hs HL.out HLt.out.ops hn3 hf3,nt,hnt,G2 hTab HL.out.maps hf3⟩)
   refine dz (X:=Unit) (fun _=> [(some 75,pl.pg),(some 76,pl.pg),(some 77,pl.pg),(some 78,pl.g),(some 79,pl.pg),(some 80,pl.pg),(some 81,.pointer (some ⟨pl.pg,3,none⟩)),(some 82,E.p.op),(some 83,E.p.row),(some 84,pl.pg),(some 85,pl.pg),(some 86,.pointer (some ⟨pl.pg,5,none⟩)),(some 87,E.p.mask),(some 88,.slice Av K cv),(some 89,.tuple #[W.2.1,W.2.2]),(some 74,.tuple #[W.2.1,W.2.2]),(some 90,W.2.1),(some 91,W.2.2),(some 11,W.2.1),(some 12,W.2.2)])
    (fun _ L w'=>StJ (fun w3=>Mp pl m c {E with p:={E.p with next:=E.p.next+((min n K:Nat):Int)}} (fun w=>RdT Kx w w0.heap.size A 19 n (ens l)) w0 w3 [(pl.pg,({E.p with next:=E.p.next+((min n K:Nat):Int)}:Pn).v pl, 192)] [⟨90,19,.slice Av K cv,K,(ens es).flatten⟩]) (fun w3=>Mp pl m c {E with N:=W.1,p:={E.p with next:=E.p.next+((min n K:Nat):Int)}} (fun w=>RdT Kx w w0.heap.size A 19 n (ens l)) w0 w3 [(pl.pg,({E.p with next:=E.p.next+((min n K:Nat):Int)}:Pn).v pl, 192)] [⟨90,19,.slice Av K cv,K,(ens es).flatten⟩]∧∃nt,nt≤c+3*E.N.ops∧JZ w3 pl.lg pl.mb pl.cb nt E.T) 14 L w') ⟨(),fun L hL=>⟨fun _=>hs.drew,fun q=>absurd (hL 14) (by simp[q])⟩⟩ ?_ ?_
   · refine⟨rr,rr,rr,?_,rr,rr,rr,?_,rr,rr,rr,rr,?_,rr,?_,rr,rr,rr,rr,rr,trivial⟩
     all_goals
      intro ux L w' hL hpre hJ a ha he;simp[Region.binds]at hpre
     · have q0:w'.cell? ⟨pl.pg,0,none⟩=some (.pointer (some ⟨pl.g,0,none⟩)):=by
        cases e:L 14 with
        |false=>exact(hJ.out.a e).cell 0 0 rfl rfl
        |true=>exact(hJ.out.b e).1.cell 0 0 rfl rfl
       exact cH
     · have q3:w'.cell? ⟨pl.pg,3,none⟩=some (.int .i64 E.p.op):=by
        cases e:L 14 with
        |false=>exact(hJ.out.a e).cell 0 3 rfl rfl
        |true=>exact(hJ.out.b e).1.cell 0 3 rfl rfl
       exact cH
     · have q5:w'.cell? ⟨pl.pg,5,none⟩=some (.int .i64 E.p.mask):=by
        cases e:L 14 with
        |false=>exact(hJ.out.a e).cell 0 5 rfl rfl
        |true=>exact(hJ.out.b e).1.cell 0 5 rfl rfl
       exact cH
     · refine dM ?_
       intro K HK;refine(HRW.out w' (hJ.out.a hL)).mono ?_;rintro e w'' ⟨rfl,hb⟩;exact HK.out _ _ ⟨ux,_,rfl,rfl,⟨fun q=>absurd q (by simp[JW]),fun _=>HP2.out w' w'' (hJ.out.a hL) hb⟩⟩
   · intro ux L w' hL hJ
     have hs:=hJ.b (hL 14 (by decide));clear hJ hL;simp only[List.foldl_cons,List.foldl_nil];go_simp;obtain⟨nt,hnt,hTab⟩:=hs.2;replace hs:=hs.1;have HTab:=qZ hTab;have HNt:=qZ hnt;clear hTab hnt HRW HP2;generalize hw3:w'=w3 at*;clear hw3;obtain⟨N2,f2,e2⟩:=W;by_cases he1:e2=1
     · have HR:=qZ (show r=({E with N:=N2,p:={E.p with next:=E.p.next+((min n K:Nat):Int)}},0,1) by
        have:=HB2.out;rw[if_pos he1]at this;exact(Option.some.inj this).symm)
       subst he1;go_wp2_with fail;go_ret2;rw[HR.out];exact⟨rfl,Mp.out (E:={E with N:=N2,p:={E.p with next:=E.p.next+((min n K:Nat):Int)}}) (hs.less (.refl _) (List.nil_sublist _)) HL.out rfl rfl rfl (by have:=HLt.out.geo;have:=HSm.out;simp only at*;omega) (HLt.out.wo HWo.out)⟩
     · have he1b:(e2==1)=false:=by simpa using he1
       by_cases he0:e2=0
       · have HR:=qZ (show r=({E with N:=N2,p:={E.p with next:=E.p.next+((min n K:Nat):Int),row:=E.p.row+1},T:=Ln E.T E.p.op (E.p.row+1-1) E.p.mask ((es.take (min n K)).zipIdx)},((min n K:Nat):Int),0) by
          have:=HB2.out;rw[if_neg he1,if_pos he0]at this;exact(Option.some.inj this).symm)
         subst he0
         have HOps:=qZ (show N2.ops=E.N.ops+(K+1) by
          have:=vf (N:=E.N) (b:=E.p.op) (r:=E.p.row) (m:=E.p.mask) (l:=es) HOpn.out HNx.out.2.2.2 (by rw[←HWe.out]);rw[←HWe.out,HEs.out]at this;exact this)
         have hrw1:=HRw.out;have hrw2:=HNx.out.2.2.2;obtain⟨mn,hmn⟩:∃mn:Nat,mn=min n K:=⟨_,rfl⟩;rw[←hmn]at HR hs;have hmnI:min (n:Int) (K:Int)=(mn:Int):=by omega
         have HMn:=qZ (show mn≤K∧mn≤n by omega);have hmK:mn≤K:=HMn.out.1;rw[hmnI];clear hmn hmnI;have HTa:=qZ (show MG w3 pl m c {E with N:=N2}∧∃nt,nt≤c+3*E.N.ops+3*0∧JZ w3 pl.lg pl.mb pl.cb nt E.T from⟨⟨hs.a.JT,hs.a.tal,hs.a.tab⟩,nt,by have:=HNt.out;omega,HTab.out⟩);replace hs:=hs.dev (A':=fun w=>MG w pl m c {E with N:=N2}∧∃nt,nt≤c+3*E.N.ops+3*0∧JZ w pl.lg pl.mb pl.cb nt E.T) (Kj.refl _ _) HTa.out (fun w1 w2 hk a=>⟨a.1.chg hk,by obtain⟨z,z1,z2⟩:=a.2;exact⟨z,z1,JZ.chg rfl z2 hk⟩⟩);clear HTa HTab HNt;go_wp2_with (refine ma ?_;try (clear hs;intro w hs));have hz0:Ln E.T E.p.op E.p.row E.p.mask (((es.take mn).zipIdx).take 0)=E.T:=rfl;go_loopw [109] (fun i wr=>∃(q:Nat) (T':Tb),q≤mn∧i=.int .i64 (q:Int)∧T'=Ln E.T E.p.op E.p.row E.p.mask (((es.take mn).zipIdx).take q)∧Ms OZ Kx pl.base (fun w=>MG w pl m c {E with N:=N2,T:=T'}∧∃nt,nt≤c+3*E.N.ops+3*q∧JZ w pl.lg pl.mb pl.cb nt T') (fun w=>RdT Kx w w0.heap.size A 19 n (ens l)) w0 wr [(pl.pg,({E.p with next:=E.p.next+(mn:Int),row:=E.p.row+1}:Pn).v pl, 192)] [⟨90,19,.slice Av K cv,K,(ens es).flatten⟩]) (fun i _=>mn-(intOf i).toNat)
         case atStart=>exact⟨0,E.T,by omega,rfl,hz0.symm,hs⟩
         case round=>
          clear hs hz0;obtain⟨q,T',hq,rfl,hT',hs⟩:=hrel;have HT':=qZ hT';clear hT';by_cases hqm:q<mn
          · have hqmI:(q:Int)<(mn:Int):=by omega
            obtain⟨gv,cv',hgv⟩:=hs.form 0 rfl (by omega);have hgv2:Av=some ⟨gv,0,none⟩:=by injection hgv
            subst hgv2;obtain⟨x,hx⟩:∃x,es[q]? =some x:=⟨_,List.getElem?_eq_getElem (by rw[HEs.out];omega)⟩;have hxn:LL l E.p.next K=es:=HNb.out.symm
            have HXn:=qZ (show wfI x.l∧wfI x.s by
             have hx2:=hx;rw[←hxn,tx,if_pos (by omega)]at hx2;have hql:q<l.length:=by rw[HLn.out];have:=HMn.out;omega
             rw[List.getElem?_eq_getElem hql]at hx2;have hx2:=Option.some.inj hx2;have hok:=(HOk.out l[q] (List.getElem_mem hql)).2;subst hx2;have h1:=HNx.out;exact⟨hok,bw (by show-1000000000000000≤E.p.next+(q:Int);omega) (by show E.p.next+(q:Int)≤1000000000000000;omega)⟩)
            have HXo:=qZ (HEn.out x (List.mem_of_getElem? hx));have HXl:=qZ (show x.v.length=19 from ax HXo.out.1 _ _ _);have HEx:=qZ (show(ens es)[q]? =some x.v by simp[ens,hx]);have HCn:=qZ (kC HEn.out)
            have HTs:=qZ (show Ln E.T E.p.op E.p.row E.p.mask (((es.take mn).zipIdx).take (q+1))=T'.MH x.l x.s x.r E.p.op E.p.row (q:Int) E.p.mask by
             have hz:((es.take mn).zipIdx)[q]? =some (x,q):=by
              rw[List.getElem?_zipIdx,List.getElem?_take,if_pos hqm,hx];simp
             rw[List.take_add_one,hz,HT'.out];exact pW _ _ _ _ _ _)
            clear hx hxn;go_upto_region 23 with(refine ma ?_;try (clear hs;intro w hs))
            refine bm 16 (by kernel_rfl) (by kernel_rfl) ?_;intro wd hwd;replace hs:=hs.drew;rw[←hwd]at hs;clear hwd;simp only[List.take_succ_cons,List.take_zero,List.drop_succ_cons,List.drop_zero];repeat (first|(refine cU 0 hs rfl 90 (by first|rfl|(simp[Region.wanted];done)|(go_simp;done)) rfl rfl underlying90 rfl aV HXl.out ?_)|(refine aq 1 hs rfl 84 (by first|rfl|(simp[Region.wanted];done)|(go_simp;done)) rfl rfl underlying84 rfl rfl ?_)|(refine aq 1 hs rfl 3 (by first|rfl|(simp[Region.wanted];done)|(go_simp;done)) rfl rfl underlying3 rfl rfl ?_)|(refine pA 94 _ (by first|rfl|(simp[Region.wanted];done)|(go_simp;done)) rfl _ rfl _ (Bx E.p.op E.p.row (q:Int)) ?_)|(refine wpStill_step (fun K hK=> ?_);go_simp;refine hK _ ?_;clear hK K))
            refine wpStill_nil ?_;go_wp2_with fail;obtain⟨nt,hnt,hTb⟩:=hs.a.2;have hgo:=HT.out;have hco:=HC.out;refine(tab.EG hTb x.l x.s x.r E.p.op E.p.row (q:Int) E.p.mask x.d HXo.out.1 HXn.out.1 HXn.out.2 (bw (by have:=HOpn.out;show-1000000000000000≤E.p.op;omega) (by have:=HNx.out;show E.p.op≤1000000000000000;omega)) (by unfold tot at hgo;omega)).mono ?_;rintro e w4 ⟨rfl,ht,hk⟩;have hnt2:nt+3≤c+3*N2.ops:=by have:=HOps.out;omega
            replace hs:=hs.dev (A':=fun w=>MG w pl m c {E with N:=N2,T:=T'.MH x.l x.s x.r E.p.op E.p.row (q:Int) E.p.mask}∧∃nt,nt≤c+3*E.N.ops+3*(q+1)∧JZ w pl.lg pl.mb pl.cb nt (T'.MH x.l x.s x.r E.p.op E.p.row (q:Int) E.p.mask)) (xh hTb ⟨HL.out.low.2.2.1,HL.out.low.2.2.2.1,HL.out.low.2.2.2.2.1⟩ hk) ⟨hs.a.1.tab' HL.out.maps hnt2 ht hk,nt+3,by omega,ht⟩ (fun w1 w2 hk a=>⟨a.1.chg hk,by obtain⟨z,z1,z2⟩:=a.2;exact⟨z,z1,JZ.chg rfl z2 hk⟩⟩);clear ht hk hTb hnt hnt2;go_wp2_with fail;go_roundw
            case rel=>exact⟨q+1,_,by omega,by go_num,HTs.out.symm,hs.drop 1⟩
            case measure=>first|(simp[intOf];done)|(simp[intOf];omega)
          · obtain rfl:q=mn:=by omega
            replace hs:=hs.dev (A':=fun w=>MG w pl m c {E with N:=N2,T:=T'}) (Kj.refl _ _) hs.a.1 (MG.Qz pl m c _)
            have HTf:=qZ (show T'=Ln E.T E.p.op (E.p.row+1-1) E.p.mask ((es.take q).zipIdx) by
             have:=HT'.out;rw[List.take_of_length_le (by rw[List.length_zipIdx,List.length_take];omega)]at this;rw[Int.add_sub_cancel];exact this)
            go_wp2_with fail;go_ret2;rw[HR.out,←HTf.out];exact⟨rfl,Mp.out (E:={E with N:=N2,p:={E.p with next:=E.p.next+(q:Int),row:=E.p.row+1},T:=T'}) (hs.less (.refl _) (List.nil_sublist _)) HL.out rfl rfl rfl (by have:=HLt.out.geo;have:=HSm.out;simp only at*;omega) (HLt.out.wo HWo.out)⟩
       · have he0b:(e2==0)=false:=by simpa using he0
         by_cases he9:e2=9
         · have HR:=qZ (show r=({E with N:=N2,p:={E.p with next:=E.p.next+((min n K:Nat):Int),row:=E.p.row+1}},0,9) by
            have:=HB2.out;rw[if_neg he1,if_neg he0,if_pos he9]at this;exact(Option.some.inj this).symm)
           subst he9;have hrw1:=HRw.out;have hrw2:=HNx.out.2.2.2;go_wp2_with (refine ma ?_;try (clear hs;intro w hs));go_ret2;rw[HR.out];exact⟨rfl,Mp.out (E:={E with N:=N2,p:={E.p with next:=E.p.next+((min n K:Nat):Int),row:=E.p.row+1}}) (hs.less (.refl _) (List.nil_sublist _)) HL.out rfl rfl rfl (by have:=HLt.out.geo;have:=HSm.out;simp only at*;omega) (HLt.out.wo HWo.out)⟩
         · have he9b:(e2==9)=false:=by simpa using he9
           have hrw1:=HRw.out;have hrw2:=HNx.out.2.2.2;go_wp2_with (refine ma ?_;try (clear hs;intro w hs));obtain⟨hdev,hdf⟩:=Mp.out (E:={E with N:=N2,p:={E.p with next:=E.p.next+((min n K:Nat):Int),row:=E.p.row+1}}) (hs.less (.refl _) (List.nil_sublist _)) HL.out rfl rfl rfl (by have:=HLt.out.geo;have:=HSm.out;simp only at*;omega) (HLt.out.wo HWo.out);have HDf2:=qZ hdf;have HRd:=qZ hs.b;have HLo:=qZ (zi hdev f2);clear hdev hdf;refine HLo.out.mono ?_;rintro e w4 ⟨rfl,hdv,hdf⟩;have hs2:=Mp.of (B:=(fun w=>RdT Kx w w0.heap.size A 19 n (ens l))) hdv (HDf2.out.trans hdf) HBl.out (HRd.out.old (na hdf)) HSb.out
           have HP:=qZ (show Φ w4 j by
            rw[HΦ.out];have q1:=HLt.out.tot;have q2:=HT.out;have q3:=HNx.out;refine⟨Dv.OQ {E with N:=N2,p:={E.p with next:=E.p.next+((min n K:Nat):Int),row:=E.p.row+1}} f2,?_,?_,?_,?_,?_,?_,hdv.same,hdv.KP,?_,hs2⟩
            · have:=HB2.out
              rw[if_neg he1,if_neg he0,if_neg he9]at this;exact this
            · show tot N2+8*j≤100000000000000
              have q1:tot N2≤tot E.N+8:=q1;omega
            · show E.p.next+((min n K:Nat):Int)≤1099511627776
              omega
            · show 0≤E.p.next+((min n K:Nat):Int)
              omega
            · exact q3.2.2.1
            · show 0≤E.p.row+1
              omega
            · show N2.B=D.N.B
              have:=HLt.out.geo.2.1;have q5:=HEB.out;have this:N2.B=E.N.B:=this;omega)
           clear hs hs2 hdv hdf;go_wp2_with fail;go_roundw
           case rel=>exact⟨j,HP.out⟩
           case measure=>have:=HM2.out w4 j HP.out;have:=HJ.out;omega):A:=h
namespace dev
open JT (Nd JS Fr Kn Ko)
open tal (Ty Kb L1)
open tab (Tb JZ LS)
def Dv.Of(E:Dv)(k:Nat)(l:List En):Option (Dv×Int×Int):=
 let sl:=(JV E.p.mask).toNat
 let n:=min l.length sl
 if E.p.next>1099511627775-(n:Int)+1 then some (E,0,11)else
 let e:=LL l E.p.next sl
 let b:={E with p:={E.p with next:=E.p.next+n}}
 let w:=Kl b.N b.p.op b.p.row b.p.mask e
 if w.2.2=1 then some ({b with N:=w.1},0,1)else
 let c:={b with N:=w.1,p:={b.p with row:=b.p.row+1}}
 if w.2.2=0 then some ({c with T:=Ln c.T c.p.op (c.p.row-1) c.p.mask ((e.take n).zipIdx)},n,0)else
 if w.2.2=9 then some (c,0,9)else
 (c.OQ w.2.1).write k l
theorem G2{w e:kr}{base g f b c n:Nat}{T:Tb}(hT:JZ w f b c n T)(hm:g<b∧g<c)(hf:Fr base g w e):JZ e f b c n T:=by
 obtain⟨a1,a2⟩:=dE hT;have hlt:=hT.lt;refine hT.same fun k hk=> ?_;exact ydr
structure StJ (P1 P2:kr→Prop) (i:Nat) (L:Nat→Bool) (w:kr):Prop where
 a:L i=false→P1 w
 b:L i=true→P2 w
theorem StJ.JW{P1 P2:kr→Prop}{i j:Nat}{L:Nat→Bool}{w:kr}(h:StJ P1 P2 i L w)(e:Go.Proofs.YtlkpfnjdbgeifaaGreat.JW L j i=L i):StJ P1 P2 i (Go.Proofs.YtlkpfnjdbgeifaaGreat.JW L j) w:=⟨fun q=>h.a (by rw[←e];exact q),fun q=>h.b (by rw[←e];exact q)⟩
theorem jL{D E:Dv}{l:List En}{k:Nat}(b:l≠ [])(h:(if D.left=true then(D,(0:Int))else D.opens)=(E,0)):D.write (k+1) l=E.Of k l:=by
 unfold Dv.write Dv.Of;rw[if_neg b,h];simp only[ne_eq,not_true_eq_false,if_false]
theorem rZ{D:Dv}{l:List En}{k:Nat}(b:l≠ [])(c:D.left=false)(h:D.opens.2≠0):D.write (k+1) l=some (D.opens.1,0,D.opens.2):=by
 unfold Dv.write;rw[if_neg b,c];simp only[Bool.false_eq_true,if_false];rw[if_pos h]
theorem _root_.Go.Proofs.YtlkpfnjdbgeifaaGreat.RdT.up{d:TypeId→Bool}{w:kr}{C c:Nat}{A:Option Addr}{k n:Nat}{f:List (List jI)}(h:RdT d w C A k n f)(q:C≤c):RdT d w c A k n f:=by
 obtain⟨⟨g,i,j⟩,l⟩:=h
 exact⟨⟨g,i,fun m=>by
  obtain⟨b,o,e,r,p⟩:=j m;exact⟨b,o,e,by omega,p⟩⟩,l⟩
theorem tB(D:Dv)(f:D.Y.B≤65536):D.KO≤65536:=by
 unfold Dv.KO;rcases pick.GW (ord:=pick.LO D.Y) (l:=pick.LJ D.Y D.T D.p.op)with⟨e,-⟩|⟨b,c,e⟩
 · rw[e];decide
 · rw[e]
   unfold pick.LJ pick.KN at c;have:=(kd.1 c).1;rw[hZ]at this;omega
section
variable {w0:kr}{pl:Pl}{m c:Nat}{D:Dv}
theorem fm(h:Kk w0 pl m c D)(l:List En)(hok:∀e∈l,e.ok∧wfI e.l){A:Option Addr}{n cc:Nat}(hl:RdT Kx w0 w0.heap.size A 19 n (ens l))(hn:n≤100000)(k:Nat)(r:Dv×Int×Int)(R:D.write k l=some r)(V:tot D.N+8*k≤100000000000000)(hc:c≤100000000000000)(h0:0≤D.p.next)(h1:D.p.next≤1099511627776)(M:D.p.op≤65536)(aa:0≤D.p.row):
 Calls prog 92 #[pl.pg,.slice A n cc] w0 fun e w'=>e=.returned (.tuple #[r.2.1,r.2.2])∧Kk w' pl m c r.1∧DFr pl.base w0 w':=by
 have ak:l.length=n:=by have:=hl.1.1;rwa [ens,List.length_map]at this
 have HLn:=qZ ak;have HOk:=qZ hok;have HL:=qZ h.lay;have aR:=qZ h.JT.ok.geo;have HBl:=qZ h.QP;have HSb:=qZ (show∀w1 w2,Old Kx w0.heap.size w1 w2→RdT Kx w1 w0.heap.size A 19 n (ens l)→RdT Kx w2 w0.heap.size A 19 n (ens l)from fun _ _ hk b=>b.old hk);have HC:=qZ hc;have hs:=Mp.start (B:=(fun w=>RdT Kx w w0.heap.size A 19 n (ens l))) h hl HSb.out;have Z:∃Φ:kr→Nat→Prop,Φ=fun(wr:kr) (k:Nat)=>∃E:Dv,E.write k l=some r∧tot E.N+8*k≤100000000000000∧E.p.next≤1099511627776∧0≤E.p.next∧E.p.op≤65536∧0≤E.p.row∧(E.Y.D=E.N.D∧E.Y.B=E.N.B∧E.Y.P=E.N.P)∧Wo E.N∧E.N.B=D.N.B∧Mp pl m c E (fun w=>RdT Kx w w0.heap.size A 19 n (ens l)) w0 wr [(pl.pg,E.p.v pl, 192)] []:=⟨_,rfl⟩
 obtain⟨Φ,Z⟩:=Z;obtain⟨μ,al,an⟩:=tQ Φ;have HΦ:=qZ Z
 have ao:Φ w0 k:=by
  rw[Z];exact⟨D,R,V,h1,h0,M,aa,h.same,h.KP,rfl,hs⟩
 have aS:=qZ al;have HM2:=qZ an;have ar:=qZ ao;clear h hok hl ak Z ao al an R V hc;have c0:=hs.cell 0 0 rfl (v:=.pointer (some ⟨pl.g,0,none⟩)) rfl;have c1:=hs.cell 0 1 rfl (v:=.pointer (some ⟨pl.tg,0,none⟩)) rfl;have c2:=hs.cell 0 2 rfl (v:=.pointer (some ⟨pl.lg,0,none⟩)) rfl;go_enter func92, ntmps92;go_wp2_with fail;clear c0 c1 c2;go_loopw [] (fun wr=>∃k,Φ wr k) (fun wr=>μ wr)
 case atStart=>exact⟨k,ar.out⟩
 case round=>
  clear hs ar;have ae:=aS.out wr hrel;clear hrel;obtain⟨j,hj⟩:∃j,μ wr=j:=⟨_,rfl⟩;rw[hj]at ae;rw[HΦ.out]at ae;obtain⟨E,R,V,au,aw,M,aa,ay,az,aA,hs⟩:=ae;have HJ:=qZ hj;clear hj;cases j with
  |zero=>cases R
  |succ j=>
  have S:=qZ R;have HT:=qZ V;have HNx:=qZ (show E.p.next≤1099511627776∧0≤E.p.next∧E.p.op≤65536∧0≤E.p.row from⟨au,aw,M,aa⟩);have HSm:=qZ ay;have HWo:=qZ az;have HEB:=qZ aA;clear R V au aw M aa ay az aA;by_cases aB:n=0
  · subst aB
    have aC:l=[]:=List.length_eq_zero_iff.1 HLn.out;have HR:=qZ (show r=(E,0,0) by have:=S.out;rw[aC]at this;exact(Option.some.inj this).symm);clear aC;go_wp2_with fail;go_ret2;rw[HR.out];exact⟨rfl,Mp.out (E:=E) hs HL.out rfl rfl rfl HSm.out HWo.out⟩
  · have aT:(0:Int)<(n:Int):=by omega
    have ag:=qZ (show l≠ [] by intro e;have:=HLn.out;rw[e]at this;exact aB this.symm);obtain⟨hdev,hdf⟩:=Mp.out (E:=E) hs HL.out rfl rfl rfl HSm.out HWo.out;have aD:=qZ hdf;have ab:=qZ (dI hdev);have ah:=qZ (fun W (hW:Below wr.heap.size wr W)=>yS (hdev.below hW));clear hdev hdf;cases H:E.left with
    |true=>
     have HB:=qZ (show E.Of j l=some r by rw[←jL ag.out (by rw[H];rfl)];exact S.out);have HOpn:=qZ (show 0≤E.p.op by unfold Dv.left at H;simp only[ed,decide_eq_true_eq]at H;exact H.1);have HRw:=qZ (show E.p.row≤1000000 by unfold Dv.left at H;simp only[ed,decide_eq_true_eq]at H;have:=H.2.1;have:=hs.a.JT.ok.geo;omega);have O:=ab.out;rw[H]at O;clear H ab ah S;go_wp2_with fail;refine O.mono ?_;rintro e w1 ⟨rfl,hb⟩;replace hs:=hs.below hb;clear hb O;exact yaa
    |false=>
     obtain⟨f,rfl⟩:∃x,x=E:=⟨E,rfl⟩;have O:=ab.out;rw[H]at O;go_wp2_with fail;refine O.mono ?_;rintro e w1 ⟨rfl,hb⟩;have HRd:=qZ ((hs.below hb).b);have aF:=qZ hb;have M:=ah.out w1 hb;have ai:=qZ H;clear O ab ah hb H;go_wp2_with fail;refine M.mono ?_;clear M;rintro e w2 ⟨rfl,hdv,hdf⟩;have HDf2:=qZ (aD.out.trans ((DFr.KZ aF.out).trans hdf));have aj:=Mp.of (w0:=w0) (B:=(fun w=>RdT Kx w w0.heap.size A 19 n (ens l))) hdv HDf2.out HBl.out (HRd.out.old (na hdf)) HSb.out;by_cases I:f.opens.2=0
     · obtain⟨E,ad⟩:∃x,x=f.opens.1:=⟨_,rfl⟩
       have aG:¬f.KO<0:=fun q=>by unfold Dv.opens at I;rw[if_pos q]at I;cases I
       have U:E={f with Y:=f.Y.clean f.KO false,p:={f.p with op:=f.KO,row:=0,mask:=((f.Y.clean f.KO false).mask f.KO:Int)}}:=by rw[ad];unfold Dv.opens;rw[if_neg aG]
       have aH:(if f.left=true then(f,(0:Int))else f.opens)=(E,0):=by
        rw[ai.out,if_neg (by simp),ad,←I]
       have HB:=qZ (show E.Of j l=some r by rw[←jL ag.out aH];exact S.out);rw[←ad]at aj hdv;have aJ:=tB f (by have:=HSm.out.2.1;have:=HEB.out;have:=aR.out;omega);have aK:=qZ (show tot E.N+8*(j+1)≤100000000000000 by rw[U];exact HT.out);have aL:=qZ (show E.p.next≤1099511627776∧0≤E.p.next∧E.p.op≤65536∧0≤E.p.row by rw[U];exact⟨HNx.out.1,HNx.out.2.1,aJ,nr _⟩);have aM:=qZ hdv.same;have aN:=qZ (show Wo E.N from hdv.KP);have aQ:=qZ (show E.N.B=D.N.B by rw[U];exact HEB.out);have HOpn:=qZ (show 0≤E.p.op by rw[U];show 0≤f.KO;omega);have HRw:=qZ (show E.p.row≤1000000 by rw[U];show(0:Int)≤1000000;decide);rw[I];clear hs hdv hdf U aH aG aJ ad HT HNx HSm HWo HEB S HRd ai aF aD HDf2 I;have HT:=aK;have HNx:=aL;have HSm:=aM;have HWo:=aN;have HEB:=aQ;have hs:=aj;clear aj aK aL aM aN aQ;exact yaa
     · have aU:(f.opens.2 !=0)=true:=by simpa using I
       have HR:=qZ (show r=(f.opens.1,0,f.opens.2) by have:=S.out;rw[rZ ag.out ai.out I]at this;exact(Option.some.inj this).symm);go_wp2_with fail;go_ret2;rw[HR.out];exact⟨rfl,hdv,HDf2.out⟩
end
open JT (Nd Blk)
open tal (Ty)
open tab (Tb At6)
def Tw(T:Tb):Prop:=∀p∈T.f,wfI p.2.r∧wfI p.2.s
structure Pw (D:Dv):Prop where
 n0:0≤D.p.next
 n1:D.p.next≤1099511627776
 op:D.p.op≤65536
 row:0≤D.p.row
 tw:Tw D.T
 yb:D.Y.B≤65536
 np:D.N.P≤65536
theorem AI{T:Tb}(h:Tw T){l s r b row slot m:Int}(e:wfI row)(f:wfI slot):Tw (T.MH l s r b row slot m):=by
 unfold Tb.MH;split
 · intro p c
   rcases List.mem_cons.1 c with rfl|c
   · simp_all
   · exact h p (tab.ot.1 c).1
 omega
theorem xf(b r m:Int)(c:wfI r):∀(l:List (En×Nat)) (T:Tb),Tw T→(∀x∈l,x.2≤65536)→Tw (Ln T b r m l)
 |[],T,h,_=>h
 |x::l,T,h,e=>xf b r m c l _ (AI h c (by
  have:=e x (by simp);exact bw (by omega) (by omega))) fun y f=>e y (by simp[f])
theorem sZ{D:Dv}(h:Pw D):Pw D.opens.1:=by
 have b:=tB D h.yb;unfold Dv.opens;split
 · exact h
 · exact⟨h.n0,h.n1,b,nr _,h.tw,by rw[show({D with Y:=D.Y.clean D.KO false,p:={D.p with op:=D.KO,row:=0,mask:=((D.Y.clean D.KO false).mask D.KO:Int)}}:Dv).Y.B=D.Y.B from(cD _ _ _).2.1];exact h.yb,h.np⟩
theorem ta{D:Dv}(h:Pw D)(d:Int):Pw (D.OQ d):=
 ⟨h.n0,h.n1,h.op,h.row,h.tw,by rw[(gV D d).y.2.1];exact h.yb,h.np⟩
theorem yR{D:Dv}(h:D.opens.2=0):D.opens.1.p.row=0:=by
 unfold Dv.opens at h⊢;grind
theorem sW:∀(k:Nat) (D:Dv) (l:List En) (r:Dv×Int×Int),D.write k l=some r→Pw D→Pw r.1
 |0,D,l,r,h,_=>by cases h
 |k+1,D,l,r,h,e=>by
  unfold Dv.write at h;by_cases t:l=[]
  · grind
  rw[if_neg t]at h
  have b:Pw (if D.left=true then(D,(0:Int))else D.opens).1∧((if D.left=true then(D,(0:Int))else D.opens).2=0→(if D.left=true then(D,(0:Int))else D.opens).1.p.row≤65536):=by
   cases g:D.left with
   |true=>
    rw[if_pos rfl];refine⟨e,fun _=> ?_⟩;unfold Dv.left at g;simp only[ed,decide_eq_true_eq]at g;have:=e.np;grind
   |false=>
    rw[if_neg (by simp)];exact⟨sZ e,fun q=>by rw[yR q];decide⟩
  dsimp only at h;generalize (if D.left=true then(D,(0:Int))else D.opens)=o at h b;obtain⟨b,i⟩:=b;by_cases j:o.2≠0
  · grind
  rw[if_neg j]at h;have i:=i (ek j);have B:=nB o.1.p.mask;have f:=ou o.1.N o.1.p.op o.1.p.row o.1.p.mask (LL l o.1.p.next (JV o.1.p.mask).toNat);have u:(LL l o.1.p.next (JV o.1.p.mask).toNat).length=(JV o.1.p.mask).toNat:=by simp[LL]
  by_cases z:o.1.p.next>1099511627775-((min l.length (JV o.1.p.mask).toNat:Nat):Int)+1
  · grind
  rw[if_neg z]at h;generalize LL l o.1.p.next (JV o.1.p.mask).toNat=A at h f u;generalize Kl o.1.N o.1.p.op o.1.p.row o.1.p.mask A=w at h f;have C:=b.n0;have E:=b.row;have c:w.1.P≤65536:=by rw[f.geo.2.2];exact b.np
  by_cases m:w.2.2=1
  · rw[if_pos m]at h
    cases h
    exact⟨by grind,by grind,b.op,b.row,b.tw,b.yb,c⟩
  rw[if_neg m]at h;by_cases n:w.2.2=0
  · rw[if_pos n]at h
    cases h
    refine⟨by grind,by grind,b.op,by grind,xf _ _ _ ?_ _ _ b.tw fun x G=> ?_,b.yb,c⟩
    · exact bw (by omega) (by omega)
    grind
  rw[if_neg n]at h;by_cases p:w.2.2=9
  · rw[if_pos p]at h
    cases h
    exact⟨by grind,by grind,b.op,by grind,b.tw,b.yb,c⟩
  rw[if_neg p]at h;refine sW k _ _ _ h (ta ?_ _);exact⟨by grind,by grind,b.op,by grind,b.tw,b.yb,c⟩
theorem dw{D:Dv}(h:Pw D)(l:List En):Pw (D.Kf l).1:=by
 unfold Dv.Kf Dv.tries;cases b:D.write 200 l with
 |none=>exact h
 |some r=>exact sW 200 D l r b h
theorem tc{D:Dv}(h:Pw D)(b:Nat):Pw (D.erase b).1:=by
 have c:=kD D b;have e1:(D.erase b).1.p=D.p:=by unfold Dv.erase;dsimp only;grind
 have e2:(D.erase b).1.T=D.T:=by unfold Dv.erase;dsimp only;grind
 exact⟨by rw[e1];exact h.n0,by rw[e1];exact h.n1,by rw[e1];exact h.op,by rw[e1];exact h.row,by rw[e2];exact h.tw,by rw[c.y.2.1];exact h.yb,by rw[c.n.geo.2.2];exact h.np⟩
theorem lU:∀(l:List Nat) (D:Dv),Pw D→Pw (D.LF l).1
 |[],D,h=>h
 |b::l,D,h=>by
  unfold Dv.LF;split
  · exact tc h b
  · exact lU l _ (tc h b)
theorem fq{D:Dv}(h:Pw D):Pw D.clear.1:=lU _ D h
theorem ft:∀(k:Nat) (D:Dv) (l:List Nat) (n:Int),Pw D→Pw (D.LU k l n).1
 |0,D,l,n,h=>h
 |k+1,D,l,n,h=>by
  unfold Dv.LU;split
  · exact h
  · dsimp only
    split
    · exact h
    · have b:=dw h (LV D.N D.T (l.take (max D.Ld 1).toNat)).1
      split
      · exact b
      · exact ft k _ _ _ b
theorem sY:∀(k:Nat) (D:Dv),Pw D→Pw (D.MO k).1
 |0,D,h=>h
 |k+1,D,h=>by
  unfold Dv.MO;split
  · exact h
  · split
    · exact h
    · have b:Pw (D.carry D.Lr.toNat (tab.Kw D.T.f D.Lr)).1:=ft _ _ _ _ h
      dsimp only;split
      · exact b
      · have c:=fq b
        split
        · exact c
        · exact sY k _ c
theorem eR{D:Dv}(h:Pw D):Pw D.room.1:=by
 have b:=fq h;unfold Dv.room;split
 · exact b
 · exact sY _ _ b
open JT (Nd Blk)
open tal (Ty Sb ML)
open tab (Tb At6)
theorem Ig:∀M:Fin 256,∀d:Fin 8,Ky (KW (M.val:Int) (d.val:Int))≤Ky (M.val:Int)∧(hasB (M.val:Int) (d.val:Int)=true→Ky (KW (M.val:Int) (d.val:Int))<Ky (M.val:Int))∧0≤KW (M.val:Int) (d.val:Int)∧KW (M.val:Int) (d.val:Int)<256:=by decide+kernel
theorem CD:∀M:Fin 256,∀d e:Fin 8,hasB (KW (M.val:Int) (d.val:Int)) (e.val:Int)=(hasB (M.val:Int) (e.val:Int)&& !(e==d)):=by decide+kernel
theorem Hj:∀M:Fin 256,∀d e:Fin 8,hasB (Mz (M.val:Int) (d.val:Int)) (e.val:Int)=(hasB (M.val:Int) (e.val:Int) ||(e==d)):=by decide+kernel
theorem GR:∀M:Fin 256,M.val≠0→∃d:Fin 8,hasB (M.val:Int) (d.val:Int)=true:=by decide+kernel
theorem qj{m dies:Int}(b:0≤m∧m<256):∀k,k≤8→(0≤Mh dies k m∧Mh dies k m<256)∧Ky (Mh dies k m)≤Ky m∧(∀d:Nat,k≤d→d<8→hasB (Mh dies k m) (d:Int)=hasB m (d:Int))∧(∀d:Nat,d<8→hasB (Mh dies k m) (d:Int)=true→hasB m (d:Int)=true)∧∀d:Nat,d<k→hasB dies (d:Int)=true→hasB m (d:Int)=true→Ky (Mh dies k m)<Ky m
 |0,_=>⟨b,nr _,fun _ _ _=>rfl,fun _ _ h=>h,fun d h=>by omega⟩
 |k+1,n=>by
  obtain⟨c,e,f,g,i⟩:=qj b k (by omega);rw[gN];obtain⟨M,j⟩:=eX c.1;rw[j]at c e f i g⊢;obtain⟨c1,c2,c3,c4⟩:=Ig ⟨M,by omega⟩ ⟨k,by omega⟩;simp only at c1 c2 c3 c4;cases o:hasB dies (k:Int)with
  |false=>
   grind
  |true=>
   rw[if_pos rfl];refine⟨⟨c3,c4⟩,by omega,fun d h l=> ?_,fun d h q=> ?_,fun d h p r=> ?_⟩
   · have:=CD ⟨M,by omega⟩ ⟨k,by omega⟩ ⟨d,l⟩
     grind
   · have:=CD ⟨M,by omega⟩ ⟨k,by omega⟩ ⟨d,h⟩
     simp_all
   grind
theorem iY(b r:Int):∀(L:List (Int×List Nat)) (N:Nd) (f:Int),(∀x∈L,0≤x.1∧x.1<8)→0≤f∧f<256→(0≤(Me b r N f L).2.1∧(Me b r N f L).2.1<256)∧(∀d:Nat,d<8→hasB (Me b r N f L).2.1 (d:Int)=true→hasB f (d:Int)=true∨∃x∈L,x.1=(d:Int))∧((Me b r N f L).2.2=0∨(Me b r N f L).2.2=9∨((Me b r N f L).2.2=7∧(Me b r N f L).2.1≠0))
 |[],N,f,_,c=>by
  unfold Me;grind
 |x::L,N,f,g,c=>by
  have i:∀y∈L,0≤y.1∧y.1<8:=fun y j=>g y (by simp[j])
  rw[bY];split
  · obtain⟨k,l,m⟩:=iY b r L (N.Kq ⟨x.1,b,r⟩ x.2) f i c
    grind
  · split
    · simp_all
    · have n:=g x (by simp)
      obtain⟨u,p⟩:=wZ c n;obtain⟨k,l,m⟩:=iY b r L (N.Kq ⟨x.1,b,r⟩ x.2) (Mz f x.1) i p;refine⟨k,fun d o h=> ?_,m⟩;rcases l d o h with q|⟨y,j,e⟩
      · obtain⟨F,rfl⟩:=eX c.1
        obtain⟨X,t⟩:=eX n.1;rw[t]at q;have:=Hj ⟨F,by omega⟩ ⟨X,by omega⟩ ⟨d,o⟩;grind
      grind
theorem Bj{N:Nd}{b r m:Int}{l:List En}(g:0≤b)(i:0≤r)(j:(Kl N b r m l).2.2≠1)(f:(Kl N b r m l).2.2≠0)(k:(Kl N b r m l).2.2≠9):∃d:Nat,d<8∧hasB (Kl N b r m l).2.1 (d:Int)=true∧hasB m (d:Int)=true:=by
 unfold Kl at f j k⊢;by_cases hp:No l b r m=true
 · rw[if_pos hp]at f j k⊢
   have u:(l.length:Int)=JV m∧l.length≠0:=by
    exact yes
   have n:0≤m∧m<256:=dQ (m:=m) (by
    intro e;have:=u.1;unfold JV at this;omega)
   have w:∀x∈Ls b r m l,(0≤x.1∧x.1<8)∧hasB m x.1=true:=fun x c=>by
    have f:=bX (s:=0) n g i (by omega);unfold Ls at c;rcases List.mem_append.1 c with c|c
    · obtain⟨y,B,rfl⟩:=jw.1 c
      have H:=(List.getElem?_eq_some_iff.1 (List.mem_zipIdx_iff_getElem?.1 B)).1;obtain⟨d0,d1,d2,-⟩:=bX (s:=y.2) n g i (by omega);simp_all
    simp_all
   obtain⟨o,p,C⟩:=iY b r (Ls b r m l) N 0 (fun x c=>(w x c).1) (by decide);rcases C with q|q|⟨q,t⟩
   · omega
   · omega
   · obtain⟨F,D⟩:=eX o.1
     rw[D]at t o p⊢;obtain⟨d,E⟩:=GR ⟨F,by omega⟩ (fun q=>t (by simp_all));rcases p d.val d.isLt E with z|⟨x,c,e⟩
     · have:hasB 0 (d.val:Int)=false:=by
        have G:∀e:Fin 8,hasB 0 (e.val:Int)=false:=by decide+kernel
        exact G d
       simp_all
     grind
 simp_all
def Mk(D:Dv):Prop:=(∀d:Nat,d<8→hasB D.p.mask (d:Int)=true→d<D.N.D)∧D.Y.D=D.N.D
theorem zz{Y:Ty}{b:Int}{d:Nat}(h:hasB (Y.mask b:Int) (d:Int)=true):d<Y.D:=by
 unfold hasB at h;simp only[ed]at h;have c:=h.2;rw[gg,gg]at c;unfold Ty.mask at c;split at c
 · rename_i s e
   unfold Ty.alive ML at c;simp_all
 simp_all
theorem tH{D:Dv}(h:Mk D):Mk D.opens.1:=by
 unfold Dv.opens;split
 · exact h
 · have c:(D.Y.clean D.KO false).D=D.Y.D:=(cD _ _ _).1
   refine⟨fun d e q=> ?_,c.trans h.2⟩;have:=zz (Y:=D.Y.clean D.KO false) (b:=D.KO) q;rw[c,h.2]at this;omega
theorem my{b:Type}{p:b→Bool}{f:b→b}(h:∀a,p (f a)=p a):∀(l:List b) (n:Nat),((l.modify n f).filter p).length=(l.filter p).length
 |[],n=>by simp
 |a::l,0=>by
  grind
 |a::l,n+1=>by
  have c:=my h l n;grind
theorem qv{b:Type}{p:b→Bool}{f:b→b}:∀(l:List b) (n:Nat) (a:b),l[n]? =some a→p a=true→p (f a)=false→((l.modify n f).filter p).length+1=(l.filter p).length
 |[],n,a,h,_,_=>by grind
 |x::l,0,a,h,c,e=>by
  simp_all
 |x::l,n+1,a,h,c,e=>by
  have g:=qv (p:=p) (f:=f) l n a (by simp_all) c e;grind
def L5(Y:Ty):Nat:=(Y.sb.filter fun s=> !s.used).length
theorem wN(Y:Ty)(b:Int){f:Sb→Sb}(h:∀s,(f s).used=s.used):L5 (Y.upd b f)=L5 Y:=by
 unfold L5 Ty.upd;split
 · exact my (fun s=>by rw[h s]) _ _
 · rfl
theorem rN(N:Nd)(c dies:Int)(k:Nat)(Y:Ty):L5 (M6 N c dies k Y)=L5 Y:=by
 induction k with
 |zero=>rfl
 |succ k b=>
  rw[mq];split
  · split
    · unfold Ty.Mu
      split
      · exact b
      omega
    · unfold Ty.Ov
      split
      · exact(wN _ _ (f:=fun s=>{s with bad:=tal.orN s.bad (k:Int)}) (fun _=>rfl)).trans b
      omega
  omega
theorem rJ{D:Dv}(h:D.opens.2=0):L5 D.opens.1.Y+1=L5 D.Y:=by
 unfold Dv.opens at h⊢;split at h
 · cases h
 · rename_i q
   rw[if_neg q];rcases pick.GW (ord:=pick.LO D.Y) (l:=pick.LJ D.Y D.T D.p.op)with⟨e,-⟩|⟨b,i,e⟩
   · have e:D.KO= -1:=e
     omega
   · have e:D.KO=(b:Int):=e
     rw[e];unfold pick.LJ pick.KN at i;have g:=(kd.1 i).2;unfold pick.NM at g;simp only[ed]at g;have c:=g.2.1.2;unfold Ty.blank Ty.get at c;rw[if_pos (by omega),gg]at c;cases j:D.Y.sb[b]? with
     |none=>simp_all
     |some s=>
      rw[j]at c;show L5 (D.Y.clean (b:Int) false)+1=_;unfold L5 Ty.clean Ty.upd;rw[if_pos (by omega),gg];exact qv (p:=fun s:Sb=> !s.used) (f:=fun s=>{s with used:= !false}) _ b s j c rfl
theorem aux1{a:Int}{n:Nat}(h:0≤a):0≤a+(n:Int):=by omega
theorem aux2{a:Int}{n:Nat}(h:¬a>1099511627775-(n:Int)+1):a+(n:Int)≤1099511627776:=by omega
theorem aux4{a:Int}(h:0≤a):0≤a+1:=by omega
theorem nk:∀(k:Nat) (D:Dv) (l:List En),Mk D→Pw D→3≤D.N.D∧D.N.D≤8→9*L5 D.Y+(Ky D.p.mask).toNat<k→D.write k l≠none
 |0,D,l,_,_,_,h=>by omega
 |k+1,D,l,z,A,o,h=>by
  by_cases i:l=[]
  · unfold Dv.write
    simp_all
  have B:∀E:Dv,Mk E→Pw E→E.N=D.N→0≤E.p.op→9*L5 E.Y+(Ky E.p.mask).toNat≤k+(if L5 E.Y=L5 D.Y then 0 else 0)→E.Of k l≠none:=by
   intro E j c p t C;rw[show(if L5 E.Y=L5 D.Y then 0 else 0)=0 by simp,Nat.add_zero]at C;unfold Dv.Of;dsimp only;split
   · simp
   · have f:=ou E.N E.p.op E.p.row E.p.mask (LL l E.p.next (JV E.p.mask).toNat)
     have G:=Bj (N:=E.N) (b:=E.p.op) (r:=E.p.row) (m:=E.p.mask) (l:=LL l E.p.next (JV E.p.mask).toNat) t c.row;have H:=c.n0;have I:=c.row;rename_i J;generalize Kl E.N E.p.op E.p.row E.p.mask (LL l E.p.next (JV E.p.mask).toNat)=w at*;split
     · simp
     · rename_i K
       split
       · simp
       · rename_i L
         split
         · simp
         · rename_i M
           obtain⟨d,d1,d2,d3⟩:=G K L M;have U:=j.1 d d1 d3
           have O:0≤E.p.mask∧E.p.mask<256:=by
            unfold hasB Mq at d3;simp only[ed,decide_eq_true_eq]at d3;exact⟨d3.1.1.1,d3.1.1.2⟩
           have Q:w.1.D≤8:=by rw[f.geo.1,p];exact o.2
           obtain⟨V,W,X,R,S⟩:=qj (dies:=w.2.1) O w.1.D Q;have T:=S d (by rw[f.geo.1];omega) d2 d3;have Y:=(aI E.p.mask).1;have Z:=(aI (Mh w.2.1 w.1.D E.p.mask)).1;refine nk k _ l ⟨fun e u q=> ?_,?_⟩ (ta ?_ _) ?_ ?_
           · show e<w.1.D
             rw[f.geo.1];exact j.1 e u (R e u q)
           · exact(gV {E with N:=w.1} w.2.1).y.1.trans (j.2.trans f.geo.1.symm)
           · exact⟨aux1 H,aux2 J,c.op,aux4 I,c.tw,c.yb,by show w.1.P≤65536;rw[f.geo.2.2];exact c.np⟩
           · show 3≤w.1.D∧w.1.D≤8
             rw[f.geo.1,p];exact o
           · show 9*L5 (M6 w.1 E.p.op w.2.1 w.1.D E.Y)+(Ky (Mh w.2.1 w.1.D E.p.mask)).toNat<k
             rw[rN];grind
  cases g:D.left with
  |true=>
   have t:0≤D.p.op:=by
    unfold Dv.left at g;simp only[ed,decide_eq_true_eq]at g;exact g.1
   rw[jL (E:=D) i (by simp_all)];grind
  |false=>
   by_cases n:D.opens.2=0
   · rw[jL (E:=D.opens.1) i (by grind)]
     have hb:=rJ n;have T:=(aI D.opens.1.p.mask);refine B D.opens.1 (tH z) (sZ A) ?_ ?_ ?_
     · unfold Dv.opens;grind
     · unfold Dv.opens at n⊢
       grind
     omega
   · rw[rZ i g n];simp
end dev
theorem yax{A:Prop}(h:A:=by
 go_wp2_with (first|(refine ac rfl 90 _ rfl _ rfl _ (Ch (j:Int)) ?_)|(refine ma ?_;try (clear hs;intro w hs)));change bodyPost _ _ _ _ _ _;exact bodyPost_ret (hs.Nn 2 rfl rfl _ rfl underlying90 rfl aV rfl) rfl ⟨by rw[HR.out];rfl,hs.out⟩):A:=h
namespace dev
open JT (Nd JS)
open tab (Tb JZ At6)
theorem wX:(prog.info? 96).map (·.zero)=some (some (.agg At6.zero.v.toArray)):=by kernel_rfl
instance:TI prog 96 true (.agg At6.zero.v.toArray) 6 48:=⟨by kernel_rfl,by kernel_rfl⟩
theorem Ch(l:Int): prog.built 90 [(0,.int .i64 l),(2,.int .i64 4)]=some (En.v ⟨l,0,4,an⟩).toArray:=by kernel_rfl
theorem qV{N:Nd}(h:N.ok)(b r s m:Int):(Km N b r s m).1.ok:=by
 have c:zE.ok:=aM
 have f:(Lf N b r m).par.ok∧∀x∈(Lf N b r m).sl,x.1.ok:=⟨gJ h b r m _,fun y g=>by
  obtain⟨z,-,rfl⟩:=jw.1 g;exact gJ h b r m _⟩
 unfold Km;split
 · exact c
 · split
   · exact c
   · split
     · rename_i x i
       exact f.2 _ (hG i)
     · split
       · rename_i e j
         exact mT _ f.1 f.2 j
       · exact c
section
variable {w0:kr}{base g m lg mb cb n:Nat}{N:Nd}{T:Tb}
theorem yz(h:JS w0 base g m N)(p:JZ w0 lg mb cb n T)(B:Tw T)(j:Nat)(hj:j≤65536):Calls prog 184 #[.pointer (some ⟨g,0,none⟩),.pointer (some ⟨lg,0,none⟩),.int .i64 (j:Int)] w0 fun e R=>e=.returned (.tuple #[.agg (reads N T j).1.v.toArray,.int .i64 (reads N T j).2])∧Below w0.heap.size w0 R:=by
 have H:=qZ h;have aa:=qZ p;obtain⟨a,r⟩:∃a,a=At6.of (tab.Kh T.f (j:Int)):=⟨_,rfl⟩
 have t:wfI a.b∧wfI a.r∧wfI a.s:=by
  rw[r];cases S:tab.Kh T.f (j:Int)with
  |none=>exact⟨bw (by decide) (by decide),bw (by decide) (by decide),bw (by decide) (by decide)⟩
  |some x=>
   have D:=tab.xT S;exact⟨p.ok.bwf _ D,(B _ D).1,(B _ D).2⟩
 obtain⟨x,z⟩:∃x,x=Km N a.b a.r a.s a.m:=⟨_,rfl⟩;have E:x.1.ok:=by rw[z];exact qV h.ok _ _ _ _
 have P:reads N T j=if x.2=9 then(zE,9)else if x.2≠0∨x.1.l≠(j:Int)∨x.1.s≠a.q then(⟨(j:Int),0,4,an⟩,0)else(x.1,0):=by
  unfold reads;rw[←r];dsimp only;rw[←z]
 have I:=qZ (fun W (J:Below w0.heap.size w0 W)=>dH (h.below J) a.b a.r a.s a.m t.1 t.2.1 t.2.2);rw[←z]at I;have L:=qZ (fun W (J:Below w0.heap.size w0 W)=>tab.Fy (p.below J) (j:Int) (bw (by omega) (by omega)));rw[←r]at L;have M:=qZ P;have ab:=qZ E;have U:=qZ (show x.1.v.length=19 from ax E.1 _ _ _);have hs:=Mr.start w0;clear h p B r t z E P;obtain⟨en,f⟩:=x;go_enter func184, ntmps184;go_wp2_with (refine ma ?_;try (clear hs;intro w hs));refine(L.out _ hs.out).mono ?_;rintro e w1 ⟨rfl,i⟩;replace hs:=hs.below i;clear i L;go_wp2_with (first|(refine az hs 96 rfl rfl _ At6.zero.v wX rfl rfl ?_;clear hs;intro w hs)|(refine aJ hs 96 rfl rfl rfl rfl xj rfl rfl (tab.nZ a) ?_;clear hs;intro w hs)|(refine bS 0 0 (c1:=[]) (c2:=[.int .i64 a.b,.int .i64 a.r,.int .i64 a.s]) (c3:=[.int .i64 a.m,.int .i64 a.q,.int .i64 a.o]) hs rfl rfl 94 rfl rfl rfl underlying94 rfl nD rfl ?_)|(refine aK 0 hs rfl 3 rfl rfl rfl underlying3 rfl rfl ?_));refine(I.out _ hs.out).mono ?_;rintro e w2 ⟨rfl,i⟩;replace hs:=hs.below i;clear i I;by_cases k:f=9
 · have HR:=qZ (show reads N T j=(zE,9) by rw[M.out,if_pos k])
   subst k;go_wp2_with (first|(refine ma ?_;try (clear hs;intro w hs))|(refine ac rfl 90 _ rfl _ rfl _ gw ?_));change bodyPost _ _ _ _ _ _;exact o4 (hs.Nn 2 rfl rfl _ rfl underlying90 rfl aV rfl) rfl ⟨by rw[HR.out];rfl,hs.out⟩
 · have ad:(f==9)=false:=by simpa using k
   by_cases b:f≠0∨en.l≠(j:Int)∨en.s≠a.q
   · have HR:=qZ (show reads N T j=(⟨(j:Int),0,4,an⟩,0) by rw[M.out,if_neg k,if_pos b])
     go_upto_region 3 with(refine ma ?_;try (clear hs;intro w hs))
     have V:=hs.cell 0 0 rfl (v:=.int .i64 en.l) rfl;have X:=hs.cell 0 1 rfl (v:=.int .i64 en.s) rfl;have Y:=hs.cell 1 4 rfl (v:=.int .i64 a.q) rfl;by_cases z0:f=0
     · subst z0
       by_cases o:en.l=(j:Int)
       · have O:en.s≠a.q:=by
          rcases b with q|q|q
          · exact absurd rfl q
          · exact absurd o q
          · exact q
         have Q:(en.l !=(j:Int))=false:=by simpa using o
         have Z:(en.s !=a.q)=true:=by simpa using O
         exact yax
       · have Q:(en.l !=(j:Int))=true:=by simpa using o
         exact yax
     · have ae:(f !=0)=true:=by simpa using z0
       exact yax
   · have HR:=qZ (show reads N T j=(en,0) by rw[M.out,if_neg k,if_neg b])
     have z0:f=0:=ek fun q=>b (.inl q)
     have o:en.l=(j:Int):=ek fun q=>b (.inr (.inl q))
     have O:en.s=a.q:=ek fun q=>b (.inr (.inr q))
     subst z0;have Q:(en.l !=(j:Int))=false:=by simpa using o
     have Z:(en.s !=a.q)=false:=by simpa using O
     clear b;go_upto_region 3 with(refine ma ?_;try (clear hs;intro w hs))
     have V:=hs.cell 0 0 rfl (v:=.int .i64 en.l) rfl;have X:=hs.cell 0 1 rfl (v:=.int .i64 en.s) rfl;have Y:=hs.cell 1 4 rfl (v:=.int .i64 a.q) rfl;go_wp2_with (refine ma ?_;try (clear hs;intro w hs));change bodyPost _ _ _ _ _ _;exact o4 (hs.Nn 2 rfl rfl _ rfl underlying90 rfl aV U.out) rfl ⟨by rw[HR.out];rfl,hs.out⟩
end
open JT (Nd Blk)
open tal (Ty Sb)
open tab (Tb At6)
theorem sr(m e d:Int)(h:hasB (KW m e) d=true):hasB m d=true:=by
 unfold KW at h;split at h
 · rename_i b
   unfold hasB at h⊢;simp_all
 · unfold hasB at h
   grind
theorem jl(dies m d:Int):∀k,hasB (Mh dies k m) d=true→hasB m d=true
 |0,h=>h
 |k+1,h=>by
  rw[gN]at h;split at h
  · exact jl dies m d k (sr _ _ _ h)
  · exact jl dies m d k h
theorem Gm{D E:Dv}{k:Nat}(h:Mk D)(b:Dl D E k)(e:E.p.mask=D.p.mask):Mk E:=
 ⟨fun d c q=>by rw[b.n.geo.1];exact h.1 d c (by simp_all),b.y.1.trans (h.2.trans b.n.geo.1.symm)⟩
theorem BZ{D:Dv}(h:Mk D)(dies:Int):Mk (D.OQ dies):=
 ⟨fun d b q=>h.1 d b (jl _ _ _ _ q),(gV D dies).y.1.trans h.2⟩
theorem tE:∀(k:Nat) (D:Dv) (l:List En) (r:Dv×Int×Int),D.write k l=some r→Mk D→Mk r.1
 |0,D,l,r,h,_=>by cases h
 |k+1,D,l,r,h,g=>by
  unfold Dv.write at h;by_cases p:l=[]
  · grind
  rw[if_neg p]at h
  have e:Mk (if D.left=true then(D,(0:Int))else D.opens).1:=by
   split
   · exact g
   · exact tH g
  dsimp only at h;generalize (if D.left=true then(D,(0:Int))else D.opens)=o at h e;by_cases t:o.2≠0
  · grind
  rw[if_neg t]at h;have f:=ou o.1.N o.1.p.op o.1.p.row o.1.p.mask (LL l o.1.p.next (JV o.1.p.mask).toNat);by_cases u:o.1.p.next>1099511627775-((min l.length (JV o.1.p.mask).toNat:Nat):Int)+1
  · grind
  rw[if_neg u]at h;generalize LL l o.1.p.next (JV o.1.p.mask).toNat=z at h f;generalize Kl o.1.N o.1.p.op o.1.p.row o.1.p.mask z=w at h f;have i:=f.geo.1;have b:∀d:Nat,d<8→hasB o.1.p.mask (d:Int)=true→d<w.1.D:=fun d A q=>by rw[i];exact e.1 d A q
  have c:=e.2.trans i.symm;by_cases j:w.2.2=1
  · rw[if_pos j]at h
    cases h
    exact⟨b,c⟩
  rw[if_neg j]at h;by_cases m:w.2.2=0
  · rw[if_pos m]at h
    cases h
    exact⟨b,c⟩
  rw[if_neg m]at h;by_cases n:w.2.2=9
  · rw[if_pos n]at h
    cases h
    exact⟨b,c⟩
  rw[if_neg n]at h;refine tE k _ _ _ h (BZ ?_ _);exact⟨b,c⟩
theorem dx{D:Dv}(h:Mk D)(l:List En):Mk (D.Kf l).1:=by
 unfold Dv.Kf Dv.tries;cases b:D.write 200 l with
 |none=>exact h
 |some r=>exact tE 200 D l r b h
theorem tI{D:Dv}(h:Mk D)(b:Nat):Mk (D.erase b).1:=Gm h (kD D b) (by unfold Dv.erase;grind)
theorem mp:∀(l:List Nat) (D:Dv),Mk D→Mk (D.LF l).1
 |[],D,h=>h
 |b::l,D,h=>by
  unfold Dv.LF;split
  · exact tI h b
  · exact mp l _ (tI h b)
theorem fy{D:Dv}(h:Mk D):Mk D.clear.1:=mp _ D h
theorem fz:∀(k:Nat) (D:Dv) (l:List Nat) (n:Int),Mk D→Mk (D.LU k l n).1
 |0,D,l,n,h=>h
 |k+1,D,l,n,h=>by
  unfold Dv.LU;split
  · exact h
  · dsimp only
    split
    · exact h
    · have b:=dx h (LV D.N D.T (l.take (max D.Ld 1).toNat)).1
      split
      · exact b
      · exact fz k _ _ _ b
theorem tG:∀(k:Nat) (D:Dv),Mk D→Mk (D.MO k).1
 |0,D,h=>h
 |k+1,D,h=>by
  unfold Dv.MO;split
  · exact h
  · split
    · exact h
    · have b:Mk (D.carry D.Lr.toNat (tab.Kw D.T.f D.Lr)).1:=fz _ _ _ _ h
      dsimp only;split
      · exact b
      · have c:=fy b
        split
        · exact c
        · exact tG k _ c
theorem eU{D:Dv}(h:Mk D):Mk D.room.1:=by
 have b:=fy h;unfold Dv.room;split
 · exact b
 · exact tG _ _ b
theorem tJ{D:Dv}(h:Mk D):Mk D.KJ:=Gm h (kE D) rfl
theorem td{D:Dv}(h:Pw D):Pw D.KJ:=⟨h.n0,h.n1,h.op,h.row,h.tw,by rw[(kE D).y.2.1];exact h.yb,h.np⟩
theorem zZ(Y:Ty):L5 Y≤Y.sb.length:=List.length_filter_le _ _
theorem gx{D:Dv}(b:Mk D)(c:Pw D)(e:3≤D.N.D∧D.N.D≤8)(f:D.Y.sb.length≤16)(l:List En):D.write 200 l=some (D.Kf l):=by
 have g:=zZ D.Y;have i:=aI D.p.mask;have h:=nk 200 D l b c e (by omega);unfold Dv.Kf Dv.tries;cases j:D.write 200 l with
 |none=>simp_all
 |some r=>rfl
theorem vg{N:Nd}{b r m:Int}{l:List En}(h:(Kl N b r m l).2.2=0):l.length≠0:=by
 unfold Kl at h;by_cases c:No l b r m=true
 · unfold No at c
   simp_all
 simp_all
theorem wY:∀(k:Nat) (D:Dv) (l:List En) (r:Dv×Int×Int),D.write k l=some r→∃q:Nat,r.2.1=(q:Int)∧q≤l.length∧(r.2.2=0→l≠ []→1≤q)
 |0,D,l,r,h=>by cases h
 |k+1,D,l,r,h=>by
  unfold Dv.write at h;by_cases c:l=[]
  · grind
  rw[if_neg c]at h
  have u:1≤l.length:=by
   cases l with
   |nil=>exact absurd rfl c
   |cons a l=>simp
  dsimp only at h;generalize (if D.left=true then(D,(0:Int))else D.opens)=o at h;by_cases f:o.2≠0
  · grind
  rw[if_neg f]at h;by_cases g:o.1.p.next>1099511627775-((min l.length (JV o.1.p.mask).toNat:Nat):Int)+1
  · grind
  rw[if_neg g]at h;have i:(LL l o.1.p.next (JV o.1.p.mask).toNat).length=(JV o.1.p.mask).toNat:=by simp[LL]
  have e:=vg (N:=o.1.N) (b:=o.1.p.op) (r:=o.1.p.row) (m:=o.1.p.mask) (l:=LL l o.1.p.next (JV o.1.p.mask).toNat);generalize LL l o.1.p.next (JV o.1.p.mask).toNat=j at h i e;generalize Kl o.1.N o.1.p.op o.1.p.row o.1.p.mask j=w at h e;by_cases n:w.2.2=1
  · grind
  rw[if_neg n]at h;by_cases p:w.2.2=0
  · grind
  rw[if_neg p]at h;by_cases t:w.2.2=9
  · grind
  rw[if_neg t]at h;exact wY k _ _ _ h
theorem Bn{N:Nd}(h:N.ok)(T:Tb){j:Nat}(hj:j≤65536):(reads N T j).1.ok∧((reads N T j).2=0→wfI (reads N T j).1.l):=by
 have c:=qV h (At6.of (tab.Kh T.f (j:Int))).b (At6.of (tab.Kh T.f (j:Int))).r (At6.of (tab.Kh T.f (j:Int))).s (At6.of (tab.Kh T.f (j:Int))).m;unfold reads;dsimp only;split
 · exact⟨aM,fun q=>by cases q⟩
 · split
   · exact⟨aM,fun _=>bw (by simp) (by grind)⟩
   · rename_i q
     refine⟨c,fun _=> ?_⟩;have e:(Km N (At6.of (tab.Kh T.f (j:Int))).b (At6.of (tab.Kh T.f (j:Int))).r (At6.of (tab.Kh T.f (j:Int))).s (At6.of (tab.Kh T.f (j:Int))).m).1.l=(j:Int):=ek fun z=>q (.inr (.inl z))
     show wfI (Km N (At6.of (tab.Kh T.f (j:Int))).b (At6.of (tab.Kh T.f (j:Int))).r (At6.of (tab.Kh T.f (j:Int))).s (At6.of (tab.Kh T.f (j:Int))).m).1.l;rw[e];exact bw (by omega) (by omega)
theorem lP(N:Nd)(T:Tb)(a:Nat)(l:List Nat):LV N T (a::l)=if(reads N T a).2≠0 then([],(reads N T a).2)else((reads N T a).1::(LV N T l).1,(LV N T l).2):=rfl
theorem mD(k:Nat)(D:Dv)(l:List Nat)(n:Int)(b:l≠ []):D.LU (k+1) l n=(let x:=LV D.N D.T (l.take (max D.Ld 1).toNat);if x.2≠0 then(D,n,x.2)else let y:=D.Kf x.1;if y.2.2≠0 then(y.1,n+y.2.1,y.2.2)else Dv.LU k y.1 (l.drop y.2.1.toNat) (n+y.2.1)):=by
 show(if l=[]then(D,n,0)else _)=_;simp_all
theorem wF(k:Nat)(D:Dv)(n:Int):D.LU k [] n=(D,n,0):=by
 cases k with
 |zero=>rfl
 |succ k=>rfl
theorem xQ{T:Tb}{b:Int}{j:Nat}(h:j∈T.inL b):j<T.logical:=by
 unfold tab.Tb.inL tab.Nc at h;simp_all
open JT (Nd Blk)
open tal (Ty Sb)
open tab (Tb At6)
structure FdB (N:Nd) (f:Fd):Prop where
 e:f.e.ok
 l0:0≤f.e.l
 l1:f.e.l<65536
 s0:0≤f.e.s
 s1:f.e.s<1099511627776
 o0:0≤f.e.r
 o1:f.e.r<256
 b0:0≤f.b
 b1:f.b<N.B
 r0:0≤f.r
 r1:f.r<N.P
 sl0:0≤f.s
 sl1:f.s<8
theorem Fb{N:Nd}{a:Ad}(h:(look N a).2=1):0≤(look N a).1.r∧(look N a).1.r<256∧0≤(look N a).1.l∧(look N a).1.l<65536∧0≤(look N a).1.s∧(look N a).1.s<1099511627776:=by
 unfold look at h⊢;by_cases c:N.K9 a=0
 · rw[if_pos c]at h⊢
   cases e:NV (N.KC a)with
   |false=>simp_all
   |true=>
    cases f:fits (Nf (N.KC a)) a with
    |false=>simp_all
    |true=>
     rw[if_pos (by simp)];have b:=e;unfold NV at b;rw[ed]at b;obtain⟨g,i,j,k,s0,s1,-⟩:=jj b.1;show 0≤(Nf (N.KC a)).r∧(Nf (N.KC a)).r<256∧0≤(Nf (N.KC a)).l∧(Nf (N.KC a)).l<65536∧0≤(Nf (N.KC a)).s∧(Nf (N.KC a)).s<1099511627776;unfold Nf;simp_all
 grind
theorem AX(m:Int):(JV m).toNat≤7:=by
 have:=aI m;unfold JV;omega
theorem EW{f:Fo}{slot:Nat}{e:En}(h:f.MK slot=some e):0≤e.r∧e.r<256∧0≤e.l∧e.l<65536∧0≤e.s∧e.s<1099511627776:=by
 unfold Fo.MK at h;split at h
 · cases h
 · rename_i l i
   split at h
   · rename_i c
     rw[ed]at c;have b:=c.2;unfold MD at b;rw[ed]at b;have g:=b.2;unfold En.may at g;obtain⟨j,k,m,n,s0,s1,-⟩:=jj g;simp_all
   simp_all
theorem vh{N:Nd}(n:N.ok){b r:Nat}(z:b<N.B)(A:r<N.P){f:Fd}(h:f∈KK N (b:Int) (r:Int)):FdB N f:=by
 unfold KK at h;obtain⟨m,-,h⟩:=jt.1 h;unfold allM at h;obtain⟨k,o,h⟩:=List.mem_filterMap.1 h;rw[hZ]at o
 have B:k<7:=by
  have c:(Lf N (b:Int) (r:Int) m).sl.length=(JV m).toNat:=eh N b r m _;have:=AX m;omega
 have j:∀x∈(Lf N (b:Int) (r:Int) m).sl,∃d,x=one N (b:Int) (r:Int) m d:=fun x l=>by
  unfold Lf ME at l;grind
 have i:(Lf N (b:Int) (r:Int) m).par.ok∧∀x∈(Lf N (b:Int) (r:Int) m).sl,x.1.ok:=⟨gJ n b r m _,fun y q=>by
  obtain⟨d,rfl⟩:=j y q;exact gJ n b r m _⟩
 generalize Lf N (b:Int) (r:Int) m=t at h o j i;unfold KV at h;split at h
 · cases h
 · rename_i x l
   have p:=hG l
   have key:∀e:En,(if x.2 then some (Mf x.1)else t.MK k)=some e→e.ok∧0≤e.r∧e.r<256∧0≤e.l∧e.l<65536∧0≤e.s∧e.s<1099511627776:=fun e g=>by
    cases c:x.2 with
    |true=>
     rw[c,if_pos rfl]at g;cases g
     obtain⟨d,u⟩:=j x p;refine⟨i.2 x p,?_⟩;rw[u]at c⊢;unfold one at c;simp only[ed,beq_iff_eq]at c;exact Fb c.1
    |false=>
     rw[c,if_neg (by simp)]at g;exact⟨mT _ i.1 i.2 g,EW g⟩
   split at h
   · cases h
   · rename_i e g
     obtain⟨k0,k1,k2,k3,w,k5,k6⟩:=key e g;split at h
     · cases h
     · cases h
       exact⟨k0,k3,w,k5,k6,k1,k2,iP _,by simp_all,iP _,by simp_all,iP _,by grind⟩
theorem xn{N:Nd}(e:N.ok){b:Nat}(g:b<N.B):∀(k:Nat),k≤N.P→∀f∈Lk N b k,FdB N f:=fun k i f c=>by
 unfold Lk at c;obtain⟨r,h,q⟩:=jt.1 c;rw[hZ]at h;exact vh e g (by omega) q
theorem q9{N:Nd}(e:N.ok):∀(k:Nat),k≤N.B→∀f∈KA N k,FdB N f:=fun k h f c=>by
 unfold KA at c;obtain⟨b,g,q⟩:=jt.1 c;rw[hZ]at g;exact xn e (show b<N.B by omega) N.P (Nat.le_refl _) f q
theorem i6{N:Nd}(b:N.ok):∀f∈Kc N,FdB N f:=q9 b N.B (Nat.le_refl _)
theorem kR(N:Nd)(b r:Int):(KK N b r).length≤7*N.D:=by
 have e:∀c:List Int,(c.flatMap (dev.allM N b r)).length≤7*c.length:=fun c=>by
  induction c with
  |nil=>simp
  |cons q c f=>
   rw[List.flatMap_cons,eD,List.length_cons]
   have:(dev.allM N b r q).length≤7:=by
    unfold dev.allM;have e:=fo (KV (Lf N b r q) b r q) (lx (Lf N b r q).sl.length);rw[jg]at e;have g:(Lf N b r q).sl.length=(JV q).toNat:=eh N b r q _;have:=AX q;omega
   omega
 have:=e (Nx N b r);have:=tL N b r;unfold KK;omega
theorem lN(N:Nd)(b k:Nat):Lk N b (k+1)=Lk N b k++KK N (b:Int) (k:Int):=by
 unfold Lk;rw[hO,hX];simp
theorem iL(N:Nd)(k:Nat):KA N (k+1)=KA N k++Lk N k N.P:=by
 unfold KA;rw[hO,hX];simp
theorem kQ(N:Nd)(b:Nat):∀k,(Lk N b k).length≤7*N.D*k
 |0=>by simp[Lk]
 |k+1=>by
  rw[lN,eD,Nat.mul_add,Nat.mul_one];have:=kQ N b k;have:=kR N (b:Int) (k:Int);omega
theorem ig(N:Nd):∀k,(KA N k).length≤7*N.D*N.P*k
 |0=>by simp[KA]
 |k+1=>by
  rw[iL,eD,Nat.mul_add,Nat.mul_one];have:=ig N k;have:=kQ N k N.P;omega
theorem ix{N:Nd}:∀(l:List Fd) (x:Int),(∀f∈l,FdB N f)→1≤x→x≤1099511627776→1≤Lc l x∧Lc l x≤1099511627776
 |[],x,_,b,c=>⟨b,c⟩
 |f::l,x,h,b,c=>by
  have e:=h f (by simp);have:=e.s0;have:=e.s1;exact ix l (max x (f.e.s+1)) (fun g i=>h g (by simp[i])) (by omega) (by omega)
open JT (Nd Blk)
theorem yv{out:List Fd}{f x:Fd}(h:x∈MI out f):x∈out∨x=f:=by
 unfold MI at h;grind
theorem yw(out:List Fd)(f:Fd):(MI out f).length≤out.length+1:=by
 unfold MI;grind
theorem kL:∀(l out:List Fd) {x:Fd},x∈l.foldl MI out→x∈out∨x∈l
 |[],out,x,h=> .inl h
 |f::l,out,x,h=>by
  rcases kL l (MI out f) h with h|h
  · rcases yv h with h|rfl
    · simp_all
    simp
  simp_all
theorem pK:∀(l out:List Fd),(l.foldl MI out).length≤out.length+l.length
 |[],out=>by simp
 |f::l,out=>by
  have b:=pK l (MI out f);have c:=yw out f;grind
theorem sF{l:List Fd}{x:Fd}(h:x∈ON l):x∈l:=by
 rcases kL l [] h with h|h
 · cases h
 omega
theorem iU{l:List Fd}{j:Nat}{f:Fd}(h:K4 l j=some f):f∈l∧f.e.l=(j:Int):=by
 unfold K4 at h;obtain⟨g,e⟩:=List.head?_eq_some_iff.1 h;have b:f∈ON (l.filter fun f=>f.e.l==(j:Int)):=by rw[e];simp
 obtain⟨b,c⟩:=kd.1 (sF b);exact⟨b,by simpa using c⟩
def LZ(l:List Fd)(k:Nat):List Fd:=(l.take k).foldl MI []
theorem sG{l:List Fd}{k:Nat}{f:Fd}(h:l[k]? =some f):LZ l (k+1)=MI (LZ l k) f:=by
 unfold LZ;rw[jd,h,l4];rfl
theorem uU(l:List Fd):LZ l l.length=ON l:=by
 unfold LZ ON;simp
theorem uT(l:List Fd)(k:Nat):(LZ l k).length≤l.length:=by
 have h:=pK (l.take k) [];have b:(l.take k).length≤l.length:=List.length_take_le' k l;unfold LZ;grind
theorem nz{l:List Fd}{k:Nat}{x:Fd}(h:x∈LZ l k):x∈l:=by
 rcases kL (l.take k) [] h with h|h
 · cases h
 grind
open JT (Nd Blk)
open tal (Ty Sb)
open tab (Tb At6)
theorem iT(l:List Fd)(n k:Nat):Lm l n (k+1)=match K4 l k with|some f=>(Lm l n k).MH f.e.l f.e.s f.e.r f.b f.r f.s f.m|none=>Lm l n k:=by
 unfold Lm;rw[hO,l4];rfl
theorem sI{N:Nd}(g:N.B≤16∧N.P≤8){l:List Fd}(c:∀f∈l,FdB N f)(n:Nat):∀k,Tw (Lm l n k)
 |0=>fun p h=>by simp[Lm]at h
 |k+1=>by
  rw[iT];have e:=sI g c n k;cases i:K4 l k with
  |none=>exact e
  |some f=>
   have b:=c f (iU i).1;have j:=b.r0;have m:=b.r1;have o:=b.sl0;have q:=b.sl1;exact AI e (bw (by omega) (by omega)) (bw (by omega) (by omega))
theorem im(l:List Fd)(n:Nat):∀k,(Lm l n k).logical=n
 |0=>rfl
 |k+1=>by
  rw[iT];have b:=im l n k;cases c:K4 l k with
  |none=>exact b
  |some f=>
   show(Tb.MH _ _ _ _ _ _ _ _).logical=n;unfold Tb.MH;grind
theorem zJ(l:List Int)(on:Bool)(Y:Ty):Dim (QI l on Y) Y:=dK _ (fun Y a=>cD _ _ _) _ _
theorem oX{N:Nd}(e:N.ok):(KD N).Y.D=N.D∧(KD N).Y.B=N.B∧(KD N).Y.P=N.P:=by
 have b:=zJ (NY N (Lj N)).held true (KH N);have c:=(cV N e.geo.2.1).1;exact⟨b.1.trans c.1,b.2.1.trans c.2.1,b.2.2.trans c.2.2⟩
theorem J5(d:Int):hasB 0 d=false:=by
 unfold hasB;simp
theorem yZ{N:Nd}(b:N.ok):Mk (KD N):=
 ⟨fun d _ q=>absurd (show hasB 0 (d:Int)=true from q) (by rw[J5];simp),(oX b).1⟩
theorem yI{N:Nd}(b:N.ok):Pw (KD N):=by
 have e:=ix (N:=N) (Kc N) 1 (i6 b) (by decide) (by decide);have c:=b.geo;refine⟨?_,?_,by show(-1:Int)≤65536;decide,by show(0:Int)≤0;decide,sI ⟨c.2.2.2.1,c.2.2.2.2.2⟩ (i6 b) _ _,?_,?_⟩
 · show 0≤max (Lc (Kc N) 1) 1
   omega
 · show max (Lc (Kc N) 1) 1≤1099511627776
   omega
 · rw[(oX b).2.1];omega
 · show N.P≤65536
   omega
theorem jW{D:Dv}(c:D.T.logical≤200)(e:D.N.D≤6)(b:D.Y.B≤16):Oq D≤6000000:=by
 unfold Oq;have a1:D.N.D*D.Y.B≤6*16:=Nat.mul_le_mul e b;have a2:(1600*D.T.logical+D.N.D*D.Y.B)*D.Y.B≤(1600*200+6*16)*16:=Nat.mul_le_mul (Nat.add_le_add (Nat.mul_le_mul_left _ c) a1) b;omega
theorem sX:∀(k:Nat) (D:Dv) (l:List En),Pw D→Pw (D.NC k l).1
 |0,D,l,h=>h
 |k+1,D,l,h=>by
  unfold Dv.NC;split
  · exact h
  · dsimp only
    have b:=eR h;split
    · exact b
    · have c:=dw b l
      split
      · exact c
      · exact sX k _ _ c
theorem tF:∀(k:Nat) (D:Dv) (l:List En),Mk D→Mk (D.NC k l).1
 |0,D,l,h=>h
 |k+1,D,l,h=>by
  unfold Dv.NC;split
  · exact h
  · dsimp only
    have b:=eU h;split
    · exact b
    · have c:=dx b l
      split
      · exact c
      · exact tF k _ _ c
theorem xr{D:Dv}(h:Pw D)(c:Int):Pw (D.step c).1:=by
 have b:=eR (td h);unfold Dv.step;dsimp only;split
 · exact b
 · split
   · exact b
   · exact ft _ _ _ _ b
theorem xD{D:Dv}(h:Mk D)(c:Int):Mk (D.step c).1:=by
 have b:=eU (tJ h);unfold Dv.step;dsimp only;split
 · exact b
 · split
   · exact b
   · exact fz _ _ _ _ b
end dev
namespace dev.b21
open dev
open JT (Nd Flt)
def da(x:Nat):List Nat:=[x,0,0,0,0,0,0,0,0,0,0,0,0,0,0,0]
def N0:Nd:=Nd.new 3 8 2
def F0:Fv:=Ki (Mo N0).1
def F1:Fv:=(F0.write (1:Int) (da 7)).1
def F2:Fv:=(F1.trim (2:Int)).1
def F3:Fv:=(F2.write (3:Int) an).1
def F4:Fv:=F3.flush.1
def N5:Nd:=F4.D.N.cutAt (-1) 0
def F5:Fv:={F4 with D:={F4.D with N:=N5}}
def N6:Nd:=N5.on
def F6:Fv:={F5.ref with D:={F5.ref.D with N:=N6}}
def G0:Fv:=Ki (Mo N6).1
def P1:Fv:=(F0.write (0:Int) (da 9)).1
theorem eF0:Ki (Mo N0).1=F0:=rfl
theorem eF1:(F0.write (1:Int) (da 7)).1=F1:=rfl
theorem eF2:(F1.trim (2:Int)).1=F2:=rfl
theorem eF3:(F2.write (3:Int) an).1=F3:=rfl
theorem eF4:F3.flush.1=F4:=rfl
theorem eG0:Ki (Mo N6).1=G0:=rfl
theorem eP1:(F0.write (0:Int) (da 9)).1=P1:=rfl
attribute [irreducible] F0 F1 F2 F3 F4 G0 P1
theorem k0:(Mo N0).2=0∧N0.off=false∧(Kc N0).all (·.whole)=true∧dev.tot N0=0:=by decide+kernel
theorem k1:(F0.write (1:Int) (da 7)).2=0∧(F1.trim (2:Int)).2=0∧(F2.write (3:Int) an).2=3:=by decide+kernel
theorem k3:F3.read (1:Int)=(da 7,0)∧F3.KR=0∧F3.flush.2=0:=by decide+kernel
theorem k5:F5.read (1:Int)=(an,9)∧F5.KR≠0:=by decide+kernel
theorem k6:(Mo N6).2=0∧N6.off=false∧(Kc N6).all (·.whole)=true∧dev.tot N6≤1000:=by decide+kernel
theorem kg:G0.read (1:Int)=(da 7,0)∧G0.KR=0∧G0.logical=3:=by decide+kernel
theorem ka:(G0.read ((0:Nat):Int)).2=0∧(G0.read ((1:Nat):Int)).2=0∧(G0.read ((2:Nat):Int)).2=0∧(G0.read ((0:Nat):Int)).1.length=16∧(G0.read ((1:Nat):Int)).1.length=16∧(G0.read ((2:Nat):Int)).1.length=16:=by decide+kernel
theorem kp:(F0.write (0:Int) (da 9)).2=0∧P1.read (0:Int)=(da 9,0)∧P1.KR=0∧P1.flush.1.whole.2=true∧P1.D.N.off=false:=by decide+kernel
theorem fN{x:Nat}(h:x<256):(da x).length=16∧∀y∈da x,y<256:=⟨rfl,fun y b=>by simp[da]at b;omega⟩
theorem kall:∀i:Nat,i<G0.logical→(G0.read (i:Int)).2=0∧(G0.read (i:Int)).1.length=16:=by
 intro i b;rw[kg.2.2]at b;obtain⟨c,e,f,g,h,j⟩:=ka;grind
theorem Qc(N:Nd)(o k:Int):(N.cutAt o k).ops=N.ops∧((N.cutAt o k).D=N.D∧(N.cutAt o k).B=N.B∧(N.cutAt o k).P=N.P)∧(N.cutAt o k).blk=N.blk:=by
 unfold Nd.cutAt;grind
end dev.b21
end Go.Proofs.YtlkpfnjdbgeifaaGreat
