import Derived.Test.YtlkpfnjdbgeifaaGreatFNand
set_option linter.unusedSimpArgs false
set_option linter.unusedVariables false
set_option maxRecDepth 100000
set_option maxHeartbeats 8000000
open List renaming getElem?_eq_getElem→ed,getElem?_eq_some_iff→ek,foldl_cons→eX,mem_of_getElem?→fj,foldl_nil→fo,getElem?_eq_none→hX,getElem?_map→jd,ext_getElem?→jg,getElem?_append_right→js,take_succ_eq_append_getElem→kb,set_append_right→kd,mem_singleton→kr,mem_or_eq_of_mem_set→lx,drop_eq_nil_of_le→l4,mem_map→l5,take_of_length_le→nr,getElem?_toArray→o4,getElem?_modify→pn,map_set→px,append_nil→qa,replicate→r2,take_set→r4
open Int renaming eq_ofNat_of_zero_le→ej,toNat_natCast→py
open And renaming intro→eD
open Go renaming Value→gg,World→hZ,run_neq_pointer_nil→jt,run_eql_pointer_nil→kk,wp_load_mid→ly,Addr→sT,binOp→tl,TypeId→zl,undef→z6
open Nat renaming le_refl→hG,le_trans→hO,lt_of_le_of_lt→kn,le_of_lt→ps,zero_le→pz,not_lt_zero→qc,add_zero→xa,le_succ→zd
open Go.Region renaming binds→iP
open Go.RowKit.Below renaming refl→jm
open Go.Proofs.Tryz renaming underlying104→jw,underlying52→l8,underlying55→tm,underlying23→tr,func108→z7,func125→z8
open Go.RowKit renaming Below→jI,intOf→y0
namespace Go.Proofs.YtlkpfnjdbgeifaaGreat
open Go.Proofs.Tryz
open Go.RowKit
theorem ya6{A:Prop}(h:A:=by
 rintro e w'' ⟨rfl,hb⟩;exact HK _ _ ⟨(),_,rfl,rfl,aa hJ.out.1 hb,(JU.below hJ.out.2.1 hb),hJ.out.2.2.trans (hb.mono hJ.out.2.2.size)⟩):A:=h
theorem yc4{A:Prop}(h:A:=by
 have cc:=hJ.out.1.cell HNs HDN HBN hN;refine dM ?_;intro K HK;exact HK _ _ ⟨ux,_,rfl,rfl,hJ.out.1,fun _=>by simp[JW],hJ.out.2.2⟩):A:=h
theorem ydj{A:Prop}(h:A:=by
 go_wp2_with fail;go_ret;exact⟨by rw[HPE.out.1];rfl,⟨PE Y d b y.2,rfl,by rw[HPE.out.2];exact hdone⟩,HFz.trans hfr⟩):A:=h
theorem ydw{A:Prop}(h:A:=by
 intro v' w'' hown hb' hgr hat;exact⟨(ux.1,v'),_,rfl,rfl,jx.s9 HNs HDN HBN h7 hL hown hgr hat,fun _=>by simp[JW,hpre],hb'⟩):A:=h
theorem yfd{A:Prop}(h:A:=by
 go_simp;exact HK _ _ ⟨ux,_,rfl,rfl,jx'.out,jo'.out,jx'.out.low⟩):A:=h
theorem yfg{A:Prop}(h:A:=by
 have cc:=hJ.out.2.1;exact cH):A:=h
namespace JT
theorem jB(N:Nd):N.La.D=N.D∧N.La.B=N.B∧N.La.P=N.P∧N.La.blk=N.blk∧N.La.keep=N.keep∧N.La.Kt=N.Kt∧N.La.dead=N.dead:=by
 unfold Nd.La;split
 · split<;>exact⟨rfl,rfl,rfl,rfl,rfl,rfl,rfl⟩
 · exact⟨rfl,rfl,rfl,rfl,rfl,rfl,rfl⟩
theorem El(p:List Nat)(k:Nat)(b:p.length=32)(c:k≤32):KU p k 32=Mm p k:=by
 unfold KU Mm;rw[l4 (by omega),qa]
theorem Ck{f:List (Ad×gg)}(h:∀p∈f,p.2=.bool true∧p.1.wf)(a:Ad):Lu f a (.bool false)=.bool (My f a):=by
 unfold Lu;cases c:f.find? (fun p=>decide (p.1=a))with
 |none=>
  have b:=List.find?_eq_none.1 c
  have:My f a=false:=by
   unfold My;refine decide_eq_false fun e=> ?_;obtain⟨y,g,i⟩:=l5.1 e;exact absurd i (by simpa using b y g)
  rw[this];rfl
 |some y=>
  have b:=List.mem_of_find?_eq_some c;have j:=List.find?_some c
  have:My f a=true:=by
   unfold My;exact decide_eq_true (l5.2 ⟨y,b,by simpa using j⟩)
  rw[this];simp only[Option.map_some,Option.getD_some,(h y b).1]
structure Rv (N:Nd) (x:Ad) (d b q:Nat) (p:List Nat):Prop where
 l1:q≠(N.blk d b).cells.length→N.Kv x p=4∧N.Kq x p={N with broken:=N.broken+1}
 l2:q=(N.blk d b).cells.length→N.Li=true→N.Kv x p=9∧N.Kq x p=N.La.upd d b (Nw (N.La.blk d b) ⟨KU p N.La.keep 32,false,true⟩)
 l3:q=(N.blk d b).cells.length→N.Li=false→N.Kv x p=(bif (My N.Kt x ||(N.blk d b).met)then 7 else 0)∧
  N.Kq x p=({N.La with Kt:=LX N.La.Kt x}:Nd).upd d b (Nw (({N.La with Kt:=LX N.La.Kt x}:Nd).blk d b) ⟨p,My N.Kt x ||(N.blk d b).met,false⟩)
theorem vx{N:Nd}{x:Ad}{d b q:Nat}{p:List Nat}(e:N.Kg x=0)(k:x.d.toNat=d)(l:x.b.toNat=b)(i:x.p=(q:Int))(n:N.keep≤32)(o:p.length=32):Rv N x d b q p:=by
 obtain⟨k1,k2,k3,j,k5,k6,k7⟩:=jB N;have f:N.at x=N.blk d b:=by simp[Nd.at,k,l]
 have m:∀M X,Nd.put M x X=M.upd d b X:=fun M X=>by simp[Nd.put,k,l]
 refine⟨fun h=> ?_,fun h g=> ?_,fun h g=> ?_⟩
 · have c:x.p≠((N.blk d b).cells.length:Int):=by rw[i];omega
   simp[Nd.Kv,Nd.Kq,e,f,c]
 · have c:x.p=((N.blk d b).cells.length:Int):=by rw[i];omega
   constructor
   · simp[Nd.Kv,e,f,c,g]
   · simp only[Nd.Kq,e,f,c,g,m,j,k5,El p N.keep o n,Nw];simp
 · have c:x.p=((N.blk d b).cells.length:Int):=by rw[i];omega
   constructor
   · simp only[Nd.Kv,e,f,c,g,Nd.O5]
     cases My N.Kt x ||(N.blk d b).met<;>simp
   · simp only[Nd.Kq,e,f,c,g,m,j,k6,Nd.O5,Nw]
     simp[Nd.upd,j]
section
variable {w:hZ}{base g:Nat}{Y:Lay}{N:Nd}
theorem vw(h:JU w base g Y N)(x:Ad)(hx:x.wf)(d b q:Nat)(hd:x.d.toNat=d)(hb:x.b.toNat=b)(hq:x.p=(q:Int))(G:N.Kg x=0)(p:List Nat)(V:p.length=32)(aM:∀y∈p,y<256)(hs:N.ops≤1000000000000000)(aN:N.broken≤1000000000000000):
 Calls prog 32 #[g,.agg x.v.toArray,.agg (An .u8 p).toArray] w fun e w'=>e=.returned (.int .i64 (N.Kv x p))∧(∃Y',Y'.np=Y.np∧JU w' base g Y' (N.Kq x p))∧Fr base g w w':=by
 have aO:=vx G hd hb hq h.ok.keep V;have ax:=cG w (.cells x.v.toArray 52) (.cells (An .u8 p).toArray 55);have ha:=bu w (.cells x.v.toArray 52) (.cells (An .u8 p).toArray 55);have hz:=aj (w.alloc (.cells x.v.toArray 52)) (.cells (An .u8 p).toArray 55) (w.heap.size+1) (by simp);have hN:=h.below ax;obtain⟨-,ay,-⟩:=dV G;have bl:=lq ay;have HDN:=qZ (show d<N.D by omega);have HBN:=qZ (show b<N.B by omega);have bm:=qZ (show q<N.P by omega);have bn:=qZ ay;have HR:=qZ G;have HD:=qZ hd;have bo:=qZ hb;have HQ:=qZ hq;have az:=qZ aO;have aQ:=qZ (show base≤w.heap.size from ps (kn h.Nv.1 (af h.head)));have HS:=qZ (eD hs aN);have W:=qZ (eD V aM);clear h ay bl G hd hb hq aO hs aN V aM;go_enter func32, ntmps32;go_upto_region 1 with fail
 change Code.wp _ _ _ _ ((w.alloc (.cells x.v.toArray 52)).alloc (.cells (An .u8 p).toArray 55));generalize (w.alloc (.cells x.v.toArray 52)).alloc (.cells (An .u8 p).toArray 55)=w2 at*;obtain⟨c0,c1,c2⟩:=cM ha;have CR:=qZ (dG hN x hx);have aR:=qZ ha;have aS:=qZ hz;have aT:=qZ hN;have aA:=qZ ax;clear ha hz hN ax;go_wp2_with fail;refine CR.out.mono ?_;rintro e w3 ⟨rfl,hb⟩;have HA:=qZ (aa aR hb);have HZ:=qZ (aa aS hb);have HN:=qZ (aT.below hb);have HB:=qZ (aA.trans (hb.mono aA.size));clear hb aR aS aT aA c0 c1 c2 CR;rw[HR.out];go_upto_region 4 with fail
 refine dz (X:=Unit) (fun _=> [(some 18,g),(some 19,g),(some 20,.pointer (some ⟨g,3,none⟩)),(some 21,.map (some Y.mb)),(some 22,w.heap.size),(some 23,x.d),(some 24,.pointer (some ⟨w.heap.size,1,none⟩)),(some 25,x.b),(some 26,.agg (key x.d x.b).v.toArray),(some 27,.pointer (some ⟨Y.q d b,0,none⟩)),(some 8,.pointer (some ⟨Y.q d b,0,none⟩))])
  (fun _ L w'=>w'.heap[w.heap.size]? =some (.cells x.v.toArray 52 (0,0))∧w'.heap[w.heap.size+1]? =some (.cells (An .u8 p).toArray 55 (0,0))∧JU w' base g Y N∧jI w.heap.size w w') ⟨(),fun _ _=>⟨HA,HZ,(HN.drew),HB.drew⟩⟩ ?_ ?_
 · refine⟨rr,rr,rr,?_,rr,?_,rr,?_,?_,?_,rr,trivial⟩
   all_goals
    intro ux L w' hL hpre hJ a ha he;try simp[iP]at hpre
   · have cc:=hJ.out.2.2.1.c3
     exact cH
   · obtain⟨cc,-,-⟩:=cM hJ.out.1
     exact cH
   · obtain⟨-,cc,-⟩:=cM hJ.out.1
     exact cH
   · exact yb5
   · have cc:=rg hJ.out.2.2.1 bn w'
     rw[HD.out,bo.out]at cc;exact cH
 · intro _ L w' hL hJ
   obtain⟨l,jz,u,f⟩:=hJ;clear hL;simp only[eX,fo];go_simp;have aB:=u.body.blk d b HDN HBN;have aU:=u.body.rows d b HDN HBN;obtain⟨Ac,cc,aV,bW,-⟩:=aU.slice;have cq:w'.cell? ⟨Y.q d b,0,none⟩=some (.slice Ac (N.blk d b).cells.length cc):=by rw[ae aB,←aV];rfl
   have c3:w'.cell? ⟨Y.q d b,3,none⟩=some (.bool (N.blk d b).met):=by rw[ae aB];rfl
   have aW:=u.ok.len d b;obtain⟨-,-,ca⟩:=cM l;rw[HQ.out]at ca;have bp:=qZ l;have bq:=qZ jz;have T:=qZ u;have aX:=qZ f;have HM:=qZ (eD c3 aW);clear l jz u f aB aU aV c3 aW;by_cases Z:q=(N.blk d b).cells.length
   · have HE:=qZ Z
     have aY:((q:Int) !=((N.blk d b).cells.length:Int))=false:=by rw[Z];simp
     generalize hM:(N.blk d b).cells.length=br at*;have a2:=qZ hM;clear hM Z;go_upto_region 5 with fail
     go_region;go_upto_region 8 with fail
     have CC:=qZ (rA T HS.1);clear ca cq aY;go_wp2_with fail;refine(show Calls _ _ _ w'.drew _ from(rA T.drew HS.1)).mono ?_;rintro e w4 ⟨rfl,M,ah⟩;have aC:=qZ ((Fr.KZ aX).trans ((Fr.refl base g w').drew.trans ah));have bs:=qZ (ah.blk (show w'.drew.heap[_]? =_ from bp) rfl);have a3:=qZ (ah.blk (show w'.drew.heap[_]? =_ from bq) rfl);obtain⟨N1,ak⟩:∃N1,N1=N.La:=⟨_,rfl⟩;rw[←ak]at M;have a4:=qZ M;have a5:=jB N;rw[←ak]at a5;obtain⟨k1,k2,k3,k4,k5,k6,k7⟩:=a5;have a6:=qZ ak;have aD:=qZ (eD k4 (eD k5 k6));replace HDN:=qZ (show d<N1.D by rw[k1];exact HDN);replace HBN:=qZ (show b<N1.B by rw[k2];exact HBN);have U:=qZ (show(N1.blk d b).cells.length≤8 by have:=HM.out.2;have:=M.ok.geo;have:=M.ok.len d b;omega);have HX:=qZ (show(N1.blk d b).cells.length+1≤N1.P by rw[k4,k3];have:=HE.out;have:=a2.out;have:=bm.out;omega);have HEq:=qZ (show q=(N.blk d b).cells.length by rw[HE.out,a2.out]);have ck:=M.c11;have a7:=M.ok.keep;clear M ah ak k1 k2 k3 k4 k5 k6 k7 CC;cases al:N.Li with
     |true=>
      obtain⟨H,z⟩:=az.l2 HEq al;rw[←a6.out]at z;have HPE:=qZ (eD H z);clear H z al;generalize a8:N1.keep=D at*;have bX:=qZ a8;clear a8;go_upto_region 9 with fail
      go_wp2_with fail;go_loopw [9] (fun i wr=>∃j:Nat,D≤j∧j≤32∧i=.int .i64 j∧wr.heap[w.heap.size+1]? =some (.cells (An .u8 (KU p D j)).toArray 55 (0,0))∧JU wr base g Y N1∧Fr base g w wr) (fun i _=>32-(y0 i).toNat)
      case atStart=>exact⟨D,hG _,a7,rfl,by rw[qK];exact a3,a4,aC⟩
      case round=>
       obtain⟨j,an,hj,rfl,m,r,hf⟩:=hrel;by_cases aq:j<32
       · have lT:=iG W.1 an hj
         have hc:wr.cell? ⟨w.heap.size+1,j,none⟩=some (.int .u8 (((KU p D j).getD j 0:Nat):Int)):=by rw[ae m,o4,mS .u8 _ j (by rw[lT];exact aq),List.getD_eq_getElem?_getD,ed (by rw[lT];exact aq)];rfl
         have ff:=ao m j;have au:=ar (i:=j) m (.int .u8 255);have a9:(An .u8 (KU p D j)).set j (.int .u8 255)=An .u8 (KU p D (j+1)):=by rw[←sE W.out.1 an aq];simp only[An,px];rfl
         have k8:=au.at_;rw[a9]at k8;have HU:=qZ (eD k8 (eD (r.other (dr au) m rfl) (hf.Qd ((au.below (jm w.heap.size wr) (by omega))))));have bY:(j:Int)<32:=by omega
         clear au a9 k8 m r hf lT;generalize (KU p D j).getD j 0=bZ at*;go_wp2_with fail;go_roundw
         case rel=>exact⟨j+1,by omega,by omega,by go_num,HU.1,HU.2.1,HU.2.2⟩
         case measure=>simp[y0];omega
       · obtain rfl:j=32:=by omega
         have av:=qZ m;have HNs:=qZ r;have bt:=qZ hf;have aE:=qZ (show base≤wr.heap.size from hO aQ hf.size);have n:=qZ (eD (iG W.1 an hj) (yr W.2 D 32));obtain⟨O,aF⟩:∃O,O=KU p D 32:=⟨_,rfl⟩;rw[←aF]at av n;have bw:=qZ aF;clear m r hf aF aq an hj;go_upto_region 13 with fail
         refine dz (X:=Nat×gg) (fun y=> [(some 55,.pointer (some ⟨Y.q d b,0,none⟩)),(some 56,.pointer (some ⟨Y.q d b,0,none⟩)),(some 57,.pointer (some ⟨Y.q d b,0,none⟩)),(some 58,.pointer (some ⟨Y.q d b,0,none⟩)),(some 59,Y.cv d b),(some 60,.agg (An .u8 O).toArray),(some 61,.agg (Cel.v ⟨O,false,true⟩).toArray),(some 62,.slice (some ⟨y.1,0,none⟩) 1 1),(some 63,y.2),(some 64,.pointer (some ⟨Y.q d b,0,none⟩)),(some 65,.pointer (some ⟨Y.q d b,0,none⟩)),(none,z6)])
          (fun y L w'=>MM wr base g Y N1 d b ⟨O,false,true⟩ y (L 7) (L 8) (L 11) w'∧(L 8=true→L 4=true)∧jI 0 wr w') ⟨(0,z6),fun L hL=>⟨(by rw[hL 7,hL 8,hL 11];exact MM.start _),(by rw[hL 8];intro h;cases h),(jm 0 wr).drew⟩⟩ ?_ ?_
         · refine⟨rr,rr,rr,rr,?_,?_,?_,?_,?_,rr,rr,?_,trivial⟩
           all_goals
            intro ux L w' hL hpre hJ a ha he;try simp[iP]at hpre
           · have hN:L 11=false:=by
              cases h:L 11 with
              |false=>rfl
              |true=>exact absurd (hJ.out.2.1 (hJ.out.1.ord h)) (by simp[hL])
             exact yc4
           · obtain⟨jx,k,f⟩:=hJ.out
             refine Wn ?_;have e5:a.eval (.tmp 5)=.pointer (some ⟨w.heap.size+1,0,none⟩):=ev;have jp:=jx.fr.blk av rfl;exact ly 55 (.tmp 5) rfl (w.heap.size+1) 0 e5 (An .u8 O) _ (ai jp) tm rfl (bf n.1) ⟨ux,_,rfl,rfl,jx,k,f⟩
           · obtain⟨jx,k,f⟩:=hJ.out
             refine Wn ?_;have bx:=aZ 5;exact ba 112 _ rfl _ (show [(0,a.eval (.tmp 60)),(2,a.eval (.const (.bool true)))]=_ by rw[bx];rfl) _ (rI n.1) ⟨ux,_,rfl,rfl,jx,k,f⟩
           · obtain⟨jx,k,f⟩:=hJ.out
             refine Wn ?_;have bz:=aZ 6;refine cT 104 (.tmp 61) rfl 112 (Cel.v ⟨O,false,true⟩) _ 34 34 bz jw eu (Cel.O9 n.1) (by decide) (by decide) ?_;exact⟨(w'.heap.size,ux.2),_,rfl,rfl,jx.s8 hL,k,(jx.s8 hL).low⟩
           · obtain⟨jx,k,f⟩:=hJ.out
             refine Wn ?_;have bA:=aZ 4;have bB:=aZ 7;have h7:L 7=true:=by simp[hpre]
             have hN:L 11=false:=by
              cases h:L 11 with
              |false=>rfl
              |true=>exact absurd (jx.ord h) (by simp[hL])
             have q2:=jx.one hL h7;refine bQ (.tmp 59) (.tmp 62) 104 rfl 112 _ 34 34 jw eu rfl (by decide) (base:=base) (B:=0) (jx.own HNs HDN HBN hL hN) f bA bB (nL n.1 q2) (fun bC G=>by rw[kr.1 G];exact Cel.one _) (by have:=U.out;unfold maxLen;omega) (by have:=U.out;omega) (hO aE jx.fr.size) (pz _) ?_;exact ydw
           · obtain⟨jx,k,f⟩:=hJ.out
             refine Wn ?_;have bD:=aZ 10;have bE:=aZ 8;have m:L 8=true:=by simp[hpre]
             have cc:=jx.cell HNs HDN HBN hL;have ff:=jx.frozen HNs HDN HBN hL;obtain⟨A9,c9,ab,-,-⟩:=(jx.app m hL).1.slice;have R:=jx.s12 HNs HDN HBN m hL HX n;rw[ab]at R;have jx':=qZ R;have jo':=qZ k;clear jx f k ha R;refine aP fun K HK=> ?_;unfold Oper.wp;simp only[execOp,bD,bE,ab];exact yfd
         · intro y L w' hL hJ
           obtain⟨jx,k,f⟩:=hJ;have hdone:=jx.done (hL 11 (by decide));have hfr:=jx.fr;clear hL jx k f;simp only[eX,fo];go_simp;go_wp2_with fail;go_ret;exact⟨by rw[HPE.out.1];rfl,⟨PE Y d b y.2,rfl,by rw[HPE.out.2,←bw.out];exact hdone⟩,bt.trans hfr⟩
     |false=>
      obtain⟨H,z⟩:=az.l3 HEq al;rw[←a6.out]at z;have HPE:=qZ (eD H z);clear H z al ck a7;obtain⟨fb,aG⟩:∃fb,fb=My N.Kt x:=⟨_,rfl⟩;obtain⟨me,aH⟩:∃me,me=(N.blk d b).met:=⟨_,rfl⟩;rw[←aG,←aH]at HPE;have aI:=qZ (eD aG aH)
      have bF:Hid (∀w',JU w' base g Y N1→Calls prog 61 #[Y.gp,.agg x.v.toArray] w' fun e w''=>e=.returned (.tuple #[fb,fb])∧jI w'.heap.size w' w''):=qZ fun w' r=>by
       have:=spotBool.get Y.gp Y.bp Y.np N1.Kt x w' r.body.Kt hx;rw[Ck r.ok.Kt x,aD.out.2.2,←aI.out.1]at this;exact this
      obtain⟨N2,ad⟩:∃N2:Nd,N2={N1 with Kt:=LX N1.Kt x}:=⟨_,rfl⟩;rw[←ad]at HPE
      have bG:Hid (∀w',JU w' base g Y N1→Calls prog 62 #[Y.gp,.agg x.v.toArray] w' fun e w''=>e=.returned (.bool fb)∧(JU w'' base g Y N2∧Fr base g w' w'')):=qZ fun w' r=>by
       refine(spotBool.drop Y.gp Y.bp Y.np N1.Kt x w' r.body.Kt hx).mono ?_;rintro e w'' ⟨rfl,hS,hg⟩;refine⟨by rw[aD.out.2.2,←aI.out.1],?_⟩;rw[ad];exact r.Qm hS hg fun p V=>r.ok.Kt p (bj.1 V).1
      have bb:N2.blk d b=N.blk d b:=by rw[ad];simp only[aD.out.1]
      have bH:=qZ bb;have S:=qZ (show N2.D=N1.D∧N2.B=N1.B∧N2.P=N1.P∧N2.blk=N1.blk by rw[ad];exact⟨rfl,rfl,rfl,rfl⟩);clear ad aG aH bb;go_upto_region 15 with fail
      refine dz (X:=Unit) (fun _=> [(some 67,g),(some 68,g),(some 69,.pointer (some ⟨g,4,none⟩)),(some 70,Y.gp),(some 71,.agg (x.v).toArray),(some 72,.tuple #[fb,fb]),(some 66,.tuple #[fb,fb]),(some 73,fb),(some 74,fb),(some 10,fb),(some 11,fb)])
       (fun _ L w'=>w'.heap[w.heap.size]? =some (.cells x.v.toArray 52 (0,0))∧JU w' base g Y N1∧jI w4.heap.size w4 w') ⟨(),fun _ _=>⟨bs,(a4.drew),(jm _ w4).drew⟩⟩ ?_ ?_
      · refine⟨rr,rr,rr,?_,?_,?_,rr,rr,rr,rr,rr,trivial⟩
        all_goals
         intro ux L w' hL hpre hJ a ha he;try simp[iP]at hpre
        · have cc:=hJ.out.2.1.c4
          exact cH
        · obtain⟨l,u,f⟩:=hJ.out
          refine Wn ?_;exact ly 52 (.tmp 4) rfl w.heap.size 0 ev (x.v) _ (ai l) l8 rfl bL ⟨(),_,rfl,rfl,l,u,f⟩
        · refine dM ?_
          intro K HK;refine(bF w' hJ.out.2.1).mono ?_;exact ya6
      · intro _ L w' hL hJ
        obtain⟨l,u,f⟩:=hJ;clear hL;simp only[eX,fo];go_simp;have bI:=qZ l;have bc:=qZ u;have aJ:=qZ (Fr.KZ (base:=base) (g:=g) f);have bJ:=qZ (aJ.blk a3 rfl);clear l u f;obtain⟨aw,bK⟩:∃x:hZ,x=w':=⟨_,rfl⟩;subst bK;go_upto_region 16 with fail
        refine dz (X:=Unit) (fun _=> [(some 75,g),(some 76,g),(some 77,.pointer (some ⟨g,4,none⟩)),(some 78,Y.gp),(some 79,.agg (x.v).toArray),(some 80,fb)])
         (fun _ L w'=>w'.heap[w.heap.size]? =some (.cells x.v.toArray 52 (0,0))∧w'.cell? ⟨g,4,none⟩=some (.pointer (some ⟨Y.gp,0,none⟩))∧(L 5=false→JU w' base g Y N1)∧(L 5=true→JU w' base g Y N2)∧Fr base g aw w'∧jI 0 aw w') ⟨(),fun L hL=>⟨bI,bc.c4,(fun _=>bc.drew),(by rw[hL 5];intro h;cases h),(Fr.refl base g aw).drew,(jm 0 aw).drew⟩⟩ ?_ ?_
        · refine⟨rr,rr,rr,?_,?_,?_,trivial⟩
          all_goals
           intro ux L w' hL hpre hJ a ha he;try simp[iP]at hpre
          · exact yfg
          · obtain⟨l,jc,j1,j2,jf,f⟩:=hJ.out
            refine Wn ?_;exact ly 52 (.tmp 4) rfl w.heap.size 0 ev (x.v) _ (ai l) l8 rfl bL ⟨(),_,rfl,rfl,l,jc,j1,j2,jf,f⟩
          · have bM:=qZ (hJ.out.2.2.1 hL)
            refine dM ?_;intro K HK;refine(bG w' bM.out).mono ?_;rintro e w'' ⟨rfl,bd,bg⟩;have ag:=hJ.out.2.2.2.2.1.trans bg;exact HK _ _ ⟨(),_,rfl,rfl,bg.blk hJ.out.1 rfl,bd.c4,fun h=>by simp[JW]at h,fun _=>bd,ag,⟨ag.os,ag.tape,ag.output,ag.size,fun bN hk=>absurd hk (qc bN)⟩⟩
        · intro _ L w' hL hJ
          obtain⟨l,jc,j1,j2,jf,f⟩:=hJ;have h5:=hL 5 (by decide);clear hL;simp only[eX,fo];have bh:=qZ (j2 h5);have aK:=qZ jf;clear l jc j1 j2 jf f;go_simp;go_upto_region 17 with fail
          have cm:w'.cell? ⟨Y.q d b,3,none⟩=some (.bool me):=by rw[ae (bh.out.body.blk d b (by rw[S.out.1];exact HDN.out) (by rw[S.out.2.1];exact HBN.out)),bH.out,aI.out.2];rfl
          obtain⟨E,aL⟩:∃E,E=(fb ||me):=⟨_,rfl⟩;rw[←aL]at HPE;obtain⟨w5,bk⟩:∃w5,w5=w':=⟨_,rfl⟩;go_cut [10] (fun v wx=>v=.bool E∧wx=w5)
          case first=>
           subst bk;cases fb<;>cases me<;>
           (subst aL;go_wp2_with fail;go_meet;exact⟨rfl,rfl⟩)
          case rest=>
           obtain⟨rfl,rfl⟩:=hcut;subst bk;have HNs:=qZ bh;have aE:=qZ (show base≤wc.heap.size from hO aQ (hO aC.size (hO aJ.size aK.size)));have av:=qZ (aK.blk bJ rfl);have n:=qZ W;replace HDN:=qZ (show d<N2.D by rw[S.out.1];exact HDN);replace HBN:=qZ (show b<N2.B by rw[S.out.2.1];exact HBN);replace U:=qZ (show(N2.blk d b).cells.length≤8 by rw[S.out.2.2.2];exact U);replace HX:=qZ (show(N2.blk d b).cells.length+1≤N2.P by rw[S.out.2.2.2,S.out.2.2.1];exact HX);have HFz:=qZ (aC.trans (aJ.trans aK));clear cm aL;go_upto_region 18 with fail
           refine dz (X:=Nat×gg) (fun y=> [(some 88,.pointer (some ⟨Y.q d b,0,none⟩)),(some 89,.pointer (some ⟨Y.q d b,0,none⟩)),(some 90,.pointer (some ⟨Y.q d b,0,none⟩)),(some 91,.pointer (some ⟨Y.q d b,0,none⟩)),(some 92,Y.cv d b),(some 93,.agg (An .u8 p).toArray),(some 94,E),(some 95,.agg (Cel.v ⟨p,E,false⟩).toArray),(some 96,.slice (some ⟨y.1,0,none⟩) 1 1),(some 97,y.2),(some 98,.pointer (some ⟨Y.q d b,0,none⟩)),(some 99,.pointer (some ⟨Y.q d b,0,none⟩)),(none,z6)])
            (fun y L w'=>MM wc base g Y N2 d b ⟨p,E,false⟩ y (L 8) (L 9) (L 12) w'∧(L 9=true→L 4=true)∧jI 0 wc w') ⟨(0,z6),fun L hL=>⟨(by rw[hL 8,hL 9,hL 12];exact MM.start _),(by rw[hL 9];intro h;cases h),(jm 0 wc).drew⟩⟩ ?_ ?_
           · refine⟨rr,rr,rr,rr,?_,?_,rr,?_,?_,?_,rr,rr,?_,trivial⟩
             all_goals
              intro ux L w' hL hpre hJ a ha he;try simp[iP]at hpre
             · have hN:L 12=false:=by
                cases h:L 12 with
                |false=>rfl
                |true=>exact absurd (hJ.out.2.1 (hJ.out.1.ord h)) (by simp[hL])
               exact yc4
             · obtain⟨jx,k,f⟩:=hJ.out
               refine Wn ?_;have e5:a.eval (.tmp 5)=.pointer (some ⟨w.heap.size+1,0,none⟩):=ev;have jp:=jx.fr.blk av rfl;exact ly 55 (.tmp 5) rfl (w.heap.size+1) 0 e5 (An .u8 p) _ (ai jp) tm rfl (bf n.1) ⟨ux,_,rfl,rfl,jx,k,f⟩
             · obtain⟨jx,k,f⟩:=hJ.out
               refine Wn ?_;have bO:=aZ 5;have bP:=aZ 6;exact ba 112 _ rfl _ (show [(0,a.eval (.tmp 93)),(1,a.eval (.tmp 94))]=_ by rw[bO,bP]) _ (wJ n.1 E) ⟨ux,_,rfl,rfl,jx,k,f⟩
             · obtain⟨jx,k,f⟩:=hJ.out
               refine Wn ?_;have bR:=aZ 7;refine cT 104 (.tmp 95) rfl 112 (Cel.v ⟨p,E,false⟩) _ 34 34 bR jw eu (Cel.O9 n.1) (by decide) (by decide) ?_;exact⟨(w'.heap.size,ux.2),_,rfl,rfl,jx.s8 hL,k,(jx.s8 hL).low⟩
             · obtain⟨jx,k,f⟩:=hJ.out
               refine Wn ?_;have bS:=aZ 4;have bT:=aZ 8;have h7:L 8=true:=by simp[hpre]
               have hN:L 12=false:=by
                cases h:L 12 with
                |false=>rfl
                |true=>exact absurd (jx.ord h) (by simp[hL])
               have q2:=jx.one hL h7;refine bQ (.tmp 92) (.tmp 96) 104 rfl 112 _ 34 34 jw eu rfl (by decide) (base:=base) (B:=0) (jx.own HNs HDN HBN hL hN) f bS bT (nL n.1 q2) (fun bC G=>by rw[kr.1 G];exact Cel.one _) (by have:=U.out;unfold maxLen;omega) (by have:=U.out;omega) (hO aE jx.fr.size) (pz _) ?_;exact ydw
             · obtain⟨jx,k,f⟩:=hJ.out
               refine Wn ?_;have bU:=aZ 11;have bV:=aZ 9;have m:L 9=true:=by simp[hpre]
               have cc:=jx.cell HNs HDN HBN hL;have ff:=jx.frozen HNs HDN HBN hL;obtain⟨A9,c9,ab,-,-⟩:=(jx.app m hL).1.slice;have R:=jx.s12 HNs HDN HBN m hL HX n;rw[ab]at R;have jx':=qZ R;have jo':=qZ k;clear jx f k ha R;refine aP fun K HK=> ?_;unfold Oper.wp;simp only[execOp,bU,bV,ab];exact yfd
           · intro y L w' hL hJ
             obtain⟨jx,k,f⟩:=hJ;have hdone:=jx.done (hL 12 (by decide));have hfr:=jx.fr;clear hL jx k f;simp only[eX,fo];go_simp;cases E with
             |true=>
              exact ydj
             |false=>
              exact ydj
   · obtain⟨H,z⟩:=az.l1 Z
     have HPE:=qZ (eD H z);have aY:((q:Int) !=((N.blk d b).cells.length:Int))=true:=by simp;omega
     have I:=T.out.ok;have a1:=Be T.drew 8 (.int .i64 ((N.broken:Int)+1)) {N with broken:=N.broken+1} (by simp[Nd.top]) ⟨I.geo,I.dead,I.len,I.MV,I.left,I.keep,I.Kt⟩ rfl rfl rfl rfl rfl;have b0:wrap64 ((N.broken:Int)+1)=(N.broken:Int)+1:=by have:=HS.out.2;go_arith
     have HF:=qZ (eD a1.1 ((Fr.KZ aX).trans ((Fr.refl base g w').drew.trans a1.2)));have c8:=T.out.drew.c8;have f8:=ao T.drew.head 8;clear H z a1 I Z;generalize (N.blk d b).cells.length=br at*;go_upto_region 5 with fail
     go_region;go_wp2_with fail;go_ret;exact⟨by rw[HPE.out.1];rfl,⟨Y,rfl,by rw[HPE.out.2];exact HF.1⟩,HF.2⟩
end
theorem kx{C:Nat}{u:gg}:∀{b:List (List gg)} {i j:Nat} {r:List gg},(∀r∈b,r.length=C)→b[i]? =some r→j<C→(b.set i (r.set j u)).flatten=b.flatten.set (i*C+j) u
 |[],i,j,r,_,h,_=>by rfl
 |r0::e,0,j,r,c,h,hj=>by
  simp_all
 |r0::e,i+1,j,r,c,h,hj=>by
  have g:=c r0 (by simp);have k:=kx (u:=u) (fun r f=>c r (List.mem_cons_of_mem _ f)) (i:=i) (r:=r) (j:=j) (by simp_all) hj;grind
theorem BF{w:hZ}{base C n c b i j:Nat}{e:zl}{f:List (List gg)}{r:List gg}(h:OwnRows w base e C (.slice (some ⟨b,0,none⟩) n c) n f)(p:f[i]? =some r)(hj:j<C)(u:gg):
 OwnRows (w.setCell ⟨b,i*C+j,none⟩ u) base e C (.slice (some ⟨b,0,none⟩) n c) n (f.set i (r.set j u))∧∃o,Upd b o w (w.setCell ⟨b,i*C+j,none⟩ u):=by
 obtain⟨g,G,q⟩:=h;have k:=kx (u:=u) q p hj;rcases g.2 with⟨t,-⟩|⟨H,I,l,z,B,D,k1,k2,k3,E⟩
 · cases t
 · cases z
   have m:=ar (i:=i*C+j) (cs:=l.toList) (by simpa using D) u;refine⟨⟨⟨by rw[k,List.length_set];exact g.1,.inr ⟨b,c,(l.toList.set (i*C+j) u).toArray,rfl,B,m.at_,k1,k2,by simp_all,?_⟩⟩,by simp_all,?_⟩,_,m⟩
   · rw[k,←E]
     simp[r4]
   grind
section
variable {w w2:hZ}{base g:Nat}{Y:Lay}{N:Nd}
theorem xm(Y:Lay)(d b:Nat):({Y with cv:=fun i j=>if i=d∧j=b then Y.cv d b else Y.cv i j}:Lay)=Y:=by
 have:(fun i j=>if i=d∧j=b then Y.cv d b else Y.cv i j)=Y.cv:=by
  funext i j;split
  · rename_i e;rw[e.1,e.2]
  · rfl
 rw[this]
theorem eH(w:hZ)(r:Option Nat):w.grownBy w r:=⟨rfl,rfl,rfl,hG _,fun _ _ _=>rfl⟩
theorem JU.QE(h:JU w base g Y N){d b:Nat}(o:d<N.D)(p:b<N.B){f q:Nat}(r:Y.cv d b=.slice (some ⟨f,0,none⟩) (N.blk d b).cells.length q){i j:Nat}{c:Cel}(t:(N.blk d b).cells[i]? =some c){v:gg}(hj:c.v[j]? =some v):
 w.cell? ⟨f,i*34+j,none⟩=some v∧w.frozen? ⟨f,i*34+j,none⟩=false:=by
 have k:=h.body.rows d b o p;rw[r]at k;obtain⟨u,G,l⟩:=k;have m:(Mb (N.blk d b))[i]? =some c.v:=by rw[Mb,jd,t];rfl
 have H:c.v.length=34:=l c.v (fj m);have z:j<34:=by have:=(ek.1 hj).1;omega
 rcases u.2 with⟨B,-⟩|⟨I,J,K,C,L,n,k1,k2,k3,D⟩
 · cases B
 · cases C
   refine⟨?_,by exact ao n (i*34+j)⟩;rw[ae n];have e:=aW l m z;rw[hj,←D]at e;have E:=(ek.1 e).1;rw[List.length_take]at E;rw[List.getElem?_take_of_lt (by omega)]at e;simpa using e
theorem JU.Q6(h:JU w base g Y N){d b:Nat}(m:d<N.D)(n:b<N.B){f C:Nat}(r:Y.cv d b=.slice (some ⟨f,0,none⟩) (N.blk d b).cells.length C){i j:Nat}{c l:Cel}(D:(N.blk d b).cells[i]? =some c)(hj:j<34){u:gg}(E:c.v.set j u=l.v)(J:l.p.length=32∧∀y∈l.p,y<256):
 JU (w.setCell ⟨f,i*34+j,none⟩ u) base g Y (N.upd d b {N.blk d b with cells:=(N.blk d b).cells.set i l})∧Fr base g w (w.setCell ⟨f,i*34+j,none⟩ u):=by
 have p:=h.body.rows d b m n;rw[r]at p;have G:(Mb (N.blk d b))[i]? =some c.v:=by rw[Mb,jd,D];rfl
 obtain⟨K,o,t⟩:=BF p G hj u;have H:w.grownBy (w.setCell ⟨f,i*34+j,none⟩ u) (Y.cv d b).ownBlock:=by rw[r];exact dr t
 have z:=h.body.blk d b m n
 have L:Mb {N.blk d b with cells:=(N.blk d b).cells.set i l}=(Mb (N.blk d b)).set i (c.v.set j u):=by
  rw[E];simp[Mb,px]
 have I:Y.q d b≠f:=by
  intro e;obtain⟨M,B,-⟩:=aU p.1 (k:=f) rfl;rw[←e,z]at B;simp at B
 have:=h.PR m n {N.blk d b with cells:=(N.blk d b).cells.set i l} (Y.cv d b) H (by simp_all) (.inr (.inl rfl)) (eH _ _) (by rw[t.block _ I,z];rfl) (by simpa using h.ok.len d b) (fun c2 q=>by
  rcases lx q with q|rfl
  · exact h.ok.MV d b c2 q
  omega)
 rw[xm]at this;omega
theorem JU.Qv(h:JU w base g Y N){d b:Nat}(f:d<N.D)(i:b<N.B)(x:Blk)(e:x.cells=(N.blk d b).cells)(j:Upd (Y.q d b) (.cells (x.v (Y.cv d b)).toArray 106 (0,0)) w w2):
 JU w2 base g Y (N.upd d b x)∧Fr base g w w2:=by
 have l:=h.body.rows d b f i;have m:Mb x=Mb (N.blk d b):=by simp[Mb,e]
 have:=h.PR f i x (Y.cv d b) (eH w _) (by simp_all) (.inr (.inl rfl)) (dr j) j.at_ (by rw[e];exact h.ok.len d b) (fun c k=>by rw[e]at k;exact h.ok.MV d b c k);rw[xm]at this;omega
theorem JU.clear(h:JU w base g Y N){d b:Nat}(i:d<N.D)(j:b<N.B)(x:Blk)(e:x.cells=[])(f:Upd (Y.q d b) (.cells (x.v (.slice none 0 0)).toArray 106 (0,0)) w w2):
 JU w2 base g (PE Y d b (.slice none 0 0)) (N.upd d b x)∧Fr base g w w2:=
 h.PR i j x (.slice none 0 0) (eH w _) (by rw[show Mb x=[] by simp[Mb,e],e];exact OwnRows.nil) (.inl rfl) (dr f) f.at_ (by simp_all) (fun c k=>by simp_all)
end
theorem ji{b:Type}{l:List b}{i:Nat}{c:b}(g:b→b)(h:l[i]? =some c):l.modify i g=l.set i (g c):=by
 apply jg;grind
theorem mm{b:Type}{l:List b}{i:Nat}(g:b→b)(h:l.length≤i):l.modify i g=l:=by
 apply jg;grind
theorem jM(N:Nd)(d b:Nat):N.upd d b (N.blk d b)=N:=by
 have:(fun i j=>if i=d∧j=b then N.blk d b else N.blk i j)=N.blk:=by
  funext i j;split
  · rename_i e;rw[e.1,e.2]
  · rfl
 simp[Nd.upd,this]
theorem xc(N:Nd)(d b:Nat)(x z:Blk):(N.upd d b x).upd d b z=N.upd d b z:=by
 simp only[Nd.upd,Nd.mk.injEq,true_and,and_true];simp_all
theorem uQ(N:Nd)(d b:Nat)(x:Blk):(N.upd d b x).blk d b=x:=by simp[Nd.upd]
theorem Bq{w g:hZ}{B C n m:Nat}{A:Option sT}{c:List (List gg)}{o:Obj}(h:Rds w B A C n c)(J:0<C)(K:B≤w.heap.size)(p:w.grownBy g (some m))(q:w.heap[m]? =some o)(z:Kn o=none):Rds g B A C n c:=by
 refine⟨h.1,h.2.1,fun k=> ?_⟩;obtain⟨b,D,e,E,l⟩:=h.2.2 k
 have G:b≠m:=by
  rintro rfl;have H:0<c.length:=by rw[h.1];exact k
  have L:c[0].length=C:=h.2.1 c[0] (List.getElem_mem _);have f:=l 0 c[0] 0 (c[0][0]'(by omega)) (ed H) (ed (by omega));unfold World.cell? at f;simp only[q]at f;cases o with
  |cells M t fr=>simp[Kn]at z
  |_=>simp_all
 exact⟨b,D,e,E,fun i r j u f I=>(World.cell?_of_block (p.block b (by omega) (fun e=>G (Option.some.inj e)))).trans (l i r j u f I)⟩
end JT
theorem ye9{A:Prop}(h:A:=by
 constructor
 · simp[Nd.L6,hr,h,hat,hf]
 · simp only[Nd.Lh,hr,h,hat,hup,hf];simp):A:=h
namespace JT
def zc:Cel:=⟨r2 32 0,false,false⟩
theorem Dx: prog.built 112 []=some zc.v.toArray:=by kernel_rfl
theorem Gc:zc.p.length=32∧∀y∈zc.p,y<256:=⟨by decide,by decide⟩
def M7(x:Blk)(k:Nat):Blk:={x with cells:=x.cells++r2 k zc}
theorem vX(x:Blk):M7 x 0=x:=by simp[M7]
theorem vY(x:Blk)(k:Nat):Nw (M7 x k) zc=M7 x (k+1):=by
 simp only[Nw,M7,List.append_assoc,List.replicate_succ']
def NK(c:Cel):Cel:=⟨c.p,true,c.turned⟩
def Nr(x:Blk)(k:Nat):Blk:={x with cells:=(x.cells.take k).map NK++x.cells.drop k}
theorem vG(x:Blk):Nr x 0=x:=by simp[Nr]
theorem qi(x:Blk)(k:Nat):(Nr x k).cells.length=x.cells.length:=by simp[Nr];omega
theorem Ci(x:Blk)(k:Nat):(Nr x k).cells[k]? =x.cells[k]? :=by
 simp only[Nr];by_cases h:k<x.cells.length
 · rw[js (by simp;omega)]
   simp[show min k x.cells.length=k by omega]
 · rw[hX (by simp;omega),hX (by omega)]
theorem vH(x:Blk)(k:Nat){c:Cel}(h:x.cells[k]? =some c):({Nr x k with cells:=(Nr x k).cells.set k (NK c)}:Blk)=Nr x (k+1):=by
 have b:=(ek.1 h).1;have f:=(ek.1 h).2
 have e:((x.cells.take k).map NK++x.cells.drop k).set k (NK c)=(x.cells.take (k+1)).map NK++x.cells.drop (k+1):=by
  rw[kd _ _ (by simp;omega),kb b,List.map_append,List.drop_eq_getElem_cons b];simp[show min k x.cells.length=k by omega,f]
 simp only[Nr,e]
theorem Ii(x:Blk)(k P:Nat)(c:k=P-x.cells.length){n:Nat}(b:(M7 x k).cells.length≤n):Nr (M7 x k) n=x.cut P:=by
 subst c;unfold Nr Blk.cut;rw[nr b,l4 b,qa];rfl
def NF(f:List (Ad×gg))(l:List Ad)(k:Nat):List (Ad×gg):=f.filter fun p=> !decide (p.1∈l.take k)
theorem ut(f:List (Ad×gg))(l:List Ad):NF f l 0=f:=by simp[NF]
theorem uu{f:List (Ad×gg)}{l:List Ad}{k:Nat}{x:Ad}(h:l[k]? =some x):LX (NF f l k) x=NF f l (k+1):=by
 have b:=(ek.1 h).1;have c:=(ek.1 h).2;unfold LX NF;rw[List.filter_filter];congr 1;funext p;rw[kb b,c,Bool.eq_iff_iff];simp;exact And.comm
theorem tK{d b:Int}{f:List (Ad×gg)}{x:Ad}:x∈Lv d b (Lq (f.map (·.1)))↔(x∈f.map (·.1))∧x.d=d∧x.b=b:=by
 unfold Lv Lq NL;rw[List.mem_filter,List.mem_mergeSort];simp
theorem wt{d b:Int}{f:List (Ad×gg)}{n:Nat}(c:(Lv d b (Lq (f.map (·.1)))).length≤n):NF f (Lv d b (Lq (f.map (·.1)))) n=f.filter fun p=> !(decide (p.1.d=d)&&decide (p.1.b=b)):=by
 unfold NF;rw[nr c];refine List.filter_congr fun p e=> ?_
 have:(p.1∈Lv d b (Lq (f.map (·.1))))↔(p.1.d=d∧p.1.b=b):=by
  rw[tK];exact⟨fun h=>h.2,fun h=>⟨l5.2 ⟨p,e,rfl⟩,h⟩⟩
 rw[Bool.eq_iff_iff];simp[this]
structure Rl (N:Nd) (d b:Nat):Prop where
 l1:N.Li=true→N.L6 d b=9∧N.Lh d b=N.La.upd d b ((N.blk d b).cut N.P)
 l2:N.Li=false→(N.blk d b).fails=true→N.L6 d b=7∧N.Lh d b=N.La.upd d b {N.blk d b with met:=true}
 l3:N.Li=false→(N.blk d b).fails=false→N.L6 d b=0∧
  N.Lh d b={N.La.upd d b {N.blk d b with cells:=[],KP:=(N.blk d b).KP+1}with Kt:=N.Kt.filter fun p=> !(decide (p.1.d=(d:Int))&&decide (p.1.b=(b:Int)))}
theorem ul{N:Nd}{d b:Nat}(hr:N.Kg (key d b)=0):Rl N d b:=by
 have hat:N.at (key d b)=N.blk d b:=by simp[Nd.at,key]
 have hup:∀M X,Nd.put M (key d b) X=M.upd d b X:=fun M X=>by simp[Nd.put,key]
 refine⟨fun h=> ?_,fun h hf=> ?_,fun h hf=> ?_⟩
 · constructor
   · simp[Nd.L6,hr,h]
   · simp only[Nd.Lh,hr,h,hat,hup];simp
 · exact ye9
 · exact ye9
def QQ(w:hZ)(q:Nat):Nat:=match w.cell? ⟨q,0,none⟩with
 |some (.slice _ n _)=>n
 |_=>0
section
variable {w:hZ}{base g:Nat}{Y:Lay}{N:Nd}
theorem xL(h:JU w base g Y N){d b:Nat}(f:d<N.D)(i:b<N.B):QQ w (Y.q d b)=(N.blk d b).cells.length:=by
 obtain⟨A,c,e,-⟩:=(h.body.rows d b f i).slice;unfold QQ;rw[lC h f i,e]
theorem MM.Rh{d b:Nat}{c:Cel}(x:Nat×gg):MM w base g Y N d b c x false false false w:=
 ⟨by simp,by simp,Fr.refl base g w,fun _=>eH _ _,by simp,by simp,by simp⟩
theorem Db(h:JU w base g Y N)(d b:Nat)(hd:d<N.D)(hb:b<N.B)(hr:N.Kg (key d b)=0)(hs:N.ops≤1000000000000000)(bx:(N.blk d b).KP≤1000000000000000)(aw:Y.np≤100000):
 Calls prog 173 #[g,(d:Int),(b:Int)] w fun e w'=>e=.returned (.int .i64 (N.L6 d b))∧(∃n,n.np=Y.np∧JU w' base g n (N.Lh d b))∧Fr base g w w':=by
 have bz:=ul hr;have ax:=h.ok.geo;have b9:(key (d:Int) (b:Int)).wf:=ro (by omega) (by omega);have O:=qZ hd;have R:=qZ hb;have HR:=qZ hr;have a2:=qZ bz;have HW:=qZ (eD bx aw);have HS:=qZ hs;have a3:=qZ h;clear h hr hd hb bz hs bx aw ax;go_enter func173, ntmps173;go_wp2_with fail;refine(fY _ _ _).mono ?_;rintro e w1 ⟨rfl,ay⟩;have CR:=qZ (dG (a3.below ay) (key (d:Int) (b:Int)) b9);go_wp2_with fail;refine CR.out.mono ?_;rintro e w2 ⟨rfl,a4⟩;have HN:=qZ ((a3.below ay).below a4);have HB:=qZ (ay.trans (a4.mono ay.size));clear ay a4 CR a3;rw[HR.out];go_upto_region 4 with fail
 refine dz (X:=Unit) (fun _=> [(some 20,g),(some 21,g),(some 22,.pointer (some ⟨g,3,none⟩)),(some 23,.map (some Y.mb)),(some 24,(d:Int)),(some 25,(b:Int)),(some 26,.agg (key (d:Int) (b:Int)).v.toArray),(some 27,.pointer (some ⟨Y.q d b,0,none⟩)),(some 8,.pointer (some ⟨Y.q d b,0,none⟩))])
  (fun _ L w'=>JU w' base g Y N∧jI w.heap.size w w') ⟨(),fun _ _=>⟨(HN.drew),HB.drew⟩⟩ ?_ ?_
 · refine⟨rr,rr,rr,?_,rr,rr,?_,?_,rr,trivial⟩
   all_goals
    intro ux L w' hL hpre hJ a ha he;try simp[iP]at hpre
   · have cc:=hJ.out.1.c3
     exact cH
   · refine dM ?_
     intro K HK;refine(fY (d:Int) (b:Int) w').mono ?_;rintro e ak ⟨rfl,hb⟩;exact HK _ _ ⟨(),_,rfl,rfl,(JU.below hJ.out.1 hb),hJ.out.2.trans (hb.mono hJ.out.2.size)⟩
   · have cc:=xJ hJ.out.1 O R
     exact cH
 · intro _ L w' hL hJ
   obtain⟨jn,jb⟩:=hJ;clear hL;simp only[eX,fo];go_simp;have ca:=qZ jn;have cb:=qZ jb;clear jn jb;go_wp2_with fail;refine(rA ca HS).mono ?_;rintro e w4 ⟨rfl,aa,bA⟩;have a5:=qZ ((Fr.KZ (base:=base) (g:=g) cb).trans bA);obtain⟨N1,aI⟩:∃N1,N1=N.La:=⟨_,rfl⟩;rw[←aI]at aa;have a6:=qZ aa;have bB:=jB N;rw[←aI]at bB;obtain⟨k1,k2,k3,k4,k5,k6,k7⟩:=bB;have a7:=qZ aI;have az:=qZ (eD k4 (eD k6 k3));replace O:=qZ (show d<N1.D by rw[k1];exact O);replace R:=qZ (show b<N1.B by rw[k2];exact R);have z:=aa.body.blk d b O R;clear bA aI k1 k2 k3 k4 k5 k6 k7;cases al:N.Li with
   |true=>
    obtain⟨pe,G⟩:=a2.l1 al;rw[←a7.out,←az.out.1,←az.out.2.2]at G;have I:=qZ (eD pe G);clear pe G al z;have ax:=aa.ok.geo;have cd:N1.P≤8:=by omega
    have bC:=aa.ok.len d b;obtain⟨P,hP⟩:∃P,P=N1.P:=⟨_,rfl⟩;have bD:=qZ hP;rw[←hP]at cd bC;obtain⟨M0,a8⟩:∃M0,M0=(N1.blk d b).cells.length:=⟨_,rfl⟩;have aJ:=qZ a8;rw[←a8]at bC;clear aa ax hP a8;go_wp2_with fail;go_loopw [48] (fun _ wr=>∃(k:Nat) (n:Lay),M0+k≤P∧(n.np=Y.np∧n.q=Y.q)∧JU wr base g n (N1.upd d b (M7 (N1.blk d b) k))∧Fr base g w4 wr) (fun _ wr=>P-QQ wr (Y.q d b))
    case atStart=>exact⟨0,Y,by omega,⟨rfl,rfl⟩,by rw[vX,jM];exact a6,Fr.refl _ _ _⟩
    case round=>
     obtain⟨k,n,hk,⟨aw,aK⟩,j,q⟩:=hrel;obtain⟨r,ab⟩:∃r,r=N1.upd d b (M7 (N1.blk d b) k):=⟨_,rfl⟩;rw[←ab]at j;have S:=qZ (show d<r.D by rw[ab];exact O);have T:=qZ (show b<r.B by rw[ab];exact R);have a9:r.blk d b=M7 (N1.blk d b) k:=by rw[ab,uQ]
     have D:(r.blk d b).cells.length=M0+k:=by rw[a9,aJ.out];simp[M7]
     have ba:r.P=P:=by rw[ab,bD.out];rfl
     have bE:=qZ a9;have bF:=qZ ab;have aA:=qZ (eD aw aK);have bc:=xL j S T;rw[D,aK]at bc;have cP:=j.c2;rw[ba]at cP;have cq:=lC j S T;rw[aK]at cq;obtain⟨Ac,cc,U,cf,-⟩:=(j.body.rows d b S T).slice;rw[D]at U;rw[U]at cq;have aB:=qZ U;have cg:=qZ bc;have ad:=qZ j;have bG:=qZ q;have aC:=qZ D;have bd:=qZ ba;clear j q a9 D ba ab aw aK U cf bc;obtain⟨M,hM⟩:∃M,M=M0+k:=⟨_,rfl⟩;rw[←hM]at cq;have H:=qZ hM;replace hk:M≤P:=by rw[hM];exact hk
     clear hM;by_cases bf:M<P
     · have bH:(M:Int)<(P:Int):=by omega
       go_upto_region 6 with fail
       go_region;go_upto_region 7 with fail
       have an:=qZ (ad.drew);have aL:=(MM.Rh (w:=wr.drew) (base:=base) (g:=g) (Y:=n) (N:=r) (d:=d) (b:=b) (c:=zc) (0,z6)).s8 rfl;have bg:=qZ aL;have bh:=aL.own an S T rfl rfl;rw[aB.out,aC.out,←H.out]at bh;have ch:=qZ bh;have cj:=qZ (show base≤(wr.drew.alloc (.cells zc.v.toArray 112)).heap.size from by have:=aL.fr.size;have:=ad.out.Nv;have:=af an.head;omega);have bI:=qZ (show M≤8 by omega);have HX:=qZ (show(r.blk d b).cells.length+1≤r.P by rw[aC.out,bd.out];have:=H.out;omega);have ck:=qZ (show M+1=(r.blk d b).cells.length+1 by rw[aC.out,H.out]);have aM:=qZ (show n.q d b=Y.q d b by rw[aA.out.2]);clear aL bh cP;go_wp2_with (first|(refine ac rfl 112 _ rfl [] rfl zc.v Dx ?_)|(refine dL rfl 104 (.tmp 46) rfl 112 zc.v _ 34 34 rfl jw eu (by decide) (by decide) (by decide) ?_)|(at_builtin;go_must (refine aN rfl (.tmp 45) (.tmp 47) 104 rfl 112 _ 34 34 jw eu rfl (by decide) (base:=base) (B:=0) ch bg.low rfl rfl (nL Gc.1 (bg.one rfl rfl)) (fun cQ hr=>by rw[kr.1 hr];exact Cel.one _) (by have:=bI.out;unfold maxLen;omega) (by have:=bI.out;omega) cj (pz _) ?_;intro v9 w9 aO cm bJ bK;rw[ck.out]at aO;have aQ:=bg.out.s9 an S T rfl rfl aO (by rw[aB.out,←H.out];exact bJ) (by rw[aB.out,←H.out];exact bK);have bM:=aQ.s12 an S T rfl rfl HX Gc;obtain⟨A9,c9,rfl,-,-⟩:=aO.slice;have cn:=aQ.cell an S T rfl;have cp:=aQ.frozen an S T rfl;have bN:=qZ bM;clear aO cm bJ bK aQ bM;simp only[aM.out]at cn cp)));have bk:=bN.out.done rfl;have cr:=bN.out.fr;have ct:r.upd d b (Nw (r.blk d b) zc)=N1.upd d b (M7 (N1.blk d b) (k+1)):=by rw[bE.out,vY,bF.out,xc]
       rw[ct]at bk;go_roundw
       case rel=>exact⟨k+1,PE n d b _,by have:=H.out;omega,⟨aA.1,aA.2⟩,by rw[←aM.out];exact bk,bG.trans ((Fr.refl base g wr).drew.trans (by rw[←aM.out];exact cr))⟩
       case measure=>
        have e1:=cg.out;have e2:=xL bk (show d<N1.D from O) (show b<N1.B from R);rw[uQ]at e2;have e3:(M7 (N1.blk d b) (k+1)).cells.length=M0+(k+1):=by rw[aJ.out];simp[M7]
        have e4:=e2.trans e3;change QQ _ (n.q d b)=_ at e4;rw[aM.out]at e4;simp only at e4⊢;have:=H.out;first|(rw[e4,e1];omega)|(erw [e4,e1];omega)
     · obtain⟨gc,cR,e,-,-⟩:=aS (ad.body.rows d b S T).1 (by rw[aC.out,←H.out];have:=ad.out.ok.geo;have:=bd.out;omega)
       rw[aB.out,aC.out]at e;cases e
       have ax:=ad.out.ok.geo;have cS:M≤8:=by have:=bd.out;omega
       have cT:M=P:=by omega
       clear ax;go_upto_region 6 with fail
       go_region;go_wp2_with fail;obtain⟨X,V⟩:∃X,X=M7 (N1.blk d b) k:=⟨_,rfl⟩;have bl:=qZ V;have bO:X.cells.length=M:=by rw[V,H.out,aJ.out];simp[M7]
       have aR:=qZ bO;have cu:=qZ (show∀c∈X.cells,c.p.length=32∧∀y∈c.p,y<256 from fun c hc=>by rw[V,←bE.out]at hc;exact ad.ok.MV d b c hc);clear V bO;go_loopw [9,56] (fun _ i wx=>∃m:Nat,m≤M∧i=.int .i64 m∧JU wx base g n (N1.upd d b (Nr X m))∧Fr base g wr wx) (fun _ i _=>M-(y0 i).toNat)
       case atStart=>exact⟨0,by omega,rfl,by rw[vG,bl.out,←bF.out];exact ad.drew,(Fr.refl base g wr).drew⟩
       case round=>
        obtain⟨m,hm,rfl,j,q⟩:=hrel;by_cases cv:m<M
        · obtain⟨Nm,aq⟩:∃Nm,Nm=N1.upd d b (Nr X m):=⟨_,rfl⟩
          rw[←aq]at j;have aT:d<Nm.D:=by rw[aq];exact O
          have aU:b<Nm.B:=by rw[aq];exact R
          have aD:Nm.blk d b=Nr X m:=by rw[aq,uQ]
          obtain⟨c,aV⟩:∃c,X.cells[m]? =some c:=⟨_,ed (by rw[aR.out];exact cv)⟩;have bm:(Nm.blk d b).cells[m]? =some c:=by rw[aD,Ci];exact aV
          have au:=(cu _ (fj aV));have U:n.cv d b=.slice (some ⟨gc,0,none⟩) (Nm.blk d b).cells.length cc:=by rw[aD,qi,aR.out,H.out];exact aB
          have cw:=lC j aT aU;rw[U,aD,qi,aR.out,aA.out.2]at cw;have bP:c.v[32]? =some (.bool c.lost):=by rw[Cel.v,js (by rw[ah,au.1];exact hG _),ah,au.1];rfl
          have bQ:c.v.set 32 (.bool true)=(NK c).v:=by unfold Cel.v NK;rw[kd _ _ (by rw[ah,au.1];exact hG _),ah,au.1];rfl
          obtain⟨cl,fl⟩:=j.QE aT aU U bm bP;have hS:=j.Q6 aT aU U bm (by decide) bQ (show(NK c).p.length=32∧∀y∈(NK c).p,y<256 from au);rw[aD,vH X m aV,aq,xc]at hS;have bR:=qZ (eD hS.1 (q.trans hS.2));have bH:(m:Int)<(M:Int):=by omega
          clear hS bQ bP aV bm au aD U j q aq aT aU;go_wp2_with fail;go_roundw
          case rel=>exact⟨m+1,by omega,by go_num,bR.1,bR.2⟩
          case measure=>simp[y0];omega
        · obtain rfl:m=M:=by omega
          have HF:=qZ (a5.trans (bG.trans q));rw[bl.out,Ii (N1.blk d b) k P (by have:=aJ.out;have:=H.out;omega) (by rw[←bl.out,aR.out];exact hG _)]at j;have HZ:=qZ j;clear j q;go_wp2_with fail;go_ret;exact⟨by rw[I.out.1];rfl,⟨n,aA.1,by rw[I.out.2,←bD.out];exact HZ⟩,HF⟩
   |false=>
    rw[az.out.1]at z;cases av:(N.blk d b).fails with
    |true=>
     obtain⟨pe,G⟩:=a2.l2 al av;rw[←a7.out]at G;have I:=qZ (eD pe G);have c2:w4.cell? ⟨Y.q d b,2,none⟩=some (.bool true):=by rw[ae z,←av];rfl
     have c3:w4.cell? ⟨Y.q d b,3,none⟩=some (.bool (N.blk d b).met):=by rw[ae z];rfl
     have f3:=ao z 3;have bS:=qZ (a6.Qv O R {N.blk d b with met:=true} (by rw[az.out.1]) (ar (i:=3) z (.bool true)));clear pe G av al aa z;go_wp2_with fail;go_ret;exact⟨by rw[I.out.1];rfl,⟨Y,rfl,by rw[I.out.2];exact bS.1⟩,a5.trans bS.2⟩
    |false=>
     obtain⟨pe,G⟩:=a2.l3 al av;rw[←a7.out]at G;have I:=qZ (eD pe G);have c2:w4.cell? ⟨Y.q d b,2,none⟩=some (.bool false):=by rw[ae z,←av];rfl
     have c0:w4.cell? ⟨Y.q d b,0,none⟩=some (Y.cv d b):=by rw[ae z];rfl
     have f0:=ao z 0;have W:=ar (i:=0) z (.slice none 0 0);have c1:(w4.setCell ⟨Y.q d b,0,none⟩ (.slice none 0 0)).cell? ⟨Y.q d b,1,none⟩=some (.int .i64 ((N.blk d b).KP:Int)):=by rw[ae W.at_];rfl
     have f1:=ao W.at_ 1;have cU:wrap64 (((N.blk d b).KP:Int)+1)=((N.blk d b).KP:Int)+1:=by have:=HW.out.1;go_arith
     have U1:=ar (i:=1) W.at_ (.int .i64 (((N.blk d b).KP:Int)+1));obtain⟨X,V⟩:∃X:Blk,X={N.blk d b with cells:=[],KP:=(N.blk d b).KP+1}:=⟨_,rfl⟩;rw[←V]at I;have D:=a6.out.clear O R X (by rw[V]) (w2:=(w4.setCell ⟨Y.q d b,0,none⟩ (.slice none 0 0)).setCell ⟨Y.q d b,1,none⟩ (.int .i64 (((N.blk d b).KP:Int)+1))) ⟨U1.os.trans W.os,U1.tape.trans W.tape,U1.output.trans W.output,U1.size.trans W.size,by rw[U1.at_,V];rfl,fun k hk=>(U1.block k hk).trans (W.block k hk)⟩;obtain⟨l,bn⟩:∃l,l=PE Y d b (.slice none 0 0):=⟨_,rfl⟩;rw[←bn]at D;obtain⟨N3,bo⟩:∃N3,N3=N1.upd d b X:=⟨_,rfl⟩;rw[←bo]at D I;have bp:l.np=Y.np:=by rw[bn];rfl
     have bT:N3.Kt=N.Kt:=by rw[bo];exact az.2.1
     have c4:=D.1.c4;have CB:=qZ (spotBool.block l.gp l.bp l.np N3.Kt (d:Int) (b:Int) _ D.1.body.Kt (by rw[bp];exact HW.2));have bU:=qZ (eD D.1 (a5.trans D.2));have H3:=qZ (eD bp bT);clear pe G av al aa z W U1 D V bn bo bp bT;go_wp2_with fail;refine CB.out.mono ?_;rintro e w7 ⟨A8,c8,rfl,Z,bq⟩;have br:=qZ (bU.1.below bq);have cx:=qZ (bU.2.trans (Fr.KZ bq));obtain⟨E,aW⟩:∃E,E=Lv (d:Int) (b:Int) (Lq (N3.Kt.map (·.1))):=⟨_,rfl⟩;rw[←aW]at Z⊢;obtain⟨u,aX⟩:∃u,u=E.length:=⟨_,rfl⟩;rw[←aX]at Z⊢
     have cV:u≤100000:=by
      have h1:u≤N3.Kt.length:=by rw[aX,aW];unfold Lv Lq;exact hO (List.length_filter_le _ _) (by rw[List.length_mergeSort,List.length_map];exact hG _)
      obtain⟨-,Dp,ho,hR⟩:=br.body.Kt;have h2:=ho.size_le;rw[hR.size]at h2;have:=H3.out.1;have:=HW.out.2;omega
     have aE:=qZ (eD aW aX);have bV:=qZ Z;obtain⟨B8,bs⟩:∃B8,B8=w7.heap.size:=⟨_,rfl⟩;rw[←bs]at bV;have cy:=qZ bs;clear Z bq CB aW aX c4 bs;go_wp2_with fail;go_loopw [11,92] (fun _ i wr=>∃k:Nat,k≤u∧i=.int .i64 k∧JU wr base g l {N3 with Kt:=NF N3.Kt E k}∧Rds wr B8 A8 3 u (ads E)∧Fr base g w7 wr) (fun _ i _=>u-(y0 i).toNat)
     case atStart=>exact⟨0,by omega,rfl,by rw[ut];exact br,bV,Fr.refl _ _ _⟩
     case round=>
      obtain⟨k,hk,rfl,j,Z,q⟩:=hrel;by_cases bf:k<u
      · have bW:k<E.length:=by rw[←aE.out.2];exact bf
        obtain⟨x,aY⟩:∃x,E[k]? =some x:=⟨_,ed bW⟩;obtain⟨bb,oo,rfl,cW,bX⟩:=aH Z bf (r:=x.v) (by rw[ads,jd,aY];rfl);have bH:(k:Int)<(u:Int):=by omega
        have bt:=uu (f:=N3.Kt) aY
        have bY:x.wf:=by
         have h1:=fj aY;rw[aE.out.1]at h1;obtain⟨p,hp,he⟩:=l5.1 (tK.1 h1).1;have:=(br.ok.Kt p hp).2;rw[he]at this;exact this
        obtain⟨f8,bZ⟩:∃f8,f8=NF N3.Kt E k:=⟨_,rfl⟩;rw[←bZ]at j bt;obtain⟨NA,aZ⟩:∃NA:Nd,NA={N3 with Kt:=f8}:=⟨_,rfl⟩;obtain⟨NB,bu⟩:∃NB:Nd,NB={N3 with Kt:=LX f8 x}:=⟨_,rfl⟩;rw[←aZ]at j;obtain⟨a1,b0⟩:∃a1,a1=My f8 x:=⟨_,rfl⟩
        have b1:Hid (∀w',JU w' base g l NA→Rds w' B8 (some ⟨bb,oo,none⟩) 3 u (ads E)→B8≤w'.heap.size→Calls prog 62 #[l.gp,.agg x.v.toArray] w' fun e ak=>e=.returned (.bool a1)∧JU ak base g l NB∧Fr base g w' ak∧Rds ak B8 (some ⟨bb,oo,none⟩) 3 u (ads E)):=qZ fun w' j hr hB=>by
         have b2:=j.body.Kt;refine(spotBool.drop l.gp l.bp l.np NA.Kt x w' b2 bY).mono ?_;rintro e ak ⟨rfl,hS,hg⟩;obtain⟨cX,Dp,cz,cY⟩:=b2;obtain⟨op,cA,cB⟩:=di cz;have h2:=j.Qm hS hg fun p hp=>j.ok.Kt p (bj.1 hp).1
         refine⟨by rw[b0,aZ],?_,h2.2,Bq hr (by decide) hB hg cA cB⟩;have h3:=h2.1;rw[aZ]at h3;rw[bu];exact h3
        have cC:=qZ (show NB={N3 with Kt:=NF N3.Kt E (k+1)} by rw[bu,bt]);have cD:=qZ j;have cE:=qZ Z;have cF:=qZ q;have b3:=qZ (show B8≤wr.heap.size from by rw[cy.out];exact q.size);clear j Z q bt bY aY bZ aZ bu b0 bW;go_upto_region 22 with(first|(refine wpList_load_mid rfl 52 (.tmp 94) rfl bb (oo+k*3) rfl x.v _ bX l8 rfl bL ?_)|(refine ag rfl 52 (.tmp 11) (.tmp 95) rfl wr.heap.size x.v rfl rfl 52 _ (aj wr _ _ rfl) bL rfl (by simp[Ad.v,Value.oneCell']) ?_;intro w5 bw;have h5:=bw.at_;have aF:=bw.below ((jm _ wr).alloc (hG _) _) (hG _);clear bw))
        have cG:=qZ h5;have b4:=qZ (cD.below aF);have b5:=qZ (cE.below aF b3);have cI:=qZ (cF.trans (Fr.KZ aF));have cJ:=qZ (hO b3 aF.size);obtain⟨A8,b6⟩:∃A8:Option sT,A8=some ⟨bb,oo,none⟩:=⟨_,rfl⟩;rw[←b6]at b1 b5⊢;go_simp;clear h5 aF bX
        refine dz (X:=Unit) (fun _=> [(some 96,g),(some 97,g),(some 98,.pointer (some ⟨g,4,none⟩)),(some 99,l.gp),(some 100,.agg (x.v).toArray),(some 101,a1)])
         (fun _ L w'=>w'.heap[wr.heap.size]? =some (.cells x.v.toArray 52 (0,0))∧w'.cell? ⟨g,4,none⟩=some (.pointer (some ⟨l.gp,0,none⟩))∧(L 5=false→JU w' base g l NA)∧(L 5=true→JU w' base g l NB)∧Fr base g w5 w'∧Rds w' B8 A8 3 u (ads E)∧jI 0 w5 w') ⟨(),fun L hL=>⟨cG,b4.c4,(fun _=>b4.drew),(by rw[hL 5];intro h;cases h),(Fr.refl base g w5).drew,b5,(jm 0 w5).drew⟩⟩ ?_ ?_
        · refine⟨rr,rr,rr,?_,?_,?_,trivial⟩
          all_goals
           intro ux L w' hL hpre hJ a ha he;try simp[iP]at hpre
          · exact yfg
          · obtain⟨ja,jc,j1,j2,jf,jr,jb⟩:=hJ.out
            refine Wn ?_;exact ly 52 (.tmp 11) rfl wr.heap.size 0 ev (x.v) _ (ai ja) l8 rfl bL ⟨(),_,rfl,rfl,ja,jc,j1,j2,jf,jr,jb⟩
          · have cK:=qZ (hJ.out.2.2.1 hL)
            refine dM ?_;intro K HK;refine(b1 w' cK.out hJ.out.2.2.2.2.2.1 (hO cJ hJ.out.2.2.2.2.1.size)).mono ?_;rintro e ak ⟨rfl,b7,b8,cL⟩;have aG:=hJ.out.2.2.2.2.1.trans b8;exact HK _ _ ⟨(),_,rfl,rfl,b8.blk hJ.out.1 rfl,b7.c4,fun h=>by simp[JW]at h,fun _=>b7,aG,cL,⟨aG.os,aG.tape,aG.output,aG.size,fun k hk=>absurd hk (qc k)⟩⟩
        · intro _ L w' hL hJ
          obtain⟨ja,jc,j1,j2,jf,jr,jb⟩:=hJ;have h5:=hL 5 (by decide);clear hL;simp only[eX,fo];have cM:=qZ (j2 h5);have cN:=qZ jf;have cO:=qZ jr;clear ja jc j1 j2 jf jr jb;go_simp;go_wp2_with fail;go_roundw
          case rel=>exact⟨k+1,by omega,by go_num,by rw[←cC.out];exact cM,by rw[←b6];exact cO,cI.trans cN⟩
          case measure=>simp[y0];omega
      · obtain rfl:k=u:=by omega
        have HZ:=qZ j;have HF:=qZ (cx.trans q);clear j q Z;go_wp2_with fail;go_ret;refine⟨by rw[I.out.1];rfl,⟨l,H3.1,?_⟩,HF⟩;rw[I.out.2];have h1:=HZ.out;rw[aE.out.1,wt (by rw[←aE.out.1,←aE.out.2];exact hG _),H3.out.2]at h1;exact h1
end
def Flt.wf(f:Flt):Prop:=Lit.wf (.int .i64 f.at_)∧Lit.wf (.int .i64 f.k)∧f.a.wf∧Lit.wf (.int .i64 f.n)∧Lit.wf (.int .i64 f.x)
section
variable {w:hZ}{k:Nat}{f:Flt}{t:zl}{fr:Nat×Nat}
theorem uf(h:w.heap[k]? =some (.cells f.v.toArray t fr)):w.rangeAt k 2 f.a.v:=bN h [.int .i64 f.at_,.int .i64 f.k] f.a.v [.int .i64 f.n,.int .i64 f.x] rfl 2 rfl
theorem vW(h:w.heap[k]? =some (.cells f.v.toArray t fr)):w.cell? ⟨k,1,none⟩=some (.int .i64 f.k):=by rw[ae h];rfl
theorem vV(h:w.heap[k]? =some (.cells f.v.toArray t fr)):w.cell? ⟨k,2,none⟩=some (.int .i64 f.d):=by rw[ae h];rfl
theorem Hw(h:w.heap[k]? =some (.cells f.v.toArray t fr)):w.cell? ⟨k,3,none⟩=some (.int .i64 f.b):=by rw[ae h];rfl
theorem CQ(h:w.heap[k]? =some (.cells f.v.toArray t fr)):w.cell? ⟨k,4,none⟩=some (.int .i64 f.p):=by rw[ae h];rfl
theorem Hv(h:w.heap[k]? =some (.cells f.v.toArray t fr)):w.cell? ⟨k,5,none⟩=some (.int .i64 f.n):=by rw[ae h];rfl
theorem Hu(h:w.heap[k]? =some (.cells f.v.toArray t fr)):w.cell? ⟨k,6,none⟩=some (.int .i64 f.x):=by rw[ae h];rfl
end
theorem Cc{f:List (Ad×gg)}{a:Ad}{v:gg}{p:Ad×gg}(h:p∈Oz f a v):p=(a,v)∨p∈f:=by
 unfold Oz at h;rcases List.mem_cons.1 h with h|h
 · simp_all
 · exact .inr (bj.1 h).1
theorem BG{w:hZ}{base n c b i:Nat}{e:zl}{g:List gg}(h:w.ownsRow base e 1 (.slice (some ⟨b,0,none⟩) n c) n g)(r:i<n)(u:gg):
 (w.setCell ⟨b,i,none⟩ u).ownsRow base e 1 (.slice (some ⟨b,0,none⟩) n c) n (g.set i u)∧(∃o,Upd b o w (w.setCell ⟨b,i,none⟩ u))∧(∃v,w.cell? ⟨b,i,none⟩=some v∧g[i]? =some v)∧w.frozen? ⟨b,i,none⟩=false:=by
 rcases h.2 with⟨l,-⟩|⟨t,z,f,m,p,j,k1,k2,k3,q⟩
 · cases l
 · cases m
   have k:=ar (i:=i) (cs:=f.toList) (by simpa using j) u;refine⟨⟨by grind,.inr ⟨b,c,(f.toList.set i u).toArray,rfl,p,k.at_,k1,k2,by simp_all,?_⟩⟩,⟨_,k⟩,?_,ao j i⟩
   · rw[←q];simp[r4]
   · have A:i<f.size:=by omega
     refine⟨f[i],by rw[ae j];simp,?_⟩;grind
theorem AF(a b:Nat)(c:a<256)(e:b<256):bits .xor .u8 (a:Int) (b:Int)=((a^^^b:Nat):Int):=u8_xor_nat a b c e
theorem wrap_u8(x:Int):IntKind.u8.wrap x=(((x%256).toNat:Nat):Int):=by
 have:IntKind.u8.wrap x=x%256:=rfl
 omega
structure Rp (N:Nd) (f:Flt) (d b q:Nat):Prop where
 k1:f.k=1→N.KB f=true∧N.KF f={N with Kt:=Oz N.Kt f.a (.bool true)}
 k2:f.k=2→N.KB f=true∧N.KF f=N.upd d b {N.blk d b with fails:=true}
 k3:f.k=3→(N.blk d b).cells.length≤q→N.KB f=true∧N.KF f=N
 k3':∀c,f.k=3→(N.blk d b).cells[q]? =some c→N.KB f=true∧N.KF f=N.upd d b {N.blk d b with cells:=(N.blk d b).cells.set q ⟨c.p,true,c.turned⟩}
 k4:f.k=4→N.KB f=true∧N.KF f={N with dead:=N.dead.set d true}
 k5:f.k=5→(f.n<0∨32≤f.n)→N.KB f=false∧N.KF f=N
 k5a:f.k=5→0≤f.n→f.n<32→(N.blk d b).cells.length≤q→N.KB f=true∧N.KF f=N
 k5b:∀c,f.k=5→0≤f.n→f.n<32→(N.blk d b).cells[q]? =some c→c.turned=true→N.KB f=false∧N.KF f=N
 k5c:∀c,f.k=5→0≤f.n→f.n<32→(N.blk d b).cells[q]? =some c→c.turned=false→c.lost=true→N.KB f=true∧N.KF f=N
 k5d:∀c,f.k=5→0≤f.n→f.n<32→(N.blk d b).cells[q]? =some c→c.turned=false→c.lost=false→N.KB f=true∧N.KF f=N.upd d b {N.blk d b with cells:=(N.blk d b).cells.set q ⟨flip c.p f.n.toNat f.x,false,true⟩}
 k0:f.k≠1→f.k≠2→f.k≠3→f.k≠4→f.k≠5→N.KB f=false∧N.KF f=N
theorem Bf{b:Type}{l:List b}{i:Nat}{c:b}(h:l[i]? =some c):l.set i c=l:=by
 apply jg;grind
theorem ui{N:Nd}{f:Flt}{d b q:Nat}(j:N.inG f.a=true)(t:f.d.toNat=d)(u:f.b.toNat=b)(w:f.p=(q:Int)):Rp N f d b q:=by
 have l:N.at f.a=N.blk d b:=by simp[Nd.at,Flt.a,t,u]
 have n:∀M X,Nd.put M f.a X=M.upd d b X:=fun M X=>by simp[Nd.put,Flt.a,t,u]
 have o:f.p.toNat=q:=by rw[w];rfl
 have z:f.a.p.toNat=q:=o;have r:N.cell? f.a=(N.blk d b).cells[q]? :=by simp[Nd.cell?,l,z]
 refine⟨fun h=> ?_,fun h=> ?_,fun h g=> ?_,fun c h g=> ?_,fun h=> ?_,fun h g=> ?_,fun h g k i=> ?_,fun c h g k i m=> ?_,fun c h g k i m p=> ?_,fun c h g k i m p=> ?_,fun g k i m p=> ?_⟩
 · have e:N.KB f=true:=by simp[Nd.KB,j,h]
   exact⟨e,by simp[Nd.KF,e,h]⟩
 · have e:N.KB f=true:=by simp[Nd.KB,j,h]
   exact⟨e,by simp[Nd.KF,e,h,n,l]⟩
 · have e:N.KB f=true:=by simp[Nd.KB,j,h]
   refine⟨e,?_⟩;simp only[Nd.KF,e,h,n,l,o,Blk.change,mm _ g];simp;exact jM N d b
 · have e:N.KB f=true:=by simp[Nd.KB,j,h]
   refine⟨e,?_⟩;simp only[Nd.KF,e,h,n,l,o,Blk.change,ji _ g];simp
 · have e:N.KB f=true:=by simp[Nd.KB,j,h]
   exact⟨e,by simp[Nd.KF,e,h,t]⟩
 · have e:N.KB f=false:=by simp[Nd.KB,j,h];omega
   exact⟨e,by simp[Nd.KF,e]⟩
 · have e:N.KB f=true:=by simp[Nd.KB,j,h,r,hX i,g,k]
   refine⟨e,?_⟩;simp only[Nd.KF,e,h,n,l,o,Blk.change,mm _ i];simp;exact jM N d b
 · have e:N.KB f=false:=by simp[Nd.KB,j,h,r,i,m]
   exact⟨e,by simp[Nd.KF,e]⟩
 · have e:N.KB f=true:=by simp[Nd.KB,j,h,r,i,m,g,k]
   refine⟨e,?_⟩;simp only[Nd.KF,e,h,n,l,o,Blk.change,ji _ i,p];simp[Bf i];exact jM N d b
 · have e:N.KB f=true:=by simp[Nd.KB,j,h,r,i,m,g,k]
   refine⟨e,?_⟩;simp only[Nd.KF,e,h,n,l,o,Blk.change,ji _ i,p];simp
 · have e:N.KB f=false:=by simp[Nd.KB,j,g,k,i,m,p]
   exact⟨e,by simp[Nd.KF,e]⟩
theorem Cm{c:hZ}{base g:Nat}{Y:Lay}{N:Nd}(h:JU c base g Y N){f:Flt}(e:N.inG f.a=true){d b:Nat}(i:f.a.d.toNat=d)(j:f.a.b.toNat=b):(Instr.lookup 77 (.map (some Y.mb)) (.agg (key f.d f.b).v.toArray) false).run prog c=.ok (.pointer (some ⟨Y.q d b,0,none⟩)) c:=by
 have:=rg h e c;rw[i,j]at this;exact this
end JT
theorem yfs{A:Prop}(h:A:=by
 refine⟨rr,rr,rr,rr,rr,rr,?_,rr,?_,?_,rr,rr,trivial⟩
 all_goals
  intro ux L w' hL hpre hJ a ha he;try simp[Region.binds]at hpre
 · obtain⟨jf,jn,jb⟩:=hJ.out
   refine Wy ?_;exact wp_load_mid 23 (.tmp 12) rfl g 0 (aZ 5) [.int .i64 (N.D:Int),.int .i64 (N.B:Int),.int .i64 (N.P:Int)] _ (lw jn) underlying23 rfl cN ⟨(),_,rfl,rfl,jf,jn,jb⟩
 · obtain⟨jf,jn,jb⟩:=hJ.out
   refine Wy ?_;exact wp_load_mid 52 (.tmp 14) rfl w.heap.size 2 (aZ 7) f.a.v _ (uf jf) underlying52 rfl bL ⟨(),_,rfl,rfl,jf,jn,jb⟩
 · refine dM ?_
   intro K HK;refine(HIn w').mono ?_;rintro e w'' ⟨rfl,hb⟩;exact HK _ _ ⟨(),_,rfl,rfl,aa hJ.out.1 hb,(JU.below hJ.out.2.1 hb),hJ.out.2.2.trans (hb.mono hJ.out.2.2.size)⟩):A:=h
theorem yc3{A:Prop}(h:A:=by
 go_region;go_wp2_with fail;go_ret;exact⟨by rw[HPL.out.1];rfl,⟨Y,Nat.le_succ _,by rw[HPL.out.2];exact HS.1.drew⟩,HFR.trans HS.2.drew⟩):A:=h
namespace JT
section
variable {w:hZ}{base g:Nat}{Y:Lay}{N:Nd}
theorem F9(h:JU w base g Y N)(f:Flt)(hf:f.wf)(hk:f.k=3∨f.k=4)(aj:Y.np≤100000):
 Calls prog 45 #[.pointer (some ⟨g,0,none⟩),.agg f.v.toArray] w fun e w'=>e=.returned (.bool (N.KB f))∧(∃Y',Y'.np≤Y.np+1∧JU w' base g Y' (N.KF f))∧Fr base g w w':=by
 have HK:=qZ hk;clear hk;have ay:=JY;have ab:=(jm _ w).alloc (hG _) (.cells f.v.toArray 75);have ha:=heap_alloc_new w (.cells f.v.toArray 75);have hN:=h.below ab;have z:=h.ok.geo
 have D:∀w,Calls prog 80 #[.agg ([.int .i64 (N.D:Int),.int .i64 (N.B:Int),.int .i64 (N.P:Int)]).toArray,.agg f.a.v.toArray] w fun e w'=>e=.returned (.bool (N.inG f.a))∧jI w.heap.size w w':=fun w=>by
  have:=jA (N.D:Int) (N.B:Int) (N.P:Int) f.a.d f.a.b f.a.p w (by omega) (by omega) (by omega);rw[oC]at this;exact this
 have r:=qZ ha;have E:=qZ hN;have HB:=qZ ab;have aK:=qZ hf;have aL:=qZ aj;have aM:=qZ (show base≤w.heap.size from ps (kn h.Nv.1 (af h.head)));clear h ha hN ab hf z aj;go_enter func45, ntmps45;go_upto_region 1 with fail
 change Code.wp _ _ _ _ (w.alloc (.cells f.v.toArray 75));generalize w.alloc (.cells f.v.toArray 75)=w1 at*;cases m:N.inG f.a with
 |false=>
  rw[m]at D;have HIn:=qZ D;have HPL:=qZ (show N.KB f=false∧N.KF f=N by have hB:N.KB f=false:=(by simp[Nd.KB,m]);exact⟨hB,by simp[Nd.KF,hB]⟩);clear D m
  refine dz (X:=Unit) (fun _=> [(some 7,.pointer (some ⟨g,0,none⟩)),(some 8,.bool false),(some 9,.bool false),(some 10,.pointer (some ⟨g,0,none⟩)),(some 11,.pointer (some ⟨g,0,none⟩)),(some 12,.pointer (some ⟨g,0,none⟩)),(some 13,.agg ([.int .i64 (N.D:Int),.int .i64 (N.B:Int),.int .i64 (N.P:Int)]).toArray),(some 14,.pointer (some ⟨w.heap.size,2,none⟩)),(some 15,.agg f.a.v.toArray),(some 16,.bool false),(some 17,.bool true),(some 18,.bool true)])
   (fun _ L w'=>w'.heap[w.heap.size]? =some (.cells f.v.toArray 75 (0,0))∧JU w' base g Y N∧jI w.heap.size w w') ⟨(),fun _ _=>⟨r,(E.drew),HB.drew⟩⟩ ?_ ?_
  · exact yfs
  · intro _ L w' hL hJ
    obtain⟨jf,jn,jb⟩:=hJ;clear hL;simp only[eX,fo];go_simp;go_wp2_with fail;go_ret;exact⟨by rw[HPL.out.1];rfl,⟨Y,zd _,by rw[HPL.out.2];exact jn⟩,Fr.KZ jb⟩
 |true=>
  rw[m]at D;have HIn:=qZ D;have ak:=lq m;obtain⟨d,hd⟩:∃d,f.d.toNat=d:=⟨_,rfl⟩;obtain⟨b,hb⟩:∃b,f.b.toNat=b:=⟨_,rfl⟩;obtain⟨q,hq⟩:=ej (show 0≤f.p from ak.2.2.1);have k:=qZ (show d<N.D by have:f.a.d=f.d:=rfl;omega);have n:=qZ (show b<N.B by have:f.a.b=f.b:=rfl;omega);have az:=qZ (show f.d=(d:Int) by have:f.a.d=f.d:=rfl;omega);have ad:=qZ (ui m hd hb hq);have aA:=qZ m;have aB:=qZ (show f.a.d.toNat=d from hd);have aC:=qZ (show f.a.b.toNat=b from hb);have HQ:=qZ hq;clear D m ak hd hb hq
  refine dz (X:=Unit) (fun _=> [(some 7,.pointer (some ⟨g,0,none⟩)),(some 8,.bool false),(some 9,.bool false),(some 10,.pointer (some ⟨g,0,none⟩)),(some 11,.pointer (some ⟨g,0,none⟩)),(some 12,.pointer (some ⟨g,0,none⟩)),(some 13,.agg ([.int .i64 (N.D:Int),.int .i64 (N.B:Int),.int .i64 (N.P:Int)]).toArray),(some 14,.pointer (some ⟨w.heap.size,2,none⟩)),(some 15,.agg f.a.v.toArray),(some 16,.bool true),(some 17,.bool false),(some 18,.bool false)])
   (fun _ L w'=>w'.heap[w.heap.size]? =some (.cells f.v.toArray 75 (0,0))∧JU w' base g Y N∧jI w.heap.size w w') ⟨(),fun _ _=>⟨r,(E.drew),HB.drew⟩⟩ ?_ ?_
  · exact yfs
  · intro _ L w' hL hJ
    obtain⟨jf,jn,jb⟩:=hJ;clear hL;simp only[eX,fo];go_simp;have al:=qZ jf;have an:=qZ jn;have ao:=qZ jb;clear jf jn jb;clear r E;have r:=al;have E:=an;go_upto_region 3 with fail
    refine dz (X:=Unit) (fun _=> [(some 19,.pointer (some ⟨g,0,none⟩)),(some 20,.pointer (some ⟨g,0,none⟩)),(some 21,.pointer (some ⟨g,3,none⟩)),(some 22,.map (some Y.mb)),(some 23,.pointer (some ⟨w.heap.size,2,none⟩)),(some 24,.pointer (some ⟨w.heap.size,2,none⟩)),(some 25,.int .i64 f.d),(some 26,.pointer (some ⟨w.heap.size,2,none⟩)),(some 27,.pointer (some ⟨w.heap.size,3,none⟩)),(some 28,.int .i64 f.b),(some 29,.agg (key f.d f.b).v.toArray),(some 30,.pointer (some ⟨Y.q d b,0,none⟩)),(some 5,.pointer (some ⟨Y.q d b,0,none⟩))])
     (fun _ L w'=>w'.heap[w.heap.size]? =some (.cells f.v.toArray 75 (0,0))∧JU w' base g Y N∧jI w.heap.size w w') ⟨(),fun _ _=>⟨r,(E.drew),ao.drew⟩⟩ ?_ ?_
    · refine⟨rr,rr,rr,?_,rr,rr,?_,rr,rr,?_,?_,?_,rr,trivial⟩
      all_goals
       intro ux L w' hL hpre hJ a ha he;try simp[iP]at hpre
      · have cc:=hJ.out.2.1.c3
        exact cH
      · have cc:=vV hJ.out.1
        exact cH
      · have cc:=Hw hJ.out.1
        exact cH
      · refine dM ?_
        intro K HK;refine(fY f.d f.b w').mono ?_;exact ya6
      · have cc:=Cm hJ.out.2.1 aA aB aC
        exact cH
    · intro _ L w' hL hJ
      obtain⟨jf,jn,jb⟩:=hJ;clear hL;simp only[eX,fo];go_simp;have I:=qZ jf;have j:=qZ jn;have aq:=qZ (Fr.KZ (base:=base) (g:=g) jb);have T:=CQ jf;rw[HQ.out]at T;have U:=vW jf;obtain⟨Ac,cp,l,aD,-⟩:=(jn.body.rows d b k n).slice;have O:=lC jn k n;rw[l]at O;have aE:=qZ (jn.body.rows d b k n).1;have ar:=jn.ok.len d b;have z:=jn.ok.geo;have aN:=qZ (jn.ok.MV d b);have aF:=qZ l;have aG:=qZ (jn.body.blk d b k n);obtain⟨M,hM⟩:∃M,M=(N.blk d b).cells.length:=⟨_,rfl⟩;rw[←hM]at O l ar;have R:=qZ hM;have ae:=qZ l;replace ar:M≤8:=by omega
      clear jf jn jb l aD z hM;obtain⟨there,u⟩:∃there,there=decide (q<M):=⟨_,rfl⟩;have au:=qZ u;go_upto_region 4 with fail
      go_region;rw[←u];clear u O T U ay;have ag:=qZ (show w'.drew.heap[w.heap.size]? =some (.cells f.v.toArray 75 (0,0))from I);have av:=qZ (show JU w'.drew base g Y N from j.drew);have HFR:=qZ (aq.trans (Fr.refl base g w').drew);clear I j aq al an ao r E aF aG aE;generalize w'.drew=ws at*;have I:=ag;have r:=ag;have j:=av;have aO:=av;have U:=vW ag;by_cases V:f.k=1
      · exact absurd V (by have:=HK.out;omega)
      by_cases W:f.k=2
      · exact absurd W (by have:=HK.out;omega)
      by_cases G:f.k=3
      · rw[G]at U
        by_cases aH:q<M
        · have u:there=true:=by rw[au.out];simp;exact aH
          subst u;obtain⟨gc,aQ,e,-,-⟩:=aS (j.body.rows d b k n).1 (by rw[←R.out];omega);rw[←R.out]at e;rw[ae.out]at e;cases e
          obtain⟨c,S⟩:∃c,(N.blk d b).cells[q]? =some c:=⟨_,ed (by rw[←R.out];omega)⟩;have H:=j.out.ok.MV d b c (fj S);have HPL:=qZ (ad.k3' c G S);have l:Y.cv d b=.slice (some ⟨gc,0,none⟩) (N.blk d b).cells.length cp:=by rw[←R.out];exact ae
          have aw:c.v[32]? =some (.bool c.lost):=by rw[Cel.v,js (by rw[ah,H.1];omega),ah,H.1];rfl
          have ax:c.v.set 32 (.bool true)=(NK c).v:=by unfold Cel.v NK;rw[kd _ _ (by rw[ah,H.1];omega),ah,H.1];rfl
          obtain⟨cl,fl⟩:=j.QE k n l S aw;have HS:=qZ (j.Q6 k n l S (by decide) ax (show(NK c).p.length=32∧∀y∈(NK c).p,y<256 from H));have O:=lC j k n;rw[ae.out]at O;have T:=CQ I;rw[HQ.out]at T;have aR:(q:Int)<(M:Int):=by omega
          clear ax aw S H l V W G;go_upto_region 13 with fail
          exact yc3
        · have u:there=false:=by rw[au.out];simp;omega
          subst u;have HPL:=qZ (ad.k3 G (by rw[←R.out];omega));clear V W G;go_wp2_with fail;go_ret;exact⟨by rw[HPL.out.1];rfl,⟨Y,zd _,by rw[HPL.out.2];exact j⟩,HFR⟩
      by_cases ai:f.k=4
      · have HPL:=qZ (ad.k4 ai)
        rw[ai]at U;have z:=j.out.ok.geo;have aI:=j.out.ok.dead;have Z:=j.out.body.dead;obtain⟨gd,cd,e,-,-⟩:=aS Z (by omega);have c5:=j.out.c5;rw[e]at c5 Z;obtain⟨ho,⟨oo,hU⟩,⟨vv,cv,-⟩,fd⟩:=BG Z k (.bool true);have hg:ws.grownBy (ws.setCell ⟨gd,d,none⟩ (.bool true)) Y.dv.ownBlock:=by rw[e];exact dr hU
        have HS:=qZ (j.PJ (dd:=N.dead.set d true) hg (by simp_all) (by simp_all));have aJ:=vV I;rw[az.out]at aJ;have aT:(d:Int)<(N.D:Int):=by have:=k.out;omega
        have aU:N.D≤6:=z.2.1;clear z aI Z e ho hU hg V W G ai;go_upto_region 15 with fail
        exact yc3
      exact absurd HK.out (by omega)
end
def OY(d b p:Int):List gg:=[.int .i64 d,.int .i64 b,.int .i64 p]
theorem Fz(d b p:Int):∀v∈OY d b p,v.oneCell'=true:=by simp[OY,Value.oneCell']
theorem rz{w:hZ}{base g:Nat}{Y:Lay}{N:Nd}(h:JU w base g Y N):Calls prog 20 #[.pointer (some ⟨g,0,none⟩)] w fun e f=>e=.returned (.agg (OY N.D N.B N.P).toArray)∧jI w.heap.size w f:=by
 have l:=JY;have c:=(jm _ w).alloc (hG _) (.cells #[.int .i64 0,.int .i64 0,.int .i64 0] 23);have i:=lw (h.below c);clear h;go_enter func20, ntmps20;go_wp2_with (first|(refine wpList_load_mid rfl 23 (.tmp 8) rfl g 0 rfl (OY N.D N.B N.P) _ i tr rfl cN ?_)|(refine ag rfl 23 (.tmp 2) (.tmp 9) rfl w.heap.size (OY N.D N.B N.P) rfl rfl 23 _ (aj w _ _ rfl) cN rfl (Fz _ _ _) ?_;intro m b;have j:=b.at_;have k:=b.below c (hG _);clear b));refine bodyPost_ret (v:=.agg (OY N.D N.B N.P).toArray) ?_ rfl ⟨rfl,k⟩;rw[dU rfl _ _ _ _ _ _ _ rfl j tr rfl cN]
end JT
theorem ydz{A:Prop}(h:A:=by
 rintro e w' ⟨rfl,⟨Y',e',hn⟩,hf⟩;exact⟨rfl,⟨Y',by omega,hn⟩,hf⟩):A:=h
theorem yd9{A:Prop}(h:A:=by
 have:=Option.some.inj ho;subst this;cases e):A:=h
namespace JT
def JS(w:hZ)(base g m:Nat)(N:Nd):Prop:=∃Y:Lay,Y.np≤m∧JU w base g Y N
section
variable {w w':hZ}{base g m:Nat}{Y:Lay}{N:Nd}
theorem JS.ok(h:JS w base g m N):N.ok:=by obtain⟨Y,-,h⟩:=h;exact h.ok
theorem JS.below(h:JS w base g m N)(hb:jI w.heap.size w w'):JS w' base g m N:=by obtain⟨Y,h1,h⟩:=h;exact⟨Y,h1,h.below hb⟩
theorem JS.drew(h:JS w base g m N):JS w.drew base g m N:=by obtain⟨Y,b,h⟩:=h;exact⟨Y,b,h.drew⟩
theorem JS.mono(h:JS w base g m N){b:Nat}(c:m≤b):JS w base g b N:=by obtain⟨Y,e,h⟩:=h;exact⟨Y,hO e c,h⟩
theorem JS.low(h:JS w base g m N):base≤w.heap.size:=by
 obtain⟨Y,-,h⟩:=h;exact ps (kn h.Nv.1 (af h.head))
theorem JS.lt(h:JS w base g m N):g<w.heap.size:=by
 obtain⟨Y,-,h⟩:=h;exact af h.head
theorem JS.keep(h:JS w base g m N){S:Nat→Prop}(i:Kj S w w')(r:∀k,S k→(∃l t fr,w.heap[k]? =some (.cells l t fr)∧Ko t=false)∨(g<k∧∃o,w.heap[k]? =some o∧Kn o=none)):JS w' base g m N:=by
 obtain⟨Y,u,h⟩:=h
 have n:∀k o,w.heap[k]? =some o→(∀t,Kn o=some t→Ko t=true)→(Kn o=none→k≤g)→¬S k:=fun k o ho z E B=>by
  rcases r k B with⟨l,t,fr,c,f⟩|⟨c,G,f,H⟩
  · rw[c]at ho
    have:=Option.some.inj ho;subst this;rw[z t rfl]at f;cases f
  grind
 refine⟨Y,u,h.ok,(i.block g (af h.head) (n g _ h.head (fun t e=>by cases e;rfl) (fun e=>by cases e))).trans h.head,h.Nv,h.body.keep fun j hj=> ?_⟩;obtain⟨o,ho,C,-⟩:=h.body.QS hj;refine i.block j (h.body.lt hj) (n j o ho (fun t e=>(C t e).1) fun e=> ?_);rcases hj with rfl|rfl|rfl|hj|⟨d,b,p,q,rfl|hj⟩
 · exact h.Nv.2.2
 · rw[h.body.Kt.1]at ho
   exact yd9
 · exact h.Nv.2.1
 · obtain⟨D,c,f⟩:=aU h.body.dead hj
   rw[c]at ho;exact yd9
 · rw[h.body.blk d b p q]at ho
   exact yd9
 · obtain⟨D,c,f⟩:=aU (h.body.rows d b p q).1 hj
   rw[c]at ho;exact yd9
theorem JS.other(h:JS w base g m N){k:Nat}{b:Array gg}{t:zl}{fr:Nat×Nat}(c:w.grownBy w' (some k))(e:w.heap[k]? =some (.cells b t fr))(f:Ko t=false):JS w' base g m N:=by
 obtain⟨Y,i,h⟩:=h;exact⟨Y,i,h.other c e f⟩
theorem vu(h:JU w base g Y N)(x:Ad)(q:x.wf)(c:N.Kg x≠0)(p:List Nat):
 Calls prog 32 #[g,.agg x.v.toArray,.agg (An .u8 p).toArray] w fun e w'=>e=.returned (.int .i64 (N.Kg x))∧jI w.heap.size w w':=by
 have f:=cG w (.cells x.v.toArray 52) (.cells (An .u8 p).toArray 55);have ha:=bu w (.cells x.v.toArray 52) (.cells (An .u8 p).toArray 55);have k:=h.below f;clear h;go_enter func32, ntmps32;go_upto_region 1 with fail
 change Code.wp _ _ _ _ ((w.alloc (.cells x.v.toArray 52)).alloc (.cells (An .u8 p).toArray 55));generalize (w.alloc (.cells x.v.toArray 52)).alloc (.cells (An .u8 p).toArray 55)=D at*;obtain⟨c0,c1,c2⟩:=cM ha;have l:=qZ (dG k x q);have i:=qZ f;clear ha k f;go_wp2_with fail;refine l.out.mono ?_;rintro e E ⟨rfl,n⟩;have r:=qZ (i.out.trans (n.mono i.out.size));have u:(N.Kg x==0)=false:=by simpa using c
 have z:(N.Kg x !=0)=true:=by simpa using c
 obtain⟨rr,j⟩:∃rr,rr=N.Kg x:=⟨_,rfl⟩;rw[←j]at u z⊢;have C:=qZ j;clear c n l i j;go_wp2_with fail;go_ret;exact⟨by rw[←C.out];rfl,r.out⟩
theorem gE(h:JS w base g m N)(x:Ad)(c:x.wf)(p:List Nat)(i:p.length=32)(j:∀y∈p,y<256)(k:N.ops≤1000000000000000)(l:N.broken≤1000000000000000):
 Calls prog 32 #[g,.agg x.v.toArray,.agg (An .u8 p).toArray] w fun e w'=>e=.returned (.int .i64 (N.Kv x p))∧JS w' base g m (N.Kq x p)∧Fr base g w w':=by
 obtain⟨Y,n,h⟩:=h;by_cases b:N.Kg x=0
 · obtain⟨-,o,-⟩:=dV b
   have r:=lq o;obtain⟨q,t⟩:=ej r.2.2.1;refine(vw h x c _ _ q rfl rfl t b p i j k l).mono ?_;exact ydz
 · refine(vu h x c b p).mono ?_
   rintro e w' ⟨rfl,f⟩;have e1:N.Kv x p=N.Kg x:=by simp[Nd.Kv,b]
   have e2:N.Kq x p=N:=by simp[Nd.Kq,b]
   rw[e1,e2];exact⟨rfl,⟨Y,n,h.below f⟩,Fr.KZ f⟩
theorem Da(h:JU w base g Y N)(d b:Int)(n:(key d b).wf)(f:N.Kg (key d b)≠0):
 Calls prog 173 #[g,d,b] w fun e w'=>e=.returned (.int .i64 (N.Kg (key d b)))∧jI w.heap.size w w':=by
 have j:=qZ h;clear h;go_enter func173, ntmps173;go_wp2_with fail;refine(fY _ _ _).mono ?_;rintro e z ⟨rfl,c⟩;have k:=qZ (dG (j.out.below c) (key d b) n);go_wp2_with fail;refine k.out.mono ?_;rintro e C ⟨rfl,l⟩;have p:=qZ (c.trans (l.mono c.size));have q:(N.Kg (key d b)==0)=false:=by simpa using f
 have r:(N.Kg (key d b) !=0)=true:=by simpa using f
 obtain⟨rr,i⟩:∃rr,rr=N.Kg (key d b):=⟨_,rfl⟩;rw[←i]at q r⊢;have u:=qZ i;clear c l k j f i;go_wp2_with fail;go_ret;exact⟨by rw[←u.out];rfl,p.out⟩
theorem zH(h:JS w base g m N)(d b:Int)(l:(key d b).wf)(n:N.ops≤1000000000000000)(o:(N.blk d.toNat b.toNat).KP≤1000000000000000)(t:m≤100000):
 Calls prog 173 #[g,d,b] w fun e w'=>e=.returned (.int .i64 (N.L6 d b))∧JS w' base g m (N.Lh d b)∧Fr base g w w':=by
 obtain⟨Y,p,h⟩:=h;by_cases c:N.Kg (key d b)=0
 · obtain⟨-,q,-⟩:=dV c
   have k:=lq q;obtain⟨f,r⟩:=ej (show 0≤d from k.1.1);obtain⟨i,j⟩:=ej (show 0≤b from k.2.1.1);subst r j;refine(Db h f i (by have:(key (f:Int) (i:Int)).d=f:=rfl;omega) (by have:(key (f:Int) (i:Int)).b=i:=rfl;omega) c n o (by omega)).mono ?_;exact ydz
 · refine(Da h d b l c).mono ?_
   rintro e w' ⟨rfl,j⟩;have e1:N.L6 d b=N.Kg (key d b):=by simp[Nd.L6,c]
   have e2:N.Lh d b=N:=by simp[Nd.Lh,c]
   rw[e1,e2];exact⟨rfl,⟨Y,p,h.below j⟩,Fr.KZ j⟩
theorem qw(h:JS w base g m N)(f:Flt)(hf:f.wf)(b:f.k=3∨f.k=4)(c:m≤100000):
 Calls prog 45 #[g,.agg f.v.toArray] w fun e w'=>e=.returned (.bool (N.KB f))∧JS w' base g (m+1) (N.KF f)∧Fr base g w w':=by
 obtain⟨Y,i,h⟩:=h;refine(F9 h f hf b (by omega)).mono ?_;exact ydz
theorem fS(h:JS w base g m N)(x:Ad)(b:x.wf):Calls prog 201 #[g,.agg x.v.toArray] w fun e w'=>e=.returned (.tuple #[.agg (An .u8 (N.KC x)).toArray,.int .i64 (N.K9 x)])∧jI w.heap.size w w':=by
 obtain⟨Y,-,h⟩:=h;exact dH h x b
theorem Ih(h:JS w base g m N)(b keep:Int)(c:b≤9223372036854775807):Calls prog 37 #[g,b,keep] w fun e w'=>e=.returned (.tuple #[])∧JS w' base g m (N.cutAt b keep)∧Fr base g w w':=by
 obtain⟨Y,f,h⟩:=h;refine(zN h b keep c).mono ?_;rintro e w' ⟨rfl,i,j⟩;exact⟨rfl,⟨Y,f,i⟩,j⟩
theorem Jk(h:JS w base g m N):Calls prog 52 #[g] w fun e w'=>e=.returned (.tuple #[])∧JS w' base g m N.on∧Fr base g w w':=by
 obtain⟨Y,b,h⟩:=h;refine(GM h).mono ?_;rintro e w' ⟨rfl,c,f⟩;exact⟨rfl,⟨Y,b,c⟩,f⟩
theorem BK(h:JS w base g m N):Calls prog 41 #[g] w fun e w'=>e=.returned (.int .i64 (N.ops:Int))∧w=w':=by
 obtain⟨Y,b,h⟩:=h;exact qX h
theorem zY(h:JS w base g m N):Calls prog 25 #[g] w fun e w'=>e=.returned (.int .i64 (N.broken:Int))∧w=w':=by
 obtain⟨Y,b,h⟩:=h;exact wM h
theorem Ja(h:JS w base g m N):Calls prog 38 #[g] w fun e w'=>e=.returned (.bool (!N.off))∧w=w':=by
 obtain⟨Y,b,h⟩:=h;exact yJ h
theorem ES(h:JS w base g m N)(d b:Nat)(c:d<N.D)(f:b<N.B):Calls prog 31 #[g,(d:Int),(b:Int)] w fun e w'=>e=.returned (.int .i64 ((N.blk d b).cells.length:Int))∧jI w.heap.size w w':=by
 obtain⟨Y,i,h⟩:=h;exact t8 h d b c f
theorem Eb(h:JS w base g m N)(d b:Nat)(c:d<N.D)(f:b<N.B):Calls prog 26 #[g,(d:Int),(b:Int)] w fun e w'=>e=.returned (.int .i64 ((N.blk d b).KP:Int))∧jI w.heap.size w w':=by
 obtain⟨Y,i,h⟩:=h;exact A0 h d b c f
end
end JT
theorem Iq{A:Prop}(h:A:=by
 rintro e w1 ⟨rfl,rfl⟩;go_wp2_with fail;go_end0
 exact⟨rfl,HF⟩):A:=h
theorem yc1{A:Prop}(h:A:=by
 go_wp2_with fail;refine HA.mono ?_;rintro e w1 ⟨rfl,rfl⟩;go_wp2_with fail;go_end0
 exact⟨rfl,rfl⟩):A:=h
theorem yer{A:Prop}(h:A:=by
 rintro e w' ⟨rfl,rfl⟩;exact⟨rfl,h,Kj.refl _ _⟩):A:=h
namespace tal
open JT (Kn cB)
structure Sb where
 Lp:Int
 bad:Nat
 used:Bool
 held:Bool
def Sb.v(s:Sb):List gg:=[.int .i64 s.Lp,.int .i64 (s.bad:Int),.bool s.used,.bool s.held]
def Sb.none:Sb:=⟨0,0,false,false⟩
structure Ty where
 (D B P:Nat)
 sb:List Sb
 dead:Nat
def Ty.head(Y:Ty)(lb:Nat):List gg:=[.int .i64 (Y.D:Int),.int .i64 (Y.B:Int),.int .i64 (Y.P:Int),.slice (some ⟨lb,0,none⟩) Y.B Y.B,.int .i64 (Y.dead:Int)]
def NI(l:List Sb):List (List gg):=l.map Sb.v
structure Ty.ok (Y:Ty):Prop where
 geo:3≤Y.D∧Y.D≤6∧8≤Y.B∧Y.B≤16∧2≤Y.P∧Y.P≤8
 len:Y.sb.length=Y.B
 dead:Y.dead<64
 bad:∀s∈Y.sb,s.bad<64
structure Kb (w:hZ) (g lb:Nat) (Y:Ty):Prop where
 ok:Y.ok
 head:w.heap[g]? =some (.cells (Y.head lb).toArray 188 (0,0))
 rows:w.heap[lb]? =some (.cells (NI Y.sb).flatten.toArray 196 (0,0))
def L1(g lb k:Nat):Prop:=k=g∨k=lb
def Ty.get(Y:Ty)(b:Int):Option Sb:=if 0≤b then Y.sb[b.toNat]? else none
def Ty.upd(Y:Ty)(b:Int)(f:Sb→Sb):Ty:=if 0≤b then{Y with sb:=Y.sb.modify b.toNat f}else Y
def Ty.Pp(Y:Ty)(d:Int):Bool:=decide (0≤d)&&decide (d<Y.D)
def ML(a b:Nat):Nat:=a&&&(63-b)
def Ty.alive(Y:Ty):Nat:=ML (2^Y.D-1) Y.dead
def Ty.mask(Y:Ty)(b:Int):Nat:=match Y.get b with|some s=>ML Y.alive s.bad| .none=>0
def Ty.Lp(Y:Ty)(b:Int):Int:=match Y.get b with|some s=>s.Lp| .none=>0
def Ty.usable(Y:Ty)(b:Int):Bool:=decide (0<JV (Y.mask b:Int))
def Ty.blank(Y:Ty)(b:Int):Bool:=match Y.get b with|some s=> !s.used| .none=>false
def Ty.held(Y:Ty)(b:Int):Bool:=match Y.get b with|some s=>s.held| .none=>false
def Ty.OI(Y:Ty)(b n:Int):Ty:=Y.upd b fun s=>{s with Lp:=max s.Lp n}
def orN(a:Nat)(d:Int):Nat:=a |||2^d.toNat
def Ty.Ov(Y:Ty)(d b:Int):Ty:=if Y.Pp d then Y.upd b fun s=>{s with bad:=orN s.bad d}else Y
def Ty.Mu(Y:Ty)(d:Int):Ty:=if Y.Pp d then{Y with dead:=orN Y.dead d}else Y
def Ty.clean(Y:Ty)(b:Int)(on:Bool):Ty:=Y.upd b fun s=>{s with used:= !on}
def Ty.hold(Y:Ty)(b:Int)(on:Bool):Ty:=Y.upd b fun s=>{s with held:=on}
theorem yf:∀a:Nat,a<64→∀b:Nat,b<64→ML a b<64:=by decide+kernel
theorem qD:∀a:Nat,a<64→∀b:Nat,b<64→bits .andNot .i64 (a:Int) (b:Int)=((ML a b:Nat):Int):=by decide+kernel
theorem uH:∀D:Nat,D≤6→allI (D:Int)=((2^D-1:Nat):Int)∧2^D-1<64:=by decide+kernel
theorem Ed:∀a:Nat,a<64→∀d:Nat,d<6→Mz (a:Int) (d:Int)=((a |||2^d:Nat):Int)∧a |||2^d<64:=by decide+kernel
theorem Ty.ok.alive{Y:Ty}(h:Y.ok):Y.alive<64:=yf _ (uH _ h.geo.2.1).2 _ h.dead
theorem Ty.ok.mask{Y:Ty}(h:Y.ok)(b:Int):Y.mask b<64:=by
 unfold Ty.mask;split
 · rename_i s c
   unfold Ty.get at c;split at c
   · exact yf _ h.alive _ (h.bad s (fj c))
   · cases c
 · decide
theorem ru{Y:Ty}{b:Nat}{s:Sb}(h:Y.sb[b]? =some s):Y.get (b:Int)=some s:=by unfold Ty.get;rw[if_pos (by omega),py];exact h
theorem mW{Y:Ty}(h:Y.ok){b:Int}(c:b<0∨(Y.B:Int)≤b):Y.get b=none:=by
 unfold Ty.get;split
 · rw[hX]
   rw[h.len];omega
 · rfl
theorem uP{Y:Ty}{b:Nat}{s:Sb}(h:Y.sb[b]? =some s)(f:Sb→Sb):Y.upd (b:Int) f={Y with sb:=Y.sb.set b (f s)}:=by
 unfold Ty.upd;rw[if_pos (by omega),py];congr 1;apply jg;intro i;rw[pn,List.getElem?_set];obtain⟨c,g⟩:=ek.1 h;by_cases e:b=i
 · subst e;simp[c,g]
 · simp[e]
theorem qI{Y:Ty}(h:Y.ok){b:Int}(c:b<0∨(Y.B:Int)≤b)(f:Sb→Sb):Y.upd b f=Y:=by
 unfold Ty.upd;split
 · have e:Y.sb.modify b.toNat f=Y.sb:=by
    apply jg;intro i;rw[pn];by_cases e:b.toNat=i
    · subst e
      rw[hX (by rw[h.len];omega)];simp
    · simp[e]
   rw[e]
 · rfl
theorem pR(l:List Sb):∀r∈NI l,r.length=4:=by
 exact ye8
section
variable {w w':hZ}{g lb:Nat}{Y:Ty}
theorem Kb.keep{S:Nat→Prop}(h:Kb w g lb Y)(b:Kj S w w')(c:¬S g)(e:¬S lb):Kb w' g lb Y:=⟨h.ok,bE h.head b c,bE h.rows b e⟩
theorem Kb.below(h:Kb w g lb Y)(hb:jI w.heap.size w w'):Kb w' g lb Y:=⟨h.ok,aa h.head hb,aa h.rows hb⟩
theorem Kb.drew(h:Kb w g lb Y):Kb w.drew g lb Y:=⟨h.ok,h.head,h.rows⟩
theorem Kb.ne(h:Kb w g lb Y):g≠lb:=cB h.head h.rows (by simp[Kn]<;>decide)
theorem Kb.lt(h:Kb w g lb Y):g<w.heap.size∧lb<w.heap.size:=⟨af h.head,af h.rows⟩
theorem Kb.c0(h:Kb w g lb Y):w.cell? ⟨g,0,none⟩=some (.int .i64 (Y.D:Int)):=by rw[ae h.head];rfl
theorem Kb.c1(h:Kb w g lb Y):w.cell? ⟨g,1,none⟩=some (.int .i64 (Y.B:Int)):=by rw[ae h.head];rfl
theorem Kb.c3(h:Kb w g lb Y):w.cell? ⟨g,3,none⟩=some (.slice (some ⟨lb,0,none⟩) Y.B Y.B):=by rw[ae h.head];rfl
theorem Kb.c4(h:Kb w g lb Y):w.cell? ⟨g,4,none⟩=some (.int .i64 (Y.dead:Int)):=by rw[ae h.head];rfl
theorem Kb.geoR(h:Kb w g lb Y):w.rangeAt g 0 [.int .i64 (Y.D:Int),.int .i64 (Y.B:Int),.int .i64 (Y.P:Int)]:=bN h.head [] [.int .i64 (Y.D:Int),.int .i64 (Y.B:Int),.int .i64 (Y.P:Int)] [.slice (some ⟨lb,0,none⟩) Y.B Y.B,.int .i64 (Y.dead:Int)] rfl 0 rfl
theorem Kb.cell(h:Kb w g lb Y){b:Nat}{s:Sb}(c:Y.sb[b]? =some s){j:Nat}{u:gg}(hj:s.v[j]? =some u):w.cell? ⟨lb,b*4+j,none⟩=some u∧w.frozen? ⟨lb,b*4+j,none⟩=false:=by
 have e:(NI Y.sb)[b]? =some s.v:=by rw[NI,jd,c];rfl
 have f:j<4:=(ek.1 hj).1;refine⟨?_,ao h.rows _⟩;rw[ae h.rows,o4,aW (pR _) e f,hj]
theorem Kb.set(h:Kb w g lb Y){b:Nat}{s s':Sb}(f:Y.sb[b]? =some s){j:Nat}{u:gg}(k:s.v.set j u=s'.v)(hj:j<4)(l:s'.bad<64):
 Kb (w.setCell ⟨lb,b*4+j,none⟩ u) g lb {Y with sb:=Y.sb.set b s'}∧Kj (L1 g lb) w (w.setCell ⟨lb,b*4+j,none⟩ u):=by
 have m:(NI Y.sb)[b]? =some s.v:=by rw[NI,jd,f];rfl
 have c:=ar (i:=b*4+j) h.rows u;have n:=JT.kx (u:=u) (pR Y.sb) m hj;refine⟨⟨⟨h.ok.geo,by simpa using h.ok.len,h.ok.dead,fun x e=> ?_⟩,c.old h.head h.ne,?_⟩,c.keep (.inr rfl)⟩
 · rcases lx e with e|rfl
   · exact h.ok.bad x e
   · exact l
 · rw[c.at_,←n,k]
   simp[NI,px]
theorem Kb.PJ(h:Kb w g lb Y){d:Nat}(c:d<64):Kb (w.setCell ⟨g,4,none⟩ (.int .i64 (d:Int))) g lb {Y with dead:=d}∧Kj (L1 g lb) w (w.setCell ⟨g,4,none⟩ (.int .i64 (d:Int))):=by
 have b:=ar (i:=4) h.head (.int .i64 (d:Int));exact⟨⟨⟨h.ok.geo,h.ok.len,c,h.ok.bad⟩,b.at_,b.old h.rows h.ne.symm⟩,b.keep (.inl rfl)⟩
end
theorem qW: prog.underlying 83 =some (.pointer (prog.pointee 83)):=by kernel_rfl
theorem cw(x:sT)(w:hZ):(tl .neq 83 (.pointer (some x)) (.pointer none)).run prog w=.ok (.bool true) w:=jt w 83 (some x) qW
theorem JY(x:sT)(w:hZ):(tl .eql 83 (.pointer (some x)) (.pointer none)).run prog w=.ok (.bool false) w:=kk w 83 (some x) qW
theorem mQ(w:hZ):(tl .neq 83 (.pointer none) (.pointer none)).run prog w=.ok (.bool false) w:=jt w 83 none qW
theorem Et: prog.underlying 193 =some (.pointer (prog.pointee 193)):=by kernel_rfl
theorem bU(x:sT)(w:hZ):(tl .neq 193 (.pointer (some x)) (.pointer none)).run prog w=.ok (.bool true) w:=jt w 193 (some x) Et
theorem bV(x:sT)(w:hZ):(tl .eql 193 (.pointer (some x)) (.pointer none)).run prog w=.ok (.bool false) w:=kk w 193 (some x) Et
theorem ey(w:hZ):(tl .neq 193 (.pointer none) (.pointer none)).run prog w=.ok (.bool false) w:=jt w 193 none Et
theorem ez(w:hZ):(tl .eql 193 (.pointer none) (.pointer none)).run prog w=.ok (.bool true) w:=kk w 193 none Et
section
variable {w:hZ}{g lb:Nat}{Y:Ty}
theorem pu(h:Kb w g lb Y)(b:Nat)(i:b<Y.B):Calls prog 108 #[g,(b:Int)] w fun e j=>e=.returned (.pointer (some ⟨lb,b*4,none⟩))∧w=j:=by
 have l:=JY;have c:=h.c3;have k:=h.ok.geo;obtain⟨N,f⟩:∃N,N=Y.B:=⟨_,rfl⟩;rw[←f]at c i k;have m:(b:Int)<(N:Int):=by omega
 have n:decide ((b:Int)<0)=false:=by simp
 have o:decide (N≤b)=false:=by simp;omega
 have p:decide ((N:Int)≤(b:Int))=false:=by simp;omega
 clear h f;go_enter z7, ntmps108;exact nj
theorem jF(h:Kb w g lb Y)(b:Int)(f:b<0∨(Y.B:Int)≤b):Calls prog 108 #[g,b] w fun e j=>e=.returned (.pointer none)∧w=j:=by
 have k:=JY;have c:=h.c3;obtain⟨N,i⟩:∃N,N=Y.B:=⟨_,rfl⟩;rw[←i]at c f;clear h i;by_cases l:b<0
 · clear f
   go_enter z7, ntmps108;exact nj
 · have m:(N:Int)≤b:=by omega
   clear f;go_enter z7, ntmps108;exact nj
theorem ge(h:Kb w g lb Y)(d:Int):Calls prog 125 #[g,d] w fun e k=>e=.returned (.bool (Y.Pp d))∧w=k:=by
 have m:=cw;have c:=h.c0;have b:Y.Pp d=(decide (0≤d)&&decide (d<Y.D)):=rfl;obtain⟨N,i⟩:∃N,N=Y.D:=⟨_,rfl⟩;rw[←i]at c b;have f:=qZ b;clear h i b;by_cases j:0≤d
 · by_cases l:d<(N:Int)
   · go_enter z8, ntmps125
     go_wp2_with fail;go_ret;exact⟨by rw[f.out,decide_eq_true j,decide_eq_true l];rfl,rfl⟩
   · go_enter z8, ntmps125
     go_wp2_with fail;go_ret;exact⟨by rw[f.out,decide_eq_true j,decide_eq_false (show¬d<(N:Int) by omega)];rfl,rfl⟩
 · go_enter z8, ntmps125
   go_wp2_with fail;go_ret;exact⟨by rw[f.out,decide_eq_false (show¬0≤d by omega)];rfl,rfl⟩
theorem Ee(p:Option sT)(b:Int)(w:hZ)(f:Calls prog 108 #[.pointer p,b] w fun e c=>e=.returned (.pointer none)∧w=c):Calls prog 181 #[.pointer p,b] w fun e c=>e=.returned (.int .i64 0)∧w=c:=by
 have j:=ey;have k:=ez;have i:=qZ f;clear f;go_enter func181, ntmps181;go_wp2_with fail;refine i.mono ?_;rintro e l ⟨rfl,rfl⟩;exact nj
theorem IF(h:Kb w g lb Y)(b:Int):Calls prog 181 #[g,b] w fun e l=>e=.returned (.int .i64 (Y.Lp b))∧w=l:=by
 by_cases f:b<0∨(Y.B:Int)≤b
 · have e:(.int .i64 (Y.Lp b):gg)=.int .i64 0:=by unfold Ty.Lp;rw[mW h.ok f]
   rw[e];exact Ee _ b w (jF h b f)
 · obtain⟨B,rfl⟩:=ej (show 0≤b by omega)
   have k:B<Y.B:=by omega
   obtain⟨s,i⟩:∃s,Y.sb[B]? =some s:=⟨_,ed (by rw[h.ok.len];exact k)⟩;have m:=qZ (pu h B k);have c:=(h.cell i (j:=0) rfl).1;rw[xa]at c;have e:(.int .i64 (Y.Lp (B:Int)):gg)=.int .i64 s.Lp:=by unfold Ty.Lp;rw[ru i]
   rw[e];have n:=bU;have o:=bV;clear h i f e;go_enter func181, ntmps181;go_wp2_with fail;refine m.mono ?_;rintro e p ⟨rfl,rfl⟩;exact nj
theorem DK(p:Option sT)(b:Int)(w:hZ)(f:Calls prog 108 #[.pointer p,b] w fun e c=>e=.returned (.pointer none)∧w=c):Calls prog 171 #[.pointer p,b] w fun e c=>e=.returned (.bool false)∧w=c:=by
 have j:=ey;have k:=ez;have i:=qZ f;clear f;go_enter func171, ntmps171;go_wp2_with fail;refine i.mono ?_;rintro e l ⟨rfl,rfl⟩;exact nj
theorem qA(h:Kb w g lb Y)(b:Int):Calls prog 171 #[g,b] w fun e l=>e=.returned (.bool (Y.blank b))∧w=l:=by
 by_cases f:b<0∨(Y.B:Int)≤b
 · have e:(.bool (Y.blank b):gg)=.bool false:=by unfold Ty.blank;rw[mW h.ok f]
   rw[e];exact DK _ b w (jF h b f)
 · obtain⟨B,rfl⟩:=ej (show 0≤b by omega)
   have k:B<Y.B:=by omega
   obtain⟨s,i⟩:∃s,Y.sb[B]? =some s:=⟨_,ed (by rw[h.ok.len];exact k)⟩;have m:=qZ (pu h B k);have c:=(h.cell i (j:=2) rfl).1;have e:(.bool (Y.blank (B:Int)):gg)=.bool (!s.used):=by unfold Ty.blank;rw[ru i]
   rw[e];have n:=bU;have o:=bV;clear h i f e;go_enter func171, ntmps171;go_wp2_with fail;refine m.mono ?_;rintro e p ⟨rfl,rfl⟩;exact nj
theorem Fp(p:Option sT)(b:Int)(w:hZ)(f:Calls prog 108 #[.pointer p,b] w fun e c=>e=.returned (.pointer none)∧w=c):Calls prog 172 #[.pointer p,b] w fun e c=>e=.returned (.bool false)∧w=c:=by
 have j:=ey;have k:=ez;have i:=qZ f;clear f;go_enter func172, ntmps172;go_wp2_with fail;refine i.mono ?_;rintro e l ⟨rfl,rfl⟩;exact nj
theorem J4(h:Kb w g lb Y)(b:Int):Calls prog 172 #[g,b] w fun e l=>e=.returned (.bool (Y.held b))∧w=l:=by
 by_cases f:b<0∨(Y.B:Int)≤b
 · have e:(.bool (Y.held b):gg)=.bool false:=by unfold Ty.held;rw[mW h.ok f]
   rw[e];exact Fp _ b w (jF h b f)
 · obtain⟨B,rfl⟩:=ej (show 0≤b by omega)
   have k:B<Y.B:=by omega
   obtain⟨s,i⟩:∃s,Y.sb[B]? =some s:=⟨_,ed (by rw[h.ok.len];exact k)⟩;have m:=qZ (pu h B k);have c:=(h.cell i (j:=3) rfl).1;have e:(.bool (Y.held (B:Int)):gg)=.bool s.held:=by unfold Ty.held;rw[ru i]
   rw[e];have n:=bU;have o:=bV;clear h i f e;go_enter func172, ntmps172;go_wp2_with fail;refine m.mono ?_;rintro e p ⟨rfl,rfl⟩;exact nj
theorem Ec(p:Option sT)(b:Int)(n:Int)(w:hZ)(f:Calls prog 108 #[.pointer p,b] w fun e c=>e=.returned (.pointer none)∧w=c):Calls prog 104 #[.pointer p,b,n] w fun e c=>e=.returned (.tuple #[])∧w=c:=by
 have i:=ey;have j:=ez;have HA:=qZ f;clear f;go_enter func104, ntmps104;exact yc1
theorem IB(h:Kb w g lb Y)(b:Int)(n:Int):Calls prog 104 #[g,b,n] w fun e w'=>e=.returned (.tuple #[])∧Kb w' g lb (Y.OI b n)∧Kj (L1 g lb) w w':=by
 by_cases i:b<0∨(Y.B:Int)≤b
 · have e:Y.OI b n=Y:=qI h.ok i _
   rw[e];refine(Ec _ b n w (jF h b i)).mono ?_;exact yer
 · obtain⟨B,rfl⟩:=ej (show 0≤b by omega)
   have k:B<Y.B:=by omega
   obtain⟨s,f⟩:∃s,Y.sb[B]? =some s:=⟨_,ed (by rw[h.ok.len];exact k)⟩;have l:=qZ (pu h B k);obtain⟨c,ff⟩:=h.cell f (j:=0) rfl;rw[xa]at c ff;have e:Y.OI (B:Int) n={Y with sb:=Y.sb.set B ({s with Lp:=max s.Lp n})}:=uP f _;rw[e];have HF:=qZ (h.set f (j:=0) (u:=.int .i64 (max s.Lp n)) (s':={s with Lp:=max s.Lp n}) rfl (by omega) (h.ok.bad s (fj f)));have m:=bU;have o:=bV;clear h f i e;go_enter func104, ntmps104;go_wp2_with fail;refine l.mono ?_;exact Iq
theorem Dt(p:Option sT)(b:Int)(on:Bool)(w:hZ)(f:Calls prog 108 #[.pointer p,b] w fun e c=>e=.returned (.pointer none)∧w=c):Calls prog 107 #[.pointer p,b,on] w fun e c=>e=.returned (.tuple #[])∧w=c:=by
 have i:=ey;have j:=ez;have HA:=qZ f;clear f;go_enter func107, ntmps107;exact yc1
theorem I2(h:Kb w g lb Y)(b:Int)(on:Bool):Calls prog 107 #[g,b,on] w fun e w'=>e=.returned (.tuple #[])∧Kb w' g lb (Y.clean b on)∧Kj (L1 g lb) w w':=by
 by_cases i:b<0∨(Y.B:Int)≤b
 · have e:Y.clean b on=Y:=qI h.ok i _
   rw[e];refine(Dt _ b on w (jF h b i)).mono ?_;exact yer
 · obtain⟨B,rfl⟩:=ej (show 0≤b by omega)
   have k:B<Y.B:=by omega
   obtain⟨s,f⟩:∃s,Y.sb[B]? =some s:=⟨_,ed (by rw[h.ok.len];exact k)⟩;have l:=qZ (pu h B k);obtain⟨c,ff⟩:=h.cell f (j:=2) rfl;have e:Y.clean (B:Int) on={Y with sb:=Y.sb.set B ({s with used:= !on})}:=uP f _;rw[e];have HF:=qZ (h.set f (j:=2) (u:=.bool (!on)) (s':={s with used:= !on}) rfl (by omega) (h.ok.bad s (fj f)));have m:=bU;have n:=bV;clear h f i e;go_enter func107, ntmps107;go_wp2_with fail;refine l.mono ?_;exact Iq
end
end tal
end Go.Proofs.YtlkpfnjdbgeifaaGreat
