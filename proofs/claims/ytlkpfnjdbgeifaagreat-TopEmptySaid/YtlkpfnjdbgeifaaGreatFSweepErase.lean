import Derived.Test.YtlkpfnjdbgeifaaGreatFRowAll
set_option linter.unusedSimpArgs false
set_option linter.unusedVariables false
set_option maxRecDepth 100000
set_option maxHeartbeats 16000000
open Int renaming toNat_natCast→ed
open List renaming nil_sublist→ej,drop_eq_nil_of_le→ek,drop_eq_getElem_cons→eD,getElem?_eq_getElem→eX,range→fj,length_drop→fo,length_take→gg,mem_filter→hO,mem_range→hX,mem_of_getElem?→hZ,drop_drop→iP,mem_of_mem_drop→jg,getElem?_take→jm,getElem?_drop→js,foldl_append→jt,length_cons→jw,range_succ→kb,length_map→kd,mem_cons→kk
open Go renaming World→hG,Calls→kn,Value→kr
open Nat renaming mul_le_mul→jd,le_refl→jI
namespace Go.Proofs.YtlkpfnjdbgeifaaGreat
open Go.Proofs.Tryz
open Go.RowKit
theorem yb2{A:Prop}(h:A:=by
 have q3:=HS.out;exact⟨q2.1.trans (q3.1.trans q1.1.symm),q2.2.1.trans (q3.2.1.trans q1.2.1.symm),q2.2.2.trans (q3.2.2.trans q1.2.2.symm)⟩):A:=h
namespace dev
open JT (Nd JS Fr Kn Ko)
open tal (Ty Kb L1)
open tab (Tb JZ LS)
open pick (cO)
theorem dJ(b mask:Int)(d:Nat)(l:List Nat)(N:Nd)(Y:Ty):LP b mask (d::l) N Y=if hasB mask d=false then LP b mask l N Y else if N.L6 d b=0 then LP b mask l (N.Lh d b) Y else if N.L6 d b=9 then(N.Lh d b,Y,9)else if N.L6 d b=8 then LP b mask l (N.Lh d b) (Y.Mu d)else LP b mask l (N.Lh d b) (Y.Ov d b):=rfl
theorem uM(N:Nd)(b k:Nat)(Y:Ty):Pj N b (k+1) Y=(Pj N b k Y).OI b ((N.blk k b).KP:Int):=by
 unfold Pj;rw[kb,jt];rfl
theorem vZ{n k:Nat}(h:k<n):(fj n).drop k=k::(fj n).drop (k+1):=by
 have:=eD (l:=fj n) (i:=k) (by simp_all);simp_all
section
variable {w0:hG}{pl:Pl}{m c:Nat}{D:Dv}
theorem zG(h:Kk w0 pl m c D)(b:Nat)(hb:b<D.N.B)(X:tot D.N+100≤100000000000000)(hm:m≤100000):kn prog 110 #[.pointer (some ⟨pl.g,0,none⟩),.pointer (some ⟨pl.tg,0,none⟩),.int .i64 (b:Int)] w0 fun e Y=>e=.returned (.int .i64 (D.erase b).2)∧Kk Y pl m c (D.erase b).1∧DFr pl.base w0 Y:=by
 have t:=qZ h.lay;have HS:=qZ h.same;have O:=qZ (show Wo D.N from h.KP);have HG:=qZ h.JT.ok.geo;have HT:=qZ X;have ar:=cO;have f:=Mp.start (B:=fun _=>True) h trivial (fun _ _ _ _=>trivial);clear h X;go_enter func110, ntmps110;go_wp2_with fail;refine(tal.Cg f.a.tal (b:Int)).mono ?_;rintro e J ⟨rfl,Z,rfl⟩;replace f:=f.drewN Z;generalize World.drewN _ Z=ai at f⊢;obtain⟨M,Q⟩:∃M:Int,M=(D.Y.mask (b:Int):Int):=⟨_,rfl⟩;rw[←Q];have HM:=qZ Q;clear Q;go_wp2_with fail;refine(eI f.a.JT).mono ?_;rintro e J ⟨rfl,u⟩;replace f:=f.below u;clear u;go_wp2_with fail;go_loopw [16] (fun i wr=>∃(k:Nat) (g:Nd) (j:Ty),k≤D.N.D∧i=.int .i64 (k:Int)∧LP b M (fj D.N.D) D.N D.Y=LP b M ((fj D.N.D).drop k) g j∧Lt D.N g k∧Dim j D.Y∧Mp pl m c {D with N:=g,Y:=j} (fun _=>True) w0 wr [(pl.pg,D.p.v pl, 192)] []) (fun i _=>D.N.D-(intOf i).toNat)
 case atStart=>exact⟨0,D.N,D.Y,by omega,rfl,rfl,Lt.refl _,Dim.refl _,f⟩
 case round=>
  clear f;obtain⟨k,g,j,hk,rfl,hE,aa,ab,f⟩:=hrel;have z:=qZ hE;have p:=qZ aa;have C:=qZ ab;clear hE aa ab;have hg:=HG.out;by_cases ad:k<D.N.D
  · have ak:(k:Int)<(D.N.D:Int):=by omega
    have K:=qZ (vZ ad);go_wp2_with fail;refine(dC M (k:Int) _).mono ?_;rintro e J ⟨rfl,rfl⟩;cases R:hasB M (k:Int)with
    |false=>
     have G:=qZ R;clear R;go_wp2_with fail;go_roundw
     case rel=>exact⟨k+1,g,j,by omega,by go_num,by rw[z.out,K.out,dJ,if_pos G.out],p.mono (by omega),C,f⟩
     case measure=>first|(simp[intOf];done)|(simp[intOf];omega)
    |true=>
     have G:=qZ (show¬hasB M (k:Int)=false by simp_all);clear R;go_wp2_with fail;have al:=p.out.tot;have an:=HT.out;have ao:=p.out.wo O k b;refine(JT.zH f.a.JT (k:Int) (b:Int) ⟨bw (by show(-1000000000000000:Int)≤(k:Int);omega) (by show(k:Int)≤1000000000000000;omega),bw (by show(-1000000000000000:Int)≤(b:Int);omega) (by show(b:Int)≤1000000000000000;omega),bw (by show(-1000000000000000:Int)≤(0:Int);decide) (by show(0:Int)≤1000000000000000;decide)⟩ (by show g.ops≤1000000000000000;unfold tot at*;omega) (by show(g.blk (k:Int).toNat (b:Int).toNat).KP≤1000000000000000;rw[ed,ed];unfold tot at*;omega) hm).mono ?_;rintro e w3 ⟨rfl,ae,af⟩;replace f:=Mp.JT f t (oy g (k:Int) (b:Int)).ops ae af;clear ae af al an ao;have L:=qZ ((p.trans (oy g (k:Int) (b:Int))).mono (show k+1≤k+1 from jI _));obtain⟨w,S⟩:∃w,w=g.L6 (k:Int) (b:Int):=⟨_,rfl⟩;have r:=qZ S;rw[←S];clear S;by_cases T:w=0
     · subst T
       go_wp2_with fail;go_roundw
       case rel=>exact⟨k+1,_,j,by omega,by go_num,by rw[z.out,K.out,dJ,if_neg G.out,if_pos r.out.symm],L,C,f⟩
       case measure=>first|(simp[intOf];done)|(simp[intOf];omega)
     · have au:(w==0)=false:=by simpa using T
       by_cases U:w=9
       · subst U
         have H:=qZ (show D.erase b=({D with N:=g.Lh (k:Int) (b:Int),Y:=j},9) by
          have hx:LP (b:Int) M (fj D.N.D) D.N D.Y=(g.Lh (k:Int) (b:Int),j,9):=by
           rw[z.out,K.out,dJ,if_neg G.out,if_neg (by rw[←r.out];decide),if_pos r.out.symm]
          unfold Dv.erase;rw[←HM.out,hx];rfl)
         go_wp2_with fail;go_ret;rw[H.out];refine⟨rfl,Mp.out (E:={D with N:=g.Lh (k:Int) (b:Int),Y:=j}) f t rfl rfl rfl ?_ (L.wo O)⟩;have q1:=L.out.geo;have q2:=C.out;exact yb2
       · have av:(w==9)=false:=by simpa using U
         by_cases V:w=8
         · subst V
           go_wp2_with fail;refine(tal.u0 f.a.tal (k:Int)).mono ?_;rintro e W ⟨rfl,l,n⟩;replace f:=Mp.tal f t l n;clear l n;go_wp2_with fail;go_roundw
           case rel=>exact⟨k+1,_,_,by omega,by go_num,by rw[z.out,K.out,dJ,if_neg G.out,if_neg (by rw[←r.out];decide),if_neg (by rw[←r.out];decide),if_pos r.out.symm],L,(fK _ _).trans C,f⟩
           case measure=>first|(simp[intOf];done)|(simp[intOf];omega)
         · have aw:(w==8)=false:=by simpa using V
           go_wp2_with fail;refine(tal.PU f.a.tal (k:Int) (b:Int)).mono ?_;rintro e W ⟨rfl,l,n⟩;replace f:=Mp.tal f t l n;clear l n;go_wp2_with fail;go_roundw
           case rel=>exact⟨k+1,_,_,by omega,by go_num,by rw[z.out,K.out,dJ,if_neg G.out,if_neg (by rw[←r.out];exact T),if_neg (by rw[←r.out];exact U),if_neg (by rw[←r.out];exact V)],L,(r9 _ _ _).trans C,f⟩
           case measure=>first|(simp[intOf];done)|(simp[intOf];omega)
  · obtain rfl:k=D.N.D:=by omega
    have HX:=qZ (show LP b M (fj D.N.D) D.N D.Y=(g,j,0) by rw[z.out,ek (by simp)];rfl);have o:=p.out.geo;go_wp2_with fail;refine(eI f.a.JT).mono ?_;rw[show({D with N:=g,Y:=j}:Dv).N.D=D.N.D from o.1];rintro e J ⟨rfl,u⟩;replace f:=f.below u;clear u o;go_wp2_with fail;go_loopw [44] (fun i wr=>∃k:Nat,k≤D.N.D∧i=.int .i64 (k:Int)∧Mp pl m c {D with N:=g,Y:=Pj g b k j} (fun _=>True) w0 wr [(pl.pg,D.p.v pl, 192)] []) (fun i _=>D.N.D-(intOf i).toNat)
    case atStart=>exact⟨0,by omega,rfl,f⟩
    case round=>
     clear f;obtain⟨q,hq,rfl,f⟩:=hrel;by_cases ad:q<D.N.D
     · have ak:(q:Int)<(D.N.D:Int):=by omega
       have aq:=qZ (uM g b q j);have o:=p.out.geo;go_wp2_with fail;refine(JT.Eb f.a.JT q b (by simp_all) (by simp_all)).mono ?_;rintro e J ⟨rfl,u⟩;replace f:=f.below u;clear u o;go_wp2_with fail;refine(tal.IB f.a.tal (b:Int) _).mono ?_;rintro e W ⟨rfl,l,n⟩;replace f:=Mp.tal f t l n;clear l n;go_wp2_with fail;go_roundw
       case rel=>exact⟨q+1,by omega,by go_num,by rw[aq.out];exact f⟩
       case measure=>first|(simp[intOf];done)|(simp[intOf];omega)
     · obtain rfl:q=D.N.D:=by omega
       obtain⟨Y2,P⟩:∃aj,aj=Pj g b D.N.D j:=⟨_,rfl⟩;rw[←P]at f
       have H:=qZ (show D.erase b=({D with N:=g,Y:=if Y2.usable (b:Int)then Y2.clean (b:Int) true else Y2},0) by
        unfold Dv.erase;rw[←HM.out,HX.out,P];rfl)
       have ag:=qZ (show Dim Y2 D.Y by rw[P];exact(qy _ _ _ _).trans C);clear P;have o:=p.out.geo;have I:=HS.out;go_wp2_with fail;refine(tal.ns f.a.tal (b:Int)).mono ?_;rintro e J ⟨rfl,ah,rfl⟩;replace f:=f.drewN ah;generalize World.drewN _ ah=ai at f⊢;cases hu:Y2.usable (b:Int)with
       |false=>
        rw[hu]at H;go_wp2_with fail;go_ret;rw[H.out];have q2:=ag.out;exact⟨rfl,Mp.out (E:={D with N:=g,Y:=Y2}) f t rfl rfl rfl ⟨q2.1.trans (I.1.trans o.1.symm),q2.2.1.trans (I.2.1.trans o.2.1.symm),q2.2.2.trans (I.2.2.trans o.2.2.symm)⟩ (p.wo O)⟩
       |true=>
        rw[hu]at H;go_wp2_with fail;refine(tal.I2 f.a.tal (b:Int) true).mono ?_;rintro e W ⟨rfl,l,n⟩;replace f:=Mp.tal f t l n;clear l n;go_wp2_with fail;go_ret;rw[H.out];have q2:=(cD Y2 (b:Int) (fun s=>{s with used:= !true})).trans ag;exact⟨rfl,Mp.out (E:={D with N:=g,Y:=Y2.clean (b:Int) true}) f t rfl rfl rfl ⟨q2.1.trans (I.1.trans o.1.symm),q2.2.1.trans (I.2.1.trans o.2.1.symm),q2.2.2.trans (I.2.2.trans o.2.2.symm)⟩ (p.wo O)⟩
end
end dev
theorem I6{A:Prop}(h:A:=by
 rw[HR.out];exact⟨rfl,hdv,DFr.Nl hs.fr⟩):A:=h
namespace dev
open JT (Nd JS Fr Kn Ko)
open tal (Ty Kb L1)
open tab (Tb JZ LS)
section
variable {w w' w0:hG}{pl:Pl}{m c:Nat}{D E:Dv}{B:hG→Prop}{Lb:List Bk}{S:List Sl}
theorem Mp.again{r:List kr}(u:Mp pl m c D B w0 w ((pl.pg,r, 192)::Lb) S)(j:Kk w' pl m c E)(z:DFr pl.base w w')(o:∀x∈Lb,Kx x.2.2=false)(p:∀s∈S,Kx s.e=false):Mp pl m c E B w0 w' ((pl.pg,E.p.v pl, 192)::Lb) S:=by
 have n:=u.tail
 have b:Mp pl m c E B w0 w' Lb S:=n.keep z.dvc (fun x f i=>i.2 ⟨_,_,_,(n.own x f).1,o x f⟩) (fun s g k A i=>by
  obtain⟨C,h,-⟩:=br (n.sls s g).1 A;exact i.2 ⟨_,_,_,h,p s g⟩) (fun k _ i=>⟨i.1,.inr i.2⟩) j.x (MG.Qz pl m c E)
 refine⟨b.sub,fun x f=> ?_,List.pairwise_cons.2 ⟨fun x f e=> ?_,b.srt⟩,fun s g=>⟨(b.sls s g).1,(b.sls s g).2.1,fun x f e=> ?_⟩,b.sps,b.fr,b.le,b.sa,b.sb,b.a,b.b⟩
 · rcases kk.1 f with rfl|f
   · exact⟨j.pen,j.low.2.2.2.2.2,rfl,.inl rfl⟩
   · exact b.own x f
 · have q:=(b.own x f).1
   have e:pl.pg=x.1:=e;rw[←e,j.pen]at q;cases x with
   |mk k y=>
    cases y with
    |mk l t=>
     injection q with q
     injection q with _ q
     have:=o _ f;rw[←q]at this;exact absurd this (by decide)
 · rcases kk.1 f with rfl|f
   · obtain⟨C,h,-⟩:=br (b.sls s g).1 e
     rw[j.pen]at h;injection h with h
     injection h with _ h
     have:=p s g;rw[←h]at this;exact absurd this (by decide)
   · exact(b.sls s g).2.2 x f e
end
theorem iK(b:Nat)(l:List Nat)(D:Dv):D.LF (b::l)=if(D.erase b).2≠0 then D.erase b else Dv.LF l (D.erase b).1:=rfl
theorem AT{Y:Ty}{T:Tb}{c:Int}{b:Nat}(h:b∈pick.Lx Y T c):b<Y.B:=by
 unfold pick.Lx pick.KN at h;exact hX.1 (hO.1 h).1
section
variable {w0:hG}{pl:Pl}{m c:Nat}{D:Dv}
theorem iC(h:Kk w0 pl m c D)(w:tot D.N+1000≤100000000000000)(V:m≤100000):kn prog 69 #[pl.g,pl.tg,pl.lg,D.p.op] w0 fun e z=>e=.returned D.clear.2∧Kk z pl m c D.clear.1∧DFr pl.base w0 z:=by
 have C:=qZ h.lay;have W:=qZ h.JT.ok.geo;have HS:=qZ h.same;have X:=qZ w;have G:=qZ (show Wo D.N from h.KP);have hs:=Mp.start (B:=fun _=>True) h trivial (fun _ _ _ _=>trivial);have H:=qZ (show(pick.Lx D.Y D.T D.p.op).length≤16 by have:=pM D.Y D.T D.p.op;have:=h.same.2.1;have:=h.JT.ok.geo;omega);have I:=qZ (show∀b∈pick.Lx D.Y D.T D.p.op,b<D.N.B from fun b g=>by have:=AT g;have:=h.same.2.1;omega);have n:=qZ (show D.clear=D.LF (pick.Lx D.Y D.T D.p.op)from rfl);obtain⟨Y,-,J⟩:=h.tab;have o:=pick.Iw (⟨h.tal,J⟩:pick.View _ pl.tg pl.tlb D.Y pl.lg pl.mb pl.cb Y D.T) D.p.op;obtain⟨l,K⟩:∃l,l=pick.Lx D.Y D.T D.p.op:=⟨_,rfl⟩;rw[←K]at H I n o;have L:=qZ o;clear h w J o K;go_enter func69, ntmps69;go_wp2_with fail;refine L.mono ?_;rintro e ag ⟨v,rfl,M,g⟩;replace hs:=hs.got g M rfl;clear M g L;obtain⟨A,cv,p,-,-⟩:=hs.slice 0 rfl;have p:v=.slice A l.length cv:=p;subst p;go_wp2_with fail;go_loopw [27] (fun i wr=>∃(q:Nat) (E:Dv),q≤l.length∧i=.int .i64 (q:Int)∧D.LF l=E.LF (l.drop q)∧Dl D E (6*q)∧Mp pl m c E (fun _=>True) w0 wr [(pl.pg,E.p.v pl, 192)] [⟨3,1,.slice A l.length cv,l.length,An .i64 l⟩]) (fun i _=>l.length-(intOf i).toNat)
 case atStart=>exact⟨0,D,by omega,rfl,rfl,Dl.refl D,hs⟩
 case round=>
  clear hs;obtain⟨q,E,hq,rfl,N,O,hs⟩:=hrel;have r:=qZ N;have t:=qZ O;clear N O;have ah:=H.out;by_cases u:q<l.length
  · have ai:(q:Int)<(l.length:Int):=by omega
    obtain⟨Z,aj,aa⟩:=hs.form 0 rfl (by show 0<l.length;omega);have ab:A=some ⟨Z,0,none⟩:=by injection aa
    subst ab;obtain⟨b,g⟩:∃b,l[q]? =some b:=⟨_,eX u⟩;have P:=I.out b (hZ g);have HX:=qZ (show(An .i64 l)[q]? =some (.int .i64 (b:Int)) by simp[An,g])
    have Q:=qZ (show l.drop q=b::l.drop (q+1) by
     rw[eD u];congr 1;rw[eX u]at g;exact Option.some.inj g)
    have f:=t.out
    have j:E.Y.D=E.N.D∧E.Y.B=E.N.B∧E.Y.P=E.N.P:=by
     have q1:=f.n.geo;have q2:=f.y;exact yb2
    have R:=(Mp.out (E:=E) (hs.less (.refl _) (ej _)) C rfl rfl rfl j (f.n.wo G)).1;have ad:=qZ (zG R b (by rw[f.n.geo.2.1];exact P) (by have:=f.n.tot;have:=X.out;omega) V);have ae:=qZ (show Dl E (E.erase b).1 6 from(kD E b).mono (by rw[f.n.geo.1];have:=W.out;omega));clear g P f j R;go_wp2_with (first|(refine fp 0 hs rfl 3 rfl rfl rfl underlying3 rfl HX ?_));refine ad.mono ?_;rintro e w2 ⟨rfl,hdv,S⟩;replace hs:=Mp.again hs hdv S (by simp) (by simp;rfl);by_cases k:(E.erase b).2=0
    · rw[k]
      clear hdv S;go_wp2_with fail;go_roundw
      case rel=>exact⟨q+1,(E.erase b).1,by omega,by go_num,by rw[r.out,Q.out,iK,if_neg (by rw[k];simp)],(t.trans ae).mono (by omega),hs⟩
      case measure=>first|(simp[intOf];done)|(simp[intOf];omega)
    · have ak:((E.erase b).2 !=0)=true:=by simpa using k
      have HR:=qZ (show D.clear=E.erase b by rw[n.out,r.out,Q.out,iK,if_pos k]);go_wp2_with fail;go_ret;exact I6
  · have af:q=l.length:=by omega
    subst af;have HR:=qZ (show D.clear=(E,0) by rw[n.out,r.out,List.drop_length];rfl);have f:=t.out
    have j:E.Y.D=E.N.D∧E.Y.B=E.N.B∧E.Y.P=E.N.P:=by
     have q1:=f.n.geo;have q2:=f.y;exact yb2
    have T:=Mp.out (E:=E) (hs.less (.refl _) (ej _)) C rfl rfl rfl j (f.n.wo G);have U:=qZ T;clear f j T;go_wp2_with fail;go_ret;rw[HR.out];exact⟨rfl,U.1,U.2⟩
end
end dev
theorem ydd{A:Prop}(h:A:=by
 have:=congrArg List.length z;rw[List.length_drop,List.length_take]at this;simp only[List.length_nil]at this;omega):A:=h
namespace dev
open JT (Nd JS Fr Kn Ko)
open tal (Ty Kb L1)
open tab (Tb JZ LS)
theorem _root_.Go.Proofs.YtlkpfnjdbgeifaaGreat.Ms.rdt{da dv d:TypeId→Bool}{base:Nat}{A B:hG→Prop}{k w:hG}{L:List Bk}{S:List Sl}(h:Ms da dv base A B k w L S)(i:Nat){e:TypeId}{C n c:Nat}{g:Option Addr}{f:List (List kr)}(j:S[i]? =some ⟨e,C,.slice g n c,n,f.flatten⟩)(l:f.length=n)(m:∀r∈f,r.length=C)(p:d e=false):RdT d w w.heap.size g C n f:=
 ⟨h.rds i j l m,fun b o q u=>by
  subst q;obtain⟨z,t,-⟩:=br (h.sl j) rfl;exact⟨_,_,_,t,p⟩⟩
theorem eY{D E:Dv}{k:Nat}(f:Dl D E k)(b:D.Y.D=D.N.D∧D.Y.B=D.N.B∧D.Y.P=D.N.P):E.Y.D=E.N.D∧E.Y.B=E.N.B∧E.Y.P=E.N.P:=by
 have c:=f.n.geo;have e:=f.y;exact⟨e.1.trans (b.1.trans c.1.symm),e.2.1.trans (b.2.1.trans c.2.1.symm),e.2.2.trans (b.2.2.trans c.2.2.symm)⟩
theorem kK{D:Dv}{w:hG}{pl:Pl}{m c:Nat}(h:Kk w pl m c D)(e:Mk D)(f:Pw D)(l:List En):D.write 200 l=some (D.Kf l)∧∃q:Nat,(D.Kf l).2.1=(q:Int)∧q≤l.length∧((D.Kf l).2.2=0→l≠ []→1≤q):=by
 have g:=h.JT.ok.geo;have i:=h.same.2.1;have b:=gx e f ⟨g.1,by omega⟩ (by rw[h.tal.ok.len];omega) l;exact⟨b,wY _ _ _ _ b⟩
theorem zT{k q:Nat}{E:Dv}{l:List En}{r:List Nat}{e:Int}(b:r≠ [])(c:LV E.N E.T (r.take (max E.Ld 1).toNat)=(l,e))(f:e≠0):E.LU (k+1) r q=(E,(q:Int),e):=by
 rw[mD _ _ _ _ b];dsimp only;rw[c,if_pos f]
theorem Dw{k q c:Nat}{E:Dv}{b:List En}{r:List Nat}(e:r≠ [])(f:LV E.N E.T (r.take (max E.Ld 1).toNat)=(b,0))(g:(E.Kf b).2.1=(c:Int)):E.LU (k+1) r q=if(E.Kf b).2.2≠0 then((E.Kf b).1,((q+c:Nat):Int),(E.Kf b).2.2)else(E.Kf b).1.LU k (r.drop c) ((q+c:Nat):Int):=by
 rw[mD _ _ _ _ e];dsimp only;rw[f];simp only[ne_eq,not_true_eq_false,if_false];rw[g,ed];rfl
section
variable {w0:hG}{pl:Pl}{m c:Nat}{D:Dv}
theorem lA(h:Kk w0 pl m c D)(N:Mk D)(O:Pw D)(b:Nat)(hb:b≤65536)(g:Int)(bm:g≤100000)(hT:tot D.N+1600*D.T.logical+2000≤100000000000000)(hc:c≤100000000000000)(hm:m≤100000):
 kn prog 116 #[pl.g,pl.lg,pl.pg,(b:Int),g] w0 fun e w'=>e=.returned (.tuple #[.int .i64 (D.carry b g).2.1,.int .i64 (D.carry b g).2.2])∧Kk w' pl m c (D.carry b g).1∧DFr pl.base w0 w':=by
 have Q:=qZ h.lay;have HG:=qZ h.JT.ok.geo;have R:=qZ h.same;have HT:=qZ hT;have HC:=qZ hc;have S:=qZ (show Wo D.N from h.KP);have aZ:=qZ N;have a0:=qZ O;have hs:=Mp.start (B:=fun _=>True) h trivial (fun _ _ _ _=>trivial);obtain⟨nt,-,L⟩:=h.tab;have aw:D.T.logical≤65536:=L.ok.log;have a1:=qZ aw;have ad:=qZ (tab.dN L (b:Int) (bw (by omega) (by omega)));have V:(D.T.inL (b:Int)).length≤D.T.logical:=C6 D.T (b:Int);have ay:=qZ (show∀j∈D.T.inL (b:Int),j≤65536 from fun j hj=>by have:=xQ hj;omega);have ae:=qZ (show D.carry b g=D.LU (D.T.inL (b:Int)).length ((D.T.inL (b:Int)).take (max g 0).toNat) 0 from rfl);obtain⟨l,hl⟩:∃l,l=D.T.inL (b:Int):=⟨_,rfl⟩;rw[←hl]at ad V ay ae;have a2:=qZ V;obtain⟨K,hK⟩:∃K:Nat,K=min (max g 0).toNat l.length:=⟨_,rfl⟩;have a3:=qZ (show K≤l.length by omega);have e4:(if(l.length:Int)<(if g<0 then(0:Int)else g)then(l.length:Int)else(if g<0 then(0:Int)else g))=(K:Int):=by split<;>split<;>omega
 have az:l.take (max g 0).toNat=l.take K:=by
  by_cases q:(max g 0).toNat≤l.length
  · rw[hK,Nat.min_eq_left q]
  · rw[hK,Nat.min_eq_right (by omega),List.take_of_length_le (by omega),List.take_length]
 rw[az]at ae;clear h N O L aw V hT hc hl hK az;go_enter func116, ntmps116;go_wp2_with fail;refine ad.mono ?_;rintro e w ⟨v,rfl,aA,aB⟩;replace hs:=hs.got aB aA rfl;clear aA aB ad;obtain⟨A,cv,hv,W,aC⟩:=hs.slice 0 rfl;have hv:v=.slice A l.length cv:=hv;subst hv;have W:l.length≤cv:=W;unfold maxLen at aC;have bn:=a3.out;have a4:=qZ W;go_wp2_with fail;go_loopw [13] (fun dv wr=>∃(q k:Nat) (E:Dv),q≤K∧dv=.int .i64 (q:Int)∧K≤q+k∧D.carry b g=E.LU k ((l.take K).drop q) (q:Int)∧Dl D E (1600*q)∧Pw E∧Mk E∧Mp pl m c E (fun _=>True) w0 wr [(pl.pg,E.p.v pl, 192)] [⟨3,1,.slice A l.length cv,l.length,An .i64 l⟩]) (fun dv _=>K-(intOf dv).toNat)
 case atStart=>exact⟨0,l.length,D,by omega,rfl,by omega,ae,Dl.refl D,a0,aZ,hs⟩
 case round=>
  clear hs aC W;obtain⟨q,k,E,hq,rfl,bo,hE,aD,O,N,hs⟩:=hrel;have HE:=qZ hE;have X:=qZ aD;have H:=qZ O;have aF:=qZ N;have bp:=a1.out;have V:=a2.out;clear hE aD O N;by_cases bq:q<K
  · have br:(q:Int)<(K:Int):=by omega
    obtain⟨gv,bs,a5⟩:=hs.form 0 rfl (by show 0<l.length;omega);have a6:A=some ⟨gv,0,none⟩:=by injection a5
    have bt:=a4.out;subst a6;have i:=X.out;have I:=(Mp.out (E:=E) (hs.less (.refl _) (ej _)) Q rfl rfl rfl (eY i R) (i.n.wo S)).1;have af:=qZ (pO I)
    have a7:0≤E.Ld∧E.Ld≤7:=by
     have h1:=aI E.p.mask;have h2:=aI (E.Y.mask E.KO:Int);unfold Dv.Ld JV;split<;>split<;>omega
    obtain⟨sl,aG⟩:∃sl,sl=E.Ld:=⟨_,rfl⟩;rw[←aG]at af a7;obtain⟨M,hM⟩:∃M:Nat,M=min (max sl 1).toNat (K-q):=⟨_,rfl⟩;have bu:1≤M∧M≤7∧q+M≤K:=by omega
    have eM:(if(K:Int)<(q:Int)+(if sl<1 then(1:Int)else sl)then(K:Int)else(q:Int)+(if sl<1 then(1:Int)else sl))=((q+M:Nat):Int):=by split<;>split<;>omega
    obtain⟨P,Y⟩:∃P,P=((l.take K).drop q).take (max E.Ld 1).toNat:=⟨_,rfl⟩
    have ag:=qZ (show P.length=M by
     rw[Y,gg,fo,gg,←aG,hM];omega)
    have a8:=qZ (show∀j x,P[j]? =some x→l[q+j]? =some x from fun j x n=>by
     rw[Y,jm]at n;split at n
     · rw[js,jm]at n
       split at n
       · exact n
       · cases n
     · cases n)
    have aH:=qZ Y;have bx:=qZ I;clear i I Y hM;go_wp2_with fail;refine af.mono ?_;rintro e w2 ⟨rfl,aJ⟩;replace hs:=(hs.below aJ).empty 90 19 rfl;clear aJ af;have bz:=ag.out;go_wp2_with fail;go_loopw [14,57] (fun ov jv wr=>∃(j:Nat) (o:kr) (f:List En),j≤M∧jv=.int .i64 (j:Int)∧o=ov∧f.length=j∧(∀e∈f,e.ok∧wfI e.l)∧LV E.N E.T P=(f++(LV E.N E.T (P.drop j)).1,(LV E.N E.T (P.drop j)).2)∧Mp pl m c E (fun _=>True) w0 wr [(pl.pg,E.p.v pl, 192)] [⟨90,19,o,j,(ens f).flatten⟩,⟨3,1,.slice (some ⟨gv,0,none⟩) l.length cv,l.length,An .i64 l⟩]) (fun _ jv _=>M-(intOf jv).toNat)
    case atStart=>exact⟨0,_,[],by omega,rfl,rfl,rfl,by simp,by simp,hs⟩
    case round=>
     clear hs;obtain⟨j,o,f,hj,rfl,rfl,aK,aL,aM,hs⟩:=hrel;have T:=qZ aK;have ah:=qZ aL;have ai:=qZ aM;clear aK aL aM;by_cases a9:j<M
     · have bA:(j:Int)<(M:Int):=by omega
       obtain⟨a,ha⟩:∃a,P[j]? =some a:=⟨_,eX (by rw[ag.out];exact a9)⟩;have aj:=a8.out j a ha;have HX:=qZ (show(An .i64 l)[q+j]? =some (.int .i64 (a:Int)) by simp[An,aj]);have ak:=ay.out a (hZ aj)
       have aN:=qZ (show P.drop j=a::P.drop (j+1) by
        obtain⟨h1,h2⟩:=List.getElem?_eq_some_iff.1 ha;rw[eD h1,h2])
       obtain⟨nt,ba,L⟩:=hs.a.tab;have al:=qZ (yz hs.a.JT L H.tw a ak);have aP:=Bn hs.a.JT.ok E.T ak;have Z:=qZ aP;obtain⟨x,n⟩:∃x,x=reads E.N E.T a:=⟨_,rfl⟩;have aQ:=qZ n;rw[←n]at al Z;have bb:=qZ (show x.1.v.length=19 from ax Z.1.1 _ _ _);clear aj ha ak ba L aP n;obtain⟨en,er⟩:=x;go_wp2_with (refine ma ?_;try (clear hs;intro w hs));refine al.mono ?_;rintro e w3 ⟨rfl,aR⟩;replace hs:=hs.below aR;clear aR al;by_cases p:er=0
       · subst p
         have bc:=qZ (show wfI en.l from Z.2 rfl);go_wp2_with (first|(refine ma ?_;try (clear hs;intro w hs))|(at_builtin;(refine bT hs 116 rfl rfl underlying116 nC rfl (by decide) bb rfl rfl (aO _ _ _ _) (by unfold maxLen;omega) (by omega) ?_;clear hs;intro v w hs)));go_roundw
         case rel=>exact⟨j+1,_,f++[en],by omega,by go_num,rfl,by rw[List.length_append,T.out];rfl,fun e J=>by
          rcases List.mem_append.1 J with J|J
          · exact ah e J
          · rw[List.mem_singleton.1 J];exact⟨Z.1,bc⟩,by rw[ai.out,aN.out,lP,←aQ.out];simp,by rw[show(ens (f++[en])).flatten=(ens f).flatten++en.v by simp[ens]];exact hs.drop 1⟩
         case measure=>first|(simp[intOf];done)|(simp[intOf];omega)
       · have bd:(er !=0)=true:=by simpa using p
         obtain⟨t,an⟩:∃t,k=t+1:=⟨k-1,by omega⟩
         have U:=qZ (show D.carry b g=(E,(q:Int),er) by
          rw[HE.out,an];refine zT (l:=f) (fun z=> ?_) ?_ p
          · exact ydd
          · rw[←aH.out,ai.out,aN.out,lP,←aQ.out,if_pos p]
            simp)
         go_wp2_with (refine ma ?_;try (clear hs;intro w hs));go_ret2;have i:=X.out;rw[U.out];exact⟨rfl,Mp.out (E:=E) ((hs.drop 1).less (.refl _) (ej _)) Q rfl rfl rfl (eY i R) (i.n.wo S)⟩
     · obtain rfl:j=M:=by omega
       have bf:=qZ (show LV E.N E.T P=(f,0) by rw[ai.out,ek (by rw[ag.out];exact jI _)];simp[LV]);obtain⟨Ao,co,ho,-,-⟩:=hs.slice 0 rfl;have ho:o=.slice Ao j co:=ho;subst ho;have i:=X.out;have I:=(Mp.out (E:=E) (hs.less (.refl _) (ej _)) Q rfl rfl rfl (eY i R) (i.n.wo S)).1;obtain⟨aS,r,aa,ao,aT⟩:=kK I aF H f;have bg:=i.n.tot;have bh:=HT.out;have ab:=qZ (fm (cc:=co) I f ah (hs.rdt 0 rfl (by rw[ens,kd,T.out]) (kC fun e J=>(ah e J).1) rfl) (by omega) 200 _ aS (by omega) HC H.n0 H.n1 H.op H.row);have aU:=qZ (dw H f);have aV:=qZ (dx aF f);have aq:=qZ (i.trans (iA E f));obtain⟨t,an⟩:∃t,k=t+1:=⟨k-1,by omega⟩
       have ar:=qZ (show D.carry b g=if(E.Kf f).2.2≠0 then((E.Kf f).1,((q+r:Nat):Int),(E.Kf f).2.2)else(E.Kf f).1.LU t ((l.take K).drop (q+r)) ((q+r:Nat):Int) by
        have bj:(l.take K).drop q≠ []:=fun z=>by
         exact ydd
        have bk:LV E.N E.T (((l.take K).drop q).take (max E.Ld 1).toNat)=(f,0):=by rw[←aH.out];exact bf
        rw[HE.out,an,Dw bj bk aa,iP])
       have au:=qZ (show r≤j∧((E.Kf f).2.2=0→1≤r)from⟨by rw[T.out]at ao;exact ao,fun z=>aT z (fun y=>by rw[y]at T;have:=T.out;simp at this;omega)⟩);obtain⟨y,hy⟩:∃y,y=E.Kf f:=⟨_,rfl⟩;rw[←hy]at aa ab aU aV aq ar au;rw[aa]at ab;clear i I aS aa ao aT bg bh hy;have bB:=au.out.1;go_wp2_with fail;refine ab.mono ?_;rintro e w5 ⟨rfl,aW,aX⟩;replace hs:=Mp.again hs aW aX (by simp) (by intro s hs;simp at hs;rcases hs with rfl|rfl<;>rfl);clear aW aX ab;by_cases p:y.2.2=0
       · have bC:=au.out.2 p
         have bl:=qZ (show D.carry b g=y.1.LU t ((l.take K).drop (q+r)) ((q+r:Nat):Int) by rw[ar.out,if_neg (by rw[p];simp)]);rw[p];go_wp2_with fail;go_roundw
         case rel=>exact⟨q+r,t,y.1,by omega,by go_num,by omega,bl,aq.mono (by omega),aU,aV,hs.less (.refl _) (List.sublist_cons_self ..)⟩
         case measure=>first|(simp[intOf];done)|(simp[intOf];omega)
       · have bd:(y.2.2 !=0)=true:=by simpa using p
         have U:=qZ (show D.carry b g=(y.1,((q+r:Nat):Int),y.2.2) by rw[ar.out,if_pos p]);go_wp2_with fail;go_ret2;have i:=aq.out;rw[U.out];exact⟨by go_num,Mp.out (E:=y.1) (hs.less (.refl _) (ej _)) Q rfl rfl rfl (eY i R) (i.n.wo S)⟩
  · obtain rfl:q=K:=by omega
    have U:=qZ (show D.carry b g=(E,(q:Int),0) by rw[HE.out,ek (by rw[gg];omega),wF]);have i:=X.out;have aY:=qZ (Mp.out (E:=E) (hs.less (.refl _) (ej _)) Q rfl rfl rfl (eY i R) (i.n.wo S));clear i;go_wp2_with fail;go_ret2;rw[U.out];exact⟨rfl,aY.1,aY.2⟩
end
end dev
theorem yea{A:Prop}(h:A:=by
 go_wp2_with fail;go_ret;rw[HRR.out];exact⟨rfl,hdv,DFr.Nl hs.fr⟩):A:=h
namespace dev
open JT (Nd JS Fr Kn Ko)
open tal (Ty Kb L1)
open tab (Tb JZ LS Kw)
open pick (i8 cO)
theorem ry{w:hG}{g lb:Nat}{Y:Ty}(h:Kb w g lb Y):kn prog 111 #[g] w fun e b=>e=.returned (.agg #[(Y.D:Int),(Y.B:Int),(Y.P:Int)])∧Below w.heap.size w b:=tal.rz h
theorem nK(k:Nat)(D:Dv):D.MO (k+1)=if 4<D.On then(D,0)else if D.Lr<0∨(D.Y.P:Int)*JV (D.Y.mask D.Lr)≤tab.Kw D.T.f D.Lr then(D,0)else(let x:=D.carry D.Lr.toNat (tab.Kw D.T.f D.Lr);if x.2.2≠0 then(x.1,x.2.2)else let y:=x.1.clear;if y.2≠0 then y else Dv.MO k y.1):=rfl
theorem uO(D:Dv):D.Lr= -1∨∃b:Nat,b<D.Y.B∧D.Lr=(b:Int):=by
 rcases pick.GW (ord:=pick.LQ D.Y D.T) (l:=pick.M8 D.Y D.T D.p.op)with⟨e,-⟩|⟨b,c,e⟩
 · exact .inl e
 · right
   unfold pick.M8 pick.KN at c;exact⟨b,hX.1 (hO.1 c).1,e⟩
theorem gj(f:tab.Mg)(b:Int):tab.Kw f b≤f.length:=by
 unfold tab.Kw;exact List.length_filter_le _ _
section
variable {w0:hG}{pl:Pl}{m c:Nat}{D:Dv}
theorem gC(h:Kk w0 pl m c D)(w:Mk D)(z:Pw D)(Q:D.T.logical≤200)(hT:tot D.N+10000000≤100000000000000)(hc:c≤100000000000000)(R:m≤100000):
 kn prog 71 #[pl.g,pl.tg,pl.lg,pl.pg] w0 fun e w'=>e=.returned D.room.2∧Kk w' pl m c D.room.1∧DFr pl.base w0 w':=by
 have HL:=qZ h.lay;have HG:=qZ h.JT.ok.geo;have S:=qZ h.same;have HT:=qZ hT;have HC:=qZ hc;have HW:=qZ (show Wo D.N from h.KP);have av:=qZ Q;have T:=qZ (fq z);have U:=qZ (fy w)
 have L:=qZ ((fJ D).mono (show D.N.D*D.Y.B≤96 by
  have V:=h.JT.ok.geo;have q2:=h.same.2.1;have:=jd V.2.1 (show D.Y.B≤16 by omega);omega))
 have W:=qZ (show D.room=if D.clear.2≠0 then D.clear else D.clear.1.MO D.Y.B from rfl);have j:=qZ (bZ h);have C:=qZ (iC h (by omega) R);have aw:=qZ (show D.Y.B≤16 by have V:=h.JT.ok.geo;have q2:=h.same.2.1;omega);have hs:=Mp.start (B:=fun _=>True) h trivial (fun _ _ _ _=>trivial);have aX:=i8;have aY:=xV;clear h w z Q hT hc;go_enter func71, ntmps71;go_wp2_with fail;refine j.mono ?_;rintro e aZ ⟨rfl,rfl⟩;clear j;go_wp2_with fail;refine C.mono ?_;rintro e w1 ⟨rfl,hdv,l⟩;replace hs:=Mp.again hs hdv l (by simp) (by simp);clear C;by_cases k:D.clear.2=0
 · have M:=qZ (show D.room=D.clear.1.MO D.Y.B by rw[W.out,if_neg (by rw[k];simp)])
   rw[k];clear k hdv l W;obtain⟨N,ax⟩:∃N,N=D.clear.1:=⟨_,rfl⟩;obtain⟨f,X⟩:∃f,f=D.Y.B:=⟨_,rfl⟩;rw[←ax]at hs M T U L;rw[←X]at M aw;have Y:=qZ X;clear ax X;go_wp2_with fail;refine(ry hs.a.tal).mono ?_;rintro e w2 ⟨rfl,ay⟩;replace hs:=hs.below ay;rw[show N.Y.B=f by rw[L.out.y.2.1];exact Y.out.symm];clear ay;go_wp2_with fail;go_loopw [40] (fun Z wr=>∃(i:Nat) (E:Dv),i≤f∧Z=.int .i64 (i:Int)∧D.room=E.MO (f-i)∧Dl D E (96+330000*i)∧Pw E∧Mk E∧Mp pl m c E (fun _=>True) w0 wr [(pl.pg,E.p.v pl, 192)] []) (fun Z _=>f-(intOf Z).toNat)
   case atStart=>exact⟨0,N,by omega,rfl,M,L,T,U,hs⟩
   case round=>
    clear hs T U L M;obtain⟨i,E,hi,rfl,hR,O,z,w,hs⟩:=hrel;have HR:=qZ hR;have p:=qZ O;have az:=qZ z;have aA:=qZ w;have a0:=aw.out;have G:=(Mp.out (E:=E) hs HL rfl rfl rfl (eY O S) (O.n.wo HW)).1;have aa:=qZ G;clear hR O z w;by_cases a1:i<f
    · have a2:(i:Int)<(f:Int):=by omega
      have ab:=qZ (show D.room=E.MO ((f-(i+1))+1) by rw[HR.out];congr 1;omega);have j:=qZ (bZ G);obtain⟨H,q,g⟩:=G.tab;have I:pick.View wr pl.tg pl.tlb E.Y pl.lg pl.mb pl.cb H E.T:=⟨G.tal,g⟩;have aB:=qZ (pick.Iz I E.p.op)
      have a3:=qZ (show E.On≤100 by
       have:E.On≤E.Y.B:=pick.kN _ _ _
       have:=p.out.y.2.1;have:=Y.out;omega)
      clear G g q I;go_wp2_with fail;refine j.mono ?_;rintro e w3 ⟨rfl,rfl⟩;clear j;go_wp2_with fail;refine aB.mono ?_;rintro e w4 ⟨rfl,ad⟩;replace hs:=hs.below ad;have t:=qZ (aa.below ad);clear ad aB aa;rw[show(pick.LJ E.Y E.T E.p.op).length=E.On from rfl];by_cases hf:4<E.On
      · have HRR:=qZ (show D.room=(E,0) by rw[ab.out,nK,if_pos hf])
        have aM:(4:Int)<(E.On:Int):=by omega
        go_wp2_with fail;go_ret;rw[HRR.out];exact⟨rfl,t,DFr.Nl hs.fr⟩
      · have aM:¬(4:Int)<(E.On:Int):=by omega
        have n:=qZ (show D.room=_ by rw[ab.out,nK,if_neg hf]);have j:=qZ (bZ t);clear hf ab;go_wp2_with fail;refine j.mono ?_;rintro e w5 ⟨rfl,rfl⟩;clear j;obtain⟨H,q,g⟩:=t.tab;have I:pick.View w4 pl.tg pl.tlb E.Y pl.lg pl.mb pl.cb H E.T:=⟨t.tal,g⟩;have aC:=qZ (pick.Gx I E.p.op);clear g q I;go_wp2_with fail;refine aC.mono ?_;rintro e w6 ⟨rfl,ae⟩;replace hs:=hs.below ae;have J:=qZ (t.below ae);clear ae aC t;rw[show pick.Ly (pick.LQ E.Y E.T) (pick.M8 E.Y E.T E.p.op)=E.Lr from rfl];rcases uO E with af|⟨v,a4,af⟩
        · have HRR:=qZ (show D.room=(E,0) by rw[n.out,if_pos (.inl (by omega))])
          rw[af];clear n;go_wp2_with fail;go_ret;rw[HRR.out];exact⟨rfl,J,DFr.Nl hs.fr⟩
        · rw[af]at n⊢
          have a5:v<16+1:=by
           have:=p.out.y.2.1;have:=Y.out;omega
          have a6:¬(v:Int)<0:=by omega
          obtain⟨H,q,g⟩:=J.tab;have r:=qZ (tab.cE g (v:Int) (bw (by omega) (by omega)))
          have C:=qZ (show tab.Kw E.T.f (v:Int)≤200 by
           have u:=gj E.T.f (v:Int);have h2:=g.ok.PW;have h3:=p.out.t;have h4:=av.out;omega)
          obtain⟨b,ag⟩:∃b,b=tab.Kw E.T.f (v:Int):=⟨_,rfl⟩;rw[←ag]at r C n;have aN:=qZ ag.symm;clear g q ag;go_wp2_with fail;refine r.mono ?_;rintro e w7 ⟨rfl,rfl⟩;clear r;go_wp2_with fail;refine(ry J.tal).mono ?_;rintro e w8 ⟨rfl,ah⟩;replace hs:=hs.below ah;have ai:=qZ (J.below ah);clear ah J;go_wp2_with fail;refine(tal.Cg ai.tal (v:Int)).mono ?_;rintro e w9 ⟨rfl,kq,rfl⟩;replace hs:=hs.drewN kq;have P:=qZ (ai.drewN kq);clear ai;generalize World.drewN _ kq=wq at hs P⊢;go_wp2_with fail;refine(bA _ _).mono ?_;rintro e a7 ⟨rfl,rfl⟩;have aD:=nB (E.Y.mask (v:Int):Int)
          have aE:0≤JV (E.Y.mask (v:Int):Int):=by
           have:=aI (E.Y.mask (v:Int):Int);unfold JV;split<;>omega
          obtain⟨sl,aj⟩:∃sl:Nat,JV (E.Y.mask (v:Int):Int)=(sl:Int):=⟨_,(Int.toNat_of_nonneg aE).symm⟩;rw[aj,ed]at aD;rw[aj]at n⊢
          have aO:E.Y.P≤8:=by
           have u:=p.out.y.2.2;have h2:=S.out.2.2;have h3:=HG.out;omega
          obtain⟨o,ak⟩:∃o,o=E.Y.P*sl:=⟨_,rfl⟩;have a8:o≤56:=by rw[ak];exact jd aO aD
          have al:(E.Y.P:Int)*(sl:Int)=(o:Int):=by rw[ak,Int.natCast_mul]
          rw[al]at n;have aP:=qZ al;have aF:=qZ (show wrap64 ((E.Y.P:Int)*(sl:Int))=(o:Int) by rw[aP.out];exact bF _ (by omega) (by omega));clear aE aj ak al;have a9:=C.out;by_cases ba:o≤b
          · have HRR:=qZ (show D.room=(E,0) by rw[n.out,if_pos (.inr (by omega))])
            have aQ:(o:Int)≤(b:Int):=by omega
            have an:=aF.out;go_wp2_with fail;clear an;go_ret;rw[HRR.out];exact⟨rfl,P,DFr.Nl hs.fr⟩
          · have aQ:¬(o:Int)≤(b:Int):=by omega
            have ao:=qZ (show D.room=if(E.carry v (b:Int)).2.2≠0 then((E.carry v (b:Int)).1,(E.carry v (b:Int)).2.2)else if(E.carry v (b:Int)).1.clear.2≠0 then(E.carry v (b:Int)).1.clear else Dv.MO (f-(i+1)) (E.carry v (b:Int)).1.clear.1 by
             rw[n.out,if_neg (by omega),ed])
            have aq:=p.out.n.tot;have ar:=HT.out;have Q:=av.out;have aR:=p.out.t;have au:=qZ (lA P aA az v (by omega) (b:Int) (by omega) (by omega) HC R);have K:=qZ (p.trans ((oW E v (b:Int)).mono (show 1600*E.T.logical≤320000 by omega)));have aG:=qZ (show Pw (E.carry v (b:Int)).1 from ft _ _ _ _ az);have aH:=qZ (show Mk (E.carry v (b:Int)).1 from fz _ _ _ _ aA);obtain⟨H,q,g⟩:=P.tab;have r:=qZ (tab.cE g (v:Int) (bw (by omega) (by omega)));have aJ:tab.Kw E.T.f (v:Int)=b:=aN;rw[aJ]at r;obtain⟨x,hx⟩:∃x,x=E.carry v (b:Int):=⟨_,rfl⟩;rw[←hx]at ao au K aG aH;clear aq ar aR g q aJ hx n;have an:=aF.out;go_wp2_with fail;clear an;refine r.mono ?_;rintro e bb ⟨rfl,rfl⟩;clear r;go_wp2_with fail;refine au.mono ?_;rintro e bc ⟨rfl,hdv,l⟩;replace hs:=Mp.again hs hdv l (by simp) (by simp);clear au l;by_cases k:x.2.2=0
            · have aK:=qZ (show D.room=if x.1.clear.2≠0 then x.1.clear else Dv.MO (f-(i+1)) x.1.clear.1 by rw[ao.out,if_neg (by rw[k];simp)])
              have j:=qZ (bZ hdv);have aq:=K.out.n.tot;have ar:=HT.out;have aL:=qZ (iC hdv (by omega) R)
              have aS:=qZ (K.trans ((fJ x.1).mono (show x.1.N.D*x.1.Y.B≤96 by
               have V:=K.out.n.geo;have q2:=K.out.y.2.1;have q3:=HG.out;have q4:=S.out.2.1;have:=jd (show x.1.N.D≤6 by omega) (show x.1.Y.B≤16 by omega);omega)))
              have aT:=qZ (fq aG);have aU:=qZ (fy aH);rw[k];clear aq ar hdv;go_wp2_with fail;refine j.mono ?_;rintro e bd ⟨rfl,rfl⟩;clear j;go_wp2_with fail;refine aL.mono ?_;rintro e bf ⟨rfl,hdv,l⟩;replace hs:=Mp.again hs hdv l (by simp) (by simp);clear aL;by_cases u:x.1.clear.2=0
              · have aV:=qZ (show D.room=Dv.MO (f-(i+1)) x.1.clear.1 by rw[aK.out,if_neg (by rw[u];simp)])
                rw[u];clear hdv l;go_wp2_with fail;go_roundw
                case rel=>exact⟨i+1,x.1.clear.1,by omega,by go_num,aV,aS.mono (by omega),aT,aU,hs⟩
                case measure=>first|(simp[intOf];done)|(simp[intOf];omega)
              · have bg:(x.1.clear.2 !=0)=true:=by simpa using u
                have HRR:=qZ (show D.room=x.1.clear by rw[aK.out,if_pos u]);exact yea
            · have aW:(x.2.2 !=0)=true:=by simpa using k
              have HRR:=qZ (show D.room=(x.1,x.2.2) by rw[ao.out,if_pos k]);exact yea
    · obtain rfl:i=f:=by omega
      have HRR:=qZ (show D.room=(E,0) by rw[HR.out,Nat.sub_self];rfl);go_wp2_with fail;go_ret;rw[HRR.out];exact⟨rfl,aa,DFr.Nl hs.fr⟩
 · have aW:(D.clear.2 !=0)=true:=by simpa using k
   have HRR:=qZ (show D.room=D.clear by rw[W.out,if_pos k]);go_wp2_with fail;go_ret;rw[HRR.out];exact⟨rfl,hdv,l⟩
end
end dev
theorem ya0{A:Prop}(h:A:=by
 go_wp2_with fail;go_roundw
 case rel=>exact⟨q+1,by omega,by go_num,by rw[HDx.out];exact hs⟩
 case measure=>first|(simp[intOf];done)|(simp[intOf];omega)):A:=h
namespace dev
open JT (Nd JS Fr Kn Ko)
open tal (Ty Kb L1)
open tab (Tb JZ LS)
open pick (i8 cO)
theorem pa(N:Nd)(k:Nat)(Y:Ty):LN N (k+1) Y=if N.dies (k:Int)then(LN N k Y).Mu k else LN N k Y:=by
 unfold LN;rw[kb,jt];rfl
theorem uz(N:Nd)(k:Nat):N.dies (k:Int)=N.dead.getD k false:=by
 unfold Nd.dies;rw[ed,show decide ((0:Int)≤(k:Int))=true by simp,Bool.true_and]
theorem l7(N:Nd)(k:Nat)(Y:Ty):Dim (LN N k Y) Y:=by
 exact yd7
section
variable {w0:hG}{pl:Pl}{m c:Nat}{D:Dv}
theorem sJ(h:Kk w0 pl m c D)(P:Mk D)(Q:Pw D)(R:D.T.logical≤200)(S:tot D.N+20000000≤100000000000000)(U:c≤100000000000000)(V:m≤100000)(f:Int)(av:f≤100000):
 kn prog 76 #[pl.g,pl.tg,pl.lg,pl.pg,f] w0 fun e W=>e=.returned (.tuple #[.int .i64 (D.step f).2.1,.int .i64 (D.step f).2.2])∧Kk W pl m c (D.step f).1∧DFr pl.base w0 W:=by
 have X:=qZ h.lay;have G:=qZ h.JT.ok.geo;have H:=qZ h.same;have Z:=qZ S;have HC:=qZ U;have HW:=qZ (show Wo D.N from h.KP);have aa:=qZ (td Q);have ab:=qZ (tJ P);have i:=qZ (kE D);have I:=qZ R;have J:=qZ (show D.step f=if D.KJ.room.2≠0 then(D.KJ.room.1,0,D.KJ.room.2)else match pick.LI D.KJ.room.1.Y D.KJ.room.1.T with|[]=>(D.KJ.room.1,0,0)|b::_=>D.KJ.room.1.carry b f from rfl);have hs:=Mp.start (B:=fun _=>True) h trivial (fun _ _ _ _=>trivial);have aE:=cO;obtain⟨g,p⟩:∃g,g=D.Y.D:=⟨_,rfl⟩;have aw:=qZ p;have ad:=qZ (show g≤8∧g=D.N.D by rw[p];have q1:=h.JT.ok.geo;have q2:=h.same.1;omega);clear h P Q R S U;go_enter func76, ntmps76;go_wp2_with fail;refine(ry hs.a.tal).mono ?_;rintro e w2 ⟨rfl,ae⟩;replace hs:=hs.below ae;rw[←p];clear ae p;go_wp2_with fail;go_loopw [18] (fun K wr=>∃q:Nat,q≤g∧K=.int .i64 (q:Int)∧Mp pl m c {D with Y:=LN D.N q D.Y} (fun _=>True) w0 wr [(pl.pg,D.p.v pl, 192)] []) (fun K _=>g-(intOf K).toNat)
 case atStart=>exact⟨0,by omega,rfl,hs⟩
 case round=>
  clear hs;obtain⟨q,hq,rfl,hs⟩:=hrel;have aF:=ad.out.1;by_cases aG:q<g
  · have aH:(q:Int)<(g:Int):=by omega
    have t:=qZ (pa D.N q D.Y);have u:=qZ (uz D.N q);go_wp2_with fail;refine(nc hs.a.JT q (by show q<D.N.D;have:=ad.out.2;omega)).mono ?_;rintro e w3 ⟨rfl,rfl⟩;rw[show({D with Y:=LN D.N q D.Y}:Dv).N=D.N from rfl];cases w:D.N.dead.getD q false with
    |false=>
     have HDx:=qZ (show LN D.N (q+1) D.Y=LN D.N q D.Y by rw[t.out,u.out,w];rfl);clear w t u;exact ya0
    |true=>
     have HDx:=qZ (show LN D.N (q+1) D.Y=(LN D.N q D.Y).Mu q by rw[t.out,u.out,w];rfl);clear w t u;go_wp2_with fail;refine(tal.u0 hs.a.tal (q:Int)).mono ?_;rintro e w4 ⟨rfl,ht,af⟩;replace hs:=Mp.tal hs X ht af;clear ht af;exact ya0
  · obtain rfl:q=g:=by omega
    have ag:({D with Y:=LN D.N q D.Y}:Dv)=D.KJ:=by unfold Dv.KJ;rw[←aw.out]
    rw[ag]at hs;have L:=Z.out;have ah:=(Mp.out (E:=D.KJ) hs X rfl rfl rfl (eY i H) (i.n.wo HW)).1;have ai:=qZ (gC ah ab aa (by rw[i.out.t];exact I) (by have:=i.out.n.tot;omega) HC V);have z:=qZ (i.trans ((iB D.KJ).mono (jW (by rw[i.out.t];exact I) (by rw[i.out.n.geo.1];exact G.2.1) (by rw[i.out.y.2.1];have q1:=G.out;have q2:=H.out.2.1;omega))));have aj:=qZ (eR aa);have ak:=qZ (eU ab);clear ag L ah;go_wp2_with fail;refine ai.mono ?_;rintro e w5 ⟨rfl,hdv,C⟩;replace hs:=Mp.again hs hdv C (by simp) (by simp);clear ai;by_cases k:D.KJ.room.2=0
    · have o:=qZ (show D.step f=match pick.LI D.KJ.room.1.Y D.KJ.room.1.T with|[]=>(D.KJ.room.1,0,0)|b::_=>D.KJ.room.1.carry b f by rw[J.out,if_neg (by rw[k];simp)])
      rw[k];clear k J;obtain⟨E,hE⟩:∃E,E=D.KJ.room.1:=⟨_,rfl⟩;rw[←hE]at hs o aj ak z hdv;have al:=qZ hdv;obtain⟨nt,ax,an⟩:=hdv.tab;have j:pick.View w5 pl.tg pl.tlb E.Y pl.lg pl.mb pl.cb nt E.T:=⟨hdv.tal,an⟩;have M:=qZ (pick.J1 j)
      have ao:=qZ (show∀b∈pick.LI E.Y E.T,b≤65536 from fun b hb=>by
       unfold pick.LI pick.KN at hb;have h1:=hX.1 (hO.1 hb).1;have h2:=z.out.y.2.1;have h3:=G.out;have h4:=H.out.2.1;omega)
      obtain⟨l,hl⟩:∃l,l=pick.LI E.Y E.T:=⟨_,rfl⟩;rw[←hl]at M ao o;clear hE hdv C ax an j hl;go_wp2_with fail;refine M.mono ?_;rintro e w6 ⟨ay,rfl,aq,O⟩;replace hs:=hs.got O aq rfl;have ar:=qZ (al.below O);clear aq O M al;obtain⟨A,cv,j,-,-⟩:=hs.slice 0 rfl;have j:ay=.slice A l.length cv:=j;subst j;cases l with
      |nil=>
       have HR:=qZ (show D.step f=(E,0,0)from o);go_wp2_with fail;go_ret2;rw[HR.out];exact⟨rfl,ar,DFr.Nl hs.fr⟩
      |cons b r=>
       have HR:=qZ (show D.step f=E.carry b f from o);obtain⟨gv,aI,az⟩:=hs.form 0 rfl (by show 0<(b::r).length;simp);have aA:A=some ⟨gv,0,none⟩:=by injection az
       subst aA;have HX:=qZ (show(An .i64 (b::r))[0]? =some (.int .i64 (b:Int))from rfl);have au:¬((b::r).length:Int)=0:=by rw[jw];omega
       have aB:(0:Int)<((b::r).length:Int):=by rw[jw];omega
       have L:=Z.out;have aC:=z.out.n.tot;have aD:=qZ (lA ar ak aj b (ao b (by simp)) f av (by rw[z.out.t];have:=I.out;omega) HC V);clear L aC o;obtain⟨n,hn⟩:∃n,n=(b::r).length:=⟨_,rfl⟩;rw[←hn]at au aB hs⊢;clear hn;have aJ:((n:Int)==0)=false:=by simpa using au
       go_wp2_with (first|(refine fp 0 hs rfl 3 rfl rfl rfl underlying3 rfl HX ?_));refine aD.mono ?_;rintro e w7 ⟨rfl,hdv,C⟩;replace hs:=Mp.again hs hdv C (by simp) (by intro s hs;simp at hs;subst hs;rfl);go_wp2_with fail;go_ret2;exact I6
    · have aK:(D.KJ.room.2 !=0)=true:=by simpa using k
      have HR:=qZ (show D.step f=(D.KJ.room.1,0,D.KJ.room.2) by rw[J.out,if_pos k]);go_wp2_with fail;go_ret2;exact I6
end
end dev
namespace dev.b18
open dev
open JT (Nd Flt)
open tal (Ty)
open tab (Tb At6)
def en(l s:Nat):En:=⟨l,s,1,[l,s,0,7,0,0,0,0,0,0,0,0,0,0,0,0]⟩
def D0:Dv:=⟨Nd.new 3 8 2,Ty.new 3 8 2,⟨20,[],1⟩,⟨-1,0,0,1⟩⟩
def f2:Flt:=⟨0,4,2,0,0,0,0⟩
def D1:Dv:=(D0.Kf [en 1 1,en 2 2,en 3 3]).1
def D2:Dv:=(D1.Kf [en 3 3]).1
def D3:Dv:=(D2.carry (0:Nat) 2).1
def D4:Dv:={D3 with N:=D3.N.KF f2}
def D5:Dv:=(D4.step 2).1
def D6:Dv:=D5.room.1
def D7:Dv:=(D6.Mm [en 9 9]).1
theorem e1:(D0.Kf [en 1 1,en 2 2,en 3 3]).1=D1:=rfl
theorem e2:(D1.Kf [en 3 3]).1=D2:=rfl
theorem e3:(D2.carry (0:Nat) 2).1=D3:=rfl
theorem e5:(D4.step 2).1=D5:=rfl
theorem e6:D5.room.1=D6:=rfl
theorem e7:(D6.Mm [en 9 9]).1=D7:=rfl
attribute [irreducible] D1 D2 D3 D5 D6 D7
theorem k1:(D0.Kf [en 1 1,en 2 2,en 3 3]).2=(2,0)∧dev.tot D1.N≤1000∧D1.T.logical=20:=by decide+kernel
theorem k2:(D1.Kf [en 3 3]).2=(1,0)∧dev.tot D2.N≤1000∧D2.T.logical=20:=by decide+kernel
theorem k3:(D2.carry (0:Nat) 2).2=(2,0)∧dev.tot D3.N≤1000∧D3.T.logical=20∧(tab.Kh D3.T.f 1).isSome=true∧(At6.of (tab.Kh D3.T.f 1)).b=1∧D3.p.op=1:=by decide+kernel
theorem k5:(D4.step 2).2=(1,0)∧dev.tot D5.N≤1000∧D5.T.logical=20∧D5.Ok<4∧D5.N.broken=0:=by decide+kernel
theorem k6:D5.room.2=0∧dev.tot D6.N≤1000∧D6.T.logical=20:=by decide+kernel
theorem k7:(D6.Mm [en 9 9]).2=0∧dev.tot D7.N≤1000∧D7.T.logical=20:=by decide+kernel
theorem k8:D7.clear.2=0:=by decide+kernel
theorem g1:(3≤D1.N.D∧D1.N.D≤8)∧D1.Y.sb.length≤16:=by decide+kernel
theorem t4:dev.tot D4.N≤1000∧D4.T.logical=20∧D4.N.ops=D3.N.ops∧(D4.N.D=D3.N.D∧D4.N.B=D3.N.B∧D4.N.P=D3.N.P):=by decide+kernel
theorem m0:Mk D0∧Pw D0:=by
 refine⟨⟨fun d c h=>absurd h ?_,rfl⟩,⟨by decide,by decide,by decide,by decide,(fun p b=>by cases b),by decide,by decide⟩⟩;rw[show hasB D0.p.mask (d:Int)=false from by unfold hasB D0;simp];simp
theorem m1:Mk D1∧Pw D1:=e1▸⟨dx m0.1 _,dw m0.2 _⟩
theorem m2:Mk D2∧Pw D2:=e2▸⟨dx m1.1 _,dw m1.2 _⟩
theorem m3:Mk D3∧Pw D3:=e3▸⟨fz _ _ _ _ m2.1,ft _ _ _ _ m2.2⟩
theorem m4:Mk D4∧Pw D4:=⟨⟨fun d h q=>by rw[t4.2.2.2.1];exact m3.1.1 d h q,by rw[t4.2.2.2.1];exact m3.1.2⟩,⟨m3.2.n0,m3.2.n1,m3.2.op,m3.2.row,m3.2.tw,m3.2.yb,by rw[t4.2.2.2.2.2];exact m3.2.np⟩⟩
theorem m5:Mk D5∧Pw D5:=e5▸⟨xD m4.1 _,xr m4.2 _⟩
theorem m6:Mk D6∧Pw D6:=e6▸⟨eU m5.1,eR m5.2⟩
theorem m7:Mk D7∧Pw D7:=e7▸⟨tF _ _ _ m6.1,sX _ _ _ m6.2⟩
theorem wo4(h:Wo D3.N):Wo D4.N:=by
 show Wo (D3.N.KF f2);unfold Nd.KF;split
 · exact h
 · rw[if_neg (by decide),if_neg (by decide),if_neg (by decide),if_pos (by decide)];exact h
end dev.b18
namespace dev
open JT (Nd JS Fr Kn Ko)
open tal (Ty Kb L1)
open tab (Tb JZ LS)
theorem _root_.Go.Proofs.YtlkpfnjdbgeifaaGreat.RdT.drop{d:TypeId→Bool}{w:hG}{C k n b o:Nat}{c:List (List kr)}(h:RdT d w C (some ⟨b,o,none⟩) k n c)(q:Nat):RdT d w C (some ⟨b,o+q*k,none⟩) k (n-q) (c.drop q):=by
 obtain⟨⟨g,l,m⟩,p⟩:=h;refine⟨⟨by rw[fo,g],fun r t=>l r (jg t),fun z=> ?_⟩,fun B D e z=> ?_⟩
 · obtain⟨B,D,e,E,G⟩:=m (by omega)
   injection e with e
   injection e with e1 e2
   subst e1;subst e2;refine⟨b,o+q*k,rfl,E,fun i r j u f hj=> ?_⟩;rw[js]at f;have:=G (q+i) r j u f hj;rw[show o+q*k+(i*k+j)=o+((q+i)*k+j) by rw[Nat.add_mul];omega];exact this
 · injection e with e
   injection e with e1 e2
   subst e1;exact p b o rfl (by omega)
theorem yt(k:Nat)(D:Dv):D.NC k []=(D,0):=by
 cases k with
 |zero=>rfl
 |succ k=>show(if([]:List En)=[]then(D,0)else _)=_;rw[if_pos rfl]
theorem uS(k:Nat)(D:Dv){l:List En}(b:l≠ []):D.NC (k+1) l=if D.room.2≠0 then D.room else if(D.room.1.Kf l).2.2≠0 then((D.room.1.Kf l).1,(D.room.1.Kf l).2.2)else Dv.NC k (D.room.1.Kf l).1 (l.drop (D.room.1.Kf l).2.1.toNat):=by
 show(if l=[]then(D,0)else _)=_;rw[if_neg b]
section
variable {w0:hG}{pl:Pl}{m c:Nat}{D:Dv}
theorem ny(h:Kk w0 pl m c D)(C:Mk D)(G:Pw D)(K:D.T.logical≤200)(l:List En)(ab:∀e∈l,e.ok∧wfI e.l){A:Option Addr}{n cc:Nat}(Q:RdT Kx w0 w0.heap.size A 19 n (ens l))(hn:n≤200)(aK:n≤cc)(hA:∀a,A=some a→a.spot=none)(hT:tot D.N+6100000*210≤100000000000000)(hc:c≤100000000000000)(hm:m≤100000):
 kn prog 68 #[pl.g,pl.tg,pl.lg,pl.pg,.slice A n cc] w0 fun e w'=>e=.returned (.int .i64 (D.Mm l).2)∧Kk w' pl m c (D.Mm l).1∧DFr pl.base w0 w':=by
 have HL:=qZ h.lay;have HG:=qZ h.JT.ok.geo;have HS:=qZ h.same;have HT:=qZ hT;have HC:=qZ hc;have HW:=qZ (show Wo D.N from h.KP);have av:=qZ C;have aw:=qZ G;have ax:=qZ K;have ay:=qZ ab;have L:=qZ (show l.length=n by have:=Q.1.1;rwa [ens,kd]at this);have HN:=qZ hn;have aL:=qZ h.QP;have az:=qZ (show D.Mm l=D.NC n l by unfold Dv.Mm;rw[L.out]);have hs:=Mp.start (B:=fun w=>RdT Kx w w0.heap.size A 19 n (ens l)) h Q (fun _ _ hk b=>b.old hk);have aA:=qZ (show∀a,A=some a→∃b o,A=some ⟨b,o,none⟩from fun a e=>⟨a.block,a.off,by rw[e];congr 1;have:=hA a e;cases a;simp at this;simp[this]⟩);clear h C G K ab Q hn hT hc hA;go_enter func68, ntmps68;go_wp2_with fail;go_loopw [4] (fun sv wr=>∃(q k j:Nat) (p:Option Addr) (E:Dv),q≤n∧sv=.slice p (n-q) j∧n-q≤j∧n≤q+k∧(∀a,p=some a→∃b o,p=some ⟨b,o,none⟩)∧(∀W,RdT Kx W w0.heap.size A 19 n (ens l)→RdT Kx W w0.heap.size p 19 (n-q) (ens (l.drop q)))∧D.Mm l=E.NC k (l.drop q)∧Dl D E (6100000*q)∧Pw E∧Mk E∧Mp pl m c E (fun w=>RdT Kx w w0.heap.size A 19 n (ens l)) w0 wr [(pl.pg,E.p.v pl, 192)] []) (fun sv _=>match sv with| .slice _ aB _=>aB|_=>0)
 case atStart=>exact⟨0,n,cc,A,D,by omega,rfl,by omega,by omega,aA,fun _ z=>z,az,Dl.refl D,aw,av,hs⟩
 case round=>
  clear hs;obtain⟨q,k,j,p,E,hq,rfl,aC,aM,aN,ad,hE,M,G,C,hs⟩:=hrel;have HE:=qZ hE;have H:=qZ M;have ae:=qZ G;have af:=qZ C;have N:=qZ ad;have R:=(Mp.out (E:=E) hs HL rfl rfl rfl (eY M HS) (M.n.wo HW)).1;have ag:=qZ R;clear hE M G C ad;by_cases aO:q<n
  · have aD:(0:Int)<((n-q:Nat):Int):=by omega
    obtain⟨b,o,aE⟩:∃b o,p=some ⟨b,o,none⟩:=by
     have:=(N _ hs.b).1.2.2 (by omega);obtain⟨b,o,e,-⟩:=this;exact⟨b,o,e⟩
    subst aE
    have S:l.drop q≠ []:=fun z=>by
     have:=congrArg List.length z;rw[fo,L.out]at this;simp only[List.length_nil]at this;omega
    obtain⟨r,aF⟩:∃r,k=r+1:=⟨k-1,by omega⟩;have T:=qZ (show D.Mm l=if E.room.2≠0 then E.room else if(E.room.1.Kf (l.drop q)).2.2≠0 then((E.room.1.Kf (l.drop q)).1,(E.room.1.Kf (l.drop q)).2.2)else Dv.NC r (E.room.1.Kf (l.drop q)).1 ((l.drop q).drop (E.room.1.Kf (l.drop q)).2.1.toNat) by rw[HE.out,aF,uS _ _ S]);have U:=H.out.n.tot;have V:=HT.out;have aG:=H.out.t;have K:=ax.out;have aP:=HN.out;have ah:=qZ (gC R af ae (by omega) (by omega) HC hm);have X:=qZ (H.trans ((iB E).mono (jW (by omega) (by rw[H.out.n.geo.1];exact HG.2.1) (by rw[H.out.y.2.1];have q1:=HG.out;have f:=HS.out.2.1;omega))));have i:=qZ (eR ae);have Y:=qZ (eU af);have aH:=qZ S;clear U V R aG K S;obtain⟨N1,Z⟩:∃N1,N1=n-q:=⟨_,rfl⟩;have t:=qZ Z;rw[←Z]at aD aC N⊢;clear Z;go_wp2_with fail;refine ah.mono ?_;rintro e w1 ⟨rfl,hdv,u⟩;have ai:=hs.sb _ _ (na u) hs.b;replace hs:=Mp.again hs hdv u (by simp) (by simp);clear ah u ag;by_cases g:E.room.2=0
    · have I:=qZ (show D.Mm l=if(E.room.1.Kf (l.drop q)).2.2≠0 then((E.room.1.Kf (l.drop q)).1,(E.room.1.Kf (l.drop q)).2.2)else Dv.NC r (E.room.1.Kf (l.drop q)).1 ((l.drop q).drop (E.room.1.Kf (l.drop q)).2.1.toNat) by rw[T.out,if_neg (by rw[g];simp)])
      rw[g];obtain⟨J,aj⟩:∃J,J=E.room.1:=⟨_,rfl⟩;rw[←aj]at hs hdv I X i Y;obtain⟨ak,f,O,al,an⟩:=kK hdv Y i (l.drop q);have U:=X.out.n.tot;have V:=HT.out;have ao:=hs.size;have P:=qZ (fm (cc:=j) hdv (l.drop q) (fun e he=>ay e (jg he)) ((N _ ai).up ao) (by have:=t.out;omega) 200 _ ak (by omega) HC i.n0 i.n1 i.op i.row);have aq:=qZ (dw i (l.drop q));have ar:=qZ (dx Y (l.drop q));have au:=qZ (X.trans (iA J (l.drop q)));have aa:=qZ (show f≤N1∧((J.Kf (l.drop q)).2.2=0→1≤f)from⟨by rw[fo,L.out]at al;have:=t.out;omega,fun z=>an z aH⟩);obtain⟨y,hy⟩:∃y,y=J.Kf (l.drop q):=⟨_,rfl⟩;rw[←hy]at O P aq ar au I aa;rw[O,ed,iP]at I;rw[O]at P;clear g aj T hdv ai ak O al an U V ao hy;have aQ:=aa.out.1;go_wp2_with fail;refine P.mono ?_;rintro e w5 ⟨rfl,hdv,u⟩;replace hs:=Mp.again hs hdv u (by simp) (by simp);clear u P;by_cases g:y.2.2=0
      · have aR:=aa.out.2 g
        have aI:=qZ (show D.Mm l=Dv.NC r y.1 (l.drop (q+f)) by rw[I.out,if_neg (by rw[g];simp)]);rw[g];clear hdv;go_wp2_with fail;go_roundw
        case rel=>exact⟨q+f,r,j-f,(if j=f then some ⟨b,o,none⟩else some ⟨b,o+f*19,none⟩),y.1,by have:=t.out;omega,by rw[show n-(q+f)=N1-f by have:=t.out;omega],by have:=t.out;omega,by omega,fun a _=>by
         split
         · exact⟨b,o,rfl⟩
         · exact⟨b,o+f*19,rfl⟩,fun W hW=>by
         have hd:=(N W hW).drop f;have e1:n-(q+f)=N1-f:=by have:=t.out;omega
         have e2:ens (l.drop (q+f))=(ens (l.drop q)).drop f:=by unfold ens;rw[←List.map_drop,iP]
         rw[e1,e2];split
         · rename_i aS
           have hz:N1-f=0:=by omega
           exact⟨⟨hd.1.1,hd.1.2.1,fun z=>by omega⟩,fun _ _ _ z=>by omega⟩
         · exact hd,aI,au.mono (by omega),aq,ar,hs⟩
        case measure=>show N1-f<N1;omega
      · have aJ:(y.2.2 !=0)=true:=by simpa using g
        have HR:=qZ (show D.Mm l=(y.1,y.2.2) by rw[I.out,if_pos g]);go_wp2_with fail;go_ret;exact I6
    · have aJ:(E.room.2 !=0)=true:=by simpa using g
      have HR:=qZ (show D.Mm l=E.room by rw[T.out,if_pos g]);go_wp2_with fail;go_ret;exact I6
  · obtain rfl:q=n:=by omega
    have HR:=qZ (show D.Mm l=(E,0) by rw[HE.out,ek (by rw[L.out];exact jI _),yt]);go_wp2_with fail;go_ret;rw[HR.out];exact⟨rfl,ag,DFr.Nl hs.fr⟩
end
end dev
end Go.Proofs.YtlkpfnjdbgeifaaGreat
