import Derived.Test.YtlkpfnjdbgeifaaGreatFDevModel
import Derived.Test.YtlkpfnjdbgeifaaGreatFMsT
import Derived.Test.YtlkpfnjdbgeifaaGreatFStill
import Derived.Test.YtlkpfnjdbgeifaaGreatFRowDel
set_option linter.unusedSimpArgs false
set_option linter.unusedVariables false
set_option maxRecDepth 100000
set_option maxHeartbeats 8000000
open Go renaming World→ed,Value→ek,bodyPost_ret→fo,undef→gg,TypeId→hG,Calls→hO,wpList_load_mid→jd,bodyPost→lx,maxLen→qc,Addr→r4,wpStill_nil→sT
open List renaming getElem?_eq_getElem→ej,mem_of_getElem?→eD,range_succ→iP,getElem?_map→js,take_add_one→jt,map_append→kb,take_succ_cons→kd,drop_succ_cons→kk,length_append→kn,foldl_append→kr,getElem_mem→ly,mem_append→l5,take_zero→l8,drop_zero→nr,replicate→o4,mem_map→qa
open Go.Proofs.Tryz renaming underlying62→eX,prog→hX,underlying90→jg,underlying3→l4,underlying116→pn,underlying156→ps,underlying25→px,underlying83→py,underlying84→pz,func141→r2,func143→tl
open Go.Region renaming wanted→fj,binds→jw
open Option renaming bind_some→hZ,map_eq_some_iff→jI
open Nat renaming le_refl→jm
namespace Go.Proofs.YtlkpfnjdbgeifaaGreat
open Go.Proofs.Tryz
open Go.RowKit
theorem gn{A:Prop}(h:A:=by exact I3 ⟨ux,rfl,by simpa[JW]using hJ.out⟩):A:=h
theorem yau{A:Prop}(h:A:=by
 obtain⟨⟨h1,h2,h3⟩,h4⟩:=h
 have hb:∀b o,A=some ⟨b,o,none⟩→0<n→w'.heap[b]? =w.heap[b]? :=fun b o e hn=>by
  obtain⟨b',o',e',hb',-⟩:=h3 hn;rw[e]at e';injection e' with e'
  injection e' with e1 e2
  subst e1;have hl:=h4 b o e hn;obtain⟨cs,t,fr,q1,-⟩:=id hl;exact hk.block b (af q1) fun hc=>hc ⟨hb',hl⟩
 refine⟨⟨h1,h2,fun hn=> ?_⟩,fun b o e hn=> ?_⟩
 · obtain⟨b,o,e,hlt,hc⟩:=h3 hn
   exact⟨b,o,e,hlt,fun i r j u hi hj=>(World.cell?_of_block (a:=⟨b,o+(i*k+j),none⟩) (hb b o e hn)).trans (hc i r j u hi hj)⟩
 · obtain⟨cs,t,fr,q1,q2⟩:=h4 b o e hn
   exact⟨cs,t,fr,(hb b o e hn).trans q1,q2⟩):A:=h
namespace dev
open JT (Nd JS Fr Kn Ko)
open tal (Ty Kb L1)
open tab (Tb JZ LS)
abbrev noT:hG→Bool:=fun _=>false
abbrev Mr(b w:ed)(L:List Bk)(S:List Sl):Prop:=Ms noT noT b.heap.size (fun _=>True) (fun _=>True) b w L S
theorem Mr.start(w:ed):Mr w w [] []:=Ms.start (fun _ h=>h) (jm _) (fun _ _ _ _=>trivial) (fun _ _ _ _=>trivial) trivial trivial
abbrev Md(L:Pl)(m c:Nat)(D:Dv)(B:ed→Prop)(b w:ed)(e:List Bk)(S:List Sl):Prop:=Ms Kx Kx L.base (fun w=>Kk w L m c D) B b w e S
section
variable {d:hG→Bool}{w w':ed}{base g m:Nat}
theorem JS.chg{N:Nd}(e:∀t,Ko t=true→d t=true)(h:JS w base g m N)(b:Chg d w w'):JS w' base g m N:=h.keep b fun k c=>by
 obtain⟨f,t,fr,i,j⟩:=c;grind
theorem eS{k:Nat}{b:Array ek}{t:hG}{fr:Nat×Nat}(h:w.heap[k]? =some (.cells b t fr))(c:d t=true):¬Loc d w k:=by
 rintro ⟨e,f,i,j,l⟩;simp_all
theorem Kb.chg{g lb:Nat}{Y:Ty}(b:d 188 =true)(c:d 196 =true)(h:Kb w g lb Y)(e:Chg d w w'):Kb w' g lb Y:=h.keep e (eS h.head b) (eS h.rows c)
theorem JZ.chg{g b c n:Nat}{T:Tb}(e:d 154 =true)(h:JZ w g b c n T)(f:Chg d w w'):JZ w' g b c n T:=h.keep f fun k i j=>by
 obtain⟨l,t,fr,e1,e2⟩:=j;rcases i with rfl|rfl|rfl
 · exact eS h.head e ⟨l,t,fr,e1,e2⟩
 · obtain⟨D,⟨o,clock,p,-⟩,-⟩:=h.at_
   simp_all
 · obtain⟨D,_,⟨o,clock,p,-⟩,-⟩:=h.cnt
   simp_all
theorem bD{t:hG}(h:Ko t=true):Kx t=true:=by unfold Kx;grind
theorem Kk.chg{L:Pl}{c:Nat}{D:Dv}(h:Kk w L m c D)(b:Chg Kx w w'):Kk w' L m c D:=
 {h with
  JT:=JS.chg (fun _=>bD) h.JT b
  tal:=Kb.chg rfl rfl h.tal b
  tab:=by obtain⟨n,e,f⟩:=h.tab;exact⟨n,e,JZ.chg rfl f b⟩
  pen:=bE h.pen b (eS h.pen rfl)}
theorem Md.start{L:Pl}{c:Nat}{D:Dv}{B:ed→Prop}(h:Kk w L m c D)(b:B w)(i:∀e f,Old Kx w.heap.size e f→B e→B f):Md L m c D B w w [] []:=
 Ms.start (fun _ h=>h) h.QP (fun _ _ j a=>a.chg j) i h b
theorem DFr.dvc(h:DFr base w w'):Dvc Kx base w w':=⟨h.os,h.tape,h.output,h.size,fun k b c=>h.block k b (by
 by_cases f:k<base
 · omega
 · right
   have:Loc Kx w k:=Classical.byContradiction fun e=>c ⟨by omega,e⟩
   obtain⟨i,t,fr,j,l⟩:=this;grind)⟩
theorem DFr.Nl(h:Dvc Kx base w w'):DFr base w w':=⟨h.os,h.tape,h.output,h.size,fun k c b=>h.block k c fun e=>by
 rcases b with b|⟨f,t,fr,i,j⟩
 · omega
 · exact e.2 ⟨f,t,fr,i,j⟩⟩
theorem Fr.dvc(h:Fr base g w w'):Dvc Ko base w w':=⟨h.os,h.tape,h.output,h.size,fun k b c=>h.block k b (by
 by_cases f:k<base
 · omega
 · right
   have:Loc Ko w k:=Classical.byContradiction fun e=>c ⟨by omega,e⟩
   obtain⟨i,t,fr,j,l⟩:=this;grind)⟩
def Rdt(w:ed)(C:Nat)(A:Option r4)(k n:Nat)(c:List (List ek)):Prop:=Rds w C A k n c∧∀b o,A=some ⟨b,o,none⟩→0<n→Loc Kx w b
theorem Rdt.old{C k n:Nat}{A:Option r4}{c:List (List ek)}(h:Rdt w C A k n c)(hk:Old Kx C w w'):Rdt w' C A k n c:=by
 exact yau
end
end dev
theorem yfp{A:Prop}(h:A:=by
 rw[List.mem_singleton]at hx;subst hx;exact⟨h.pen,h.low.2.2.2.2.2,rfl,.inl rfl⟩):A:=h
namespace dev
open JT (Nd JS Fr Kn Ko)
open tal (Ty Kb L1)
open tab (Tb JZ LS)
def OZ(t:hG):Bool:=Kx t&& !(t== 192)
structure MG (w:ed) (L:Pl) (m c:Nat) (D:Dv):Prop where
 JT:JS w L.base L.g m D.N
 tal:Kb w L.tg L.tlb D.Y
 tab:∃n,n≤c+3*D.N.ops∧JZ w L.lg L.mb L.cb n D.T
theorem tD{t:hG}(h:Ko t=true):OZ t=true:=by
 unfold OZ;rw[bD h];cases e:t== 192 with
 |false=>rfl
 |true=>
  have:t= 192 :=by simpa using e
  subst this;exact absurd h (by decide)
section
variable {w w':ed}{L:Pl}{m c:Nat}{D:Dv}
theorem MG.chg(h:MG w L m c D)(b:Chg OZ w w'):MG w' L m c D:=
 ⟨JS.chg (fun _=>tD) h.JT b,Kb.chg rfl rfl h.tal b,by obtain⟨n,e,f⟩:=h.tab;exact⟨n,e,JZ.chg rfl f b⟩⟩
theorem Kk.x(h:Kk w L m c D):MG w L m c D:=⟨h.JT,h.tal,h.tab⟩
abbrev Mp(L:Pl)(m c:Nat)(D:Dv)(B:ed→Prop)(b w:ed)(e:List Bk)(S:List Sl):Prop:=Ms OZ Kx L.base (fun w=>MG w L m c D) B b w e S
theorem Mp.start{B:ed→Prop}(h:Kk w L m c D)(b:B w)(g:∀e f,Old Kx w.heap.size e f→B e→B f):Mp L m c D B w w [(L.pg,D.p.v L, 192)] []where
 sub t ht:=by unfold OZ at ht;rw[Bool.and_eq_true]at ht;exact ht.1
 own x hx:=by
  exact yfp
 srt:=List.pairwise_singleton _ _
 sls:=by simp
 sps:=.nil
 fr:=Kj.refl _ w
 le:=h.QP
 sa _ _ hk a:=a.chg hk
 sb:=g
 a:=h.x
 b:=b
theorem bZ(h:Kk w L m c D):hO hX 70 #[.pointer (some ⟨L.pg,0,none⟩)] w fun e w'=>e=.returned (.int .i64 D.p.op)∧w=w':=by
 have c3:w.cell? ⟨L.pg,3,none⟩=some (.int .i64 D.p.op):=by rw[ae h.pen];rfl
 clear h;go_enter func70, ntmps70;exact nj
end
end dev
section
theorem vE{b:Type}(l:List b)(x:b)(r:List b):x∈l++x::r:=by simp
theorem Cd{b:Type}(l:List b)(x y:b)(r:List b):y∈l++x::y::r:=by simp
structure L8 (M:ed→List Bk→Prop) (REST:List Bk) (t:hG) (v z0:List ek) (ia ib:Nat) (z:Nat) (L:Nat→Bool) (w:ed):Prop where
 ms:∃L',M w (L'++REST)∧(L ia=true→∃L2,L'=(z,bif L ib then v else z0,t)::L2)
 a:L ib=true→L ia=true
section
variable {M:ed→List Bk→Prop}{REST:List Bk}{t:hG}{v z0:List ek}{ia ib z i:Nat}{L:Nat→Bool}{w w':ed}
theorem L8.start(h:M w REST)(b:L ia=false)(c:L ib=false):L8 M REST t v z0 ia ib z L w:=
 ⟨⟨[],h,fun q=>by simp_all⟩,fun q=>by simp_all⟩
theorem L8.JW(h:L8 M REST t v z0 ia ib z L w)(b:JW L i ia=L ia)(c:JW L i ib=L ib):L8 M REST t v z0 ia ib z (JW L i) w:=by
 refine⟨?_,fun q=> ?_⟩
 · rw[b,c];exact h.ms
 · rw[c]at q;rw[b];exact h.a q
theorem L8.below(h:L8 M REST t v z0 ia ib z L w)(hM:∀L',M w L'→M w' L')(h7:Go.Proofs.YtlkpfnjdbgeifaaGreat.JW L i ia=L ia)(h8:Go.Proofs.YtlkpfnjdbgeifaaGreat.JW L i ib=L ib):L8 M REST t v z0 ia ib z (Go.Proofs.YtlkpfnjdbgeifaaGreat.JW L i) w':=by
 obtain⟨L',hm,hn⟩:=h.ms;exact L8.JW ⟨⟨L',hM _ hm,hn⟩,h.a⟩ h7 h8
theorem L8.no(h:L8 M REST t v z0 ia ib z L w)(c:L ia=false):∃b,M w (b++REST)∧L ib=false:=by
 obtain⟨b,f,-⟩:=h.ms;refine⟨b,f,?_⟩;cases e:L ib with
 |false=>rfl
 |true=>exact absurd (h.a e) (by simp[c])
theorem L8.made{b:List Bk}(c:M w ((z,z0,t)::(b++REST)))(f:L ib=false)(g:ia≠ib):L8 M REST t v z0 ia ib z (Go.Proofs.YtlkpfnjdbgeifaaGreat.JW L ia) w:=by
 have e:Go.Proofs.YtlkpfnjdbgeifaaGreat.JW L ia ib=false:=by
  unfold Go.Proofs.YtlkpfnjdbgeifaaGreat.JW;rw[f];have:(ib==ia)=false:=by simpa using fun q:ib=ia=>g q.symm
  rw[this];rfl
 exact⟨⟨(z,z0,t)::b,c,fun _=>⟨b,by grind⟩⟩,fun q=>by simp_all⟩
theorem L8.at_(h:L8 M REST t v z0 ia ib z L w)(c:L ia=true)(e:L ib=false):∃b,M w ((z,z0,t)::(b++REST)):=by
 obtain⟨f,g,j⟩:=h.ms;grind
theorem L8.full{b:List Bk}(c:M w ((z,v,t)::(b++REST)))(f:L ia=true):L8 M REST t v z0 ia ib z (Go.Proofs.YtlkpfnjdbgeifaaGreat.JW L ib) w:=by
 have e:Go.Proofs.YtlkpfnjdbgeifaaGreat.JW L ib ib=true:=by unfold Go.Proofs.YtlkpfnjdbgeifaaGreat.JW;simp
 refine⟨⟨(z,v,t)::b,c,fun _=>⟨b,by grind⟩⟩,fun _=> ?_⟩;unfold Go.Proofs.YtlkpfnjdbgeifaaGreat.JW;simp_all
theorem L8.done(h:L8 M REST t v z0 ia ib z L w)(c:L ia=true)(e:L ib=true):∃b,M w ((z,v,t)::(b++REST)):=by
 obtain⟨f,g,j⟩:=h.ms;grind
end
theorem ba{P:Program}{o:Oper}{a:Act}{w:ed}{K:Act→ed→Prop}{Q:Exit→Act→ed→Prop}(t:hG)(aT:Array (Nat×Operand))(c:o.op=.build t aT)(b:List (Nat×ek))(f:aT.toList.map (fun p=>(p.1,a.eval p.2))=b)(cells:Array ek)(g:P.built t b=some cells)(h:K (a.put o.dst (.agg cells)) w):o.wp P a w K Q:=by
 have e:(aT.map fun(i,x)=>(i,a.eval x)).toList=b:=by rw[←f,Array.toList_map]
 unfold Oper.wp execOp;simp only[c,Sem.run_bind,run_build w t _ cells (by rw[e];exact g),Result.andThen_ok];exact h
theorem JQ(b p:Int): hX.built 52 [(1,.int .i64 b),(2,.int .i64 p)]=some ([.int .i64 0,.int .i64 b,.int .i64 p]:List ek).toArray:=by kernel_rfl
def RdT(d:hG→Bool)(w:ed)(C:Nat)(A:Option r4)(k n:Nat)(c:List (List ek)):Prop:=Rds w C A k n c∧∀b o,A=some ⟨b,o,none⟩→0<n→Loc d w b
theorem RdT.old{d:hG→Bool}{w w':ed}{C k n:Nat}{A:Option r4}{c:List (List ek)}(h:RdT d w C A k n c)(hk:Old d C w w'):RdT d w' C A k n c:=by
 exact yau
theorem RdT.mono{d c:hG→Bool}(g:∀t,d t=true→c t=true){w:ed}{C k n:Nat}{A:Option r4}{f:List (List ek)}(h:RdT c w C A k n f):RdT d w C A k n f:=
 ⟨h.1,fun b o e i=>ku g (h.2 b o e i)⟩
end
theorem Ge{A:Prop}(h:A:=by
 have q0:w'.cell? ⟨pl.pg,0,none⟩=some (.pointer (some ⟨pl.g,0,none⟩)):=(hJ.out.out.cell (p:=⟨pl.pg,0,none⟩) (World.block_lt_of_cell? w0 _ P0.out)).trans P0.out;have q3:w'.cell? ⟨pl.pg,3,none⟩=some (.int .i64 D.p.op):=(hJ.out.out.cell (p:=⟨pl.pg,3,none⟩) (World.block_lt_of_cell? w0 _ P3.out)).trans P3.out;have q4:w'.cell? ⟨pl.pg,4,none⟩=some (.int .i64 D.p.row):=(hJ.out.out.cell (p:=⟨pl.pg,4,none⟩) (World.block_lt_of_cell? w0 _ P4.out)).trans P4.out;have q5:w'.cell? ⟨pl.pg,5,none⟩=some (.int .i64 D.p.mask):=(hJ.out.out.cell (p:=⟨pl.pg,5,none⟩) (World.block_lt_of_cell? w0 _ P5.out)).trans P5.out;exact cH):A:=h
theorem ya9{A:Prop}(h:A:=by
 intro ux L w' hL hJ;have hs:=hJ;clear hJ hL;simp only[List.foldl_cons,List.foldl_nil];go_simp;go_wp2_with fail;go_ret;exact⟨by rw[HV.out];rfl,hs.out⟩):A:=h
theorem ycb{A:Prop}(h:A:=by
 refine dM ?_;intro K HK;refine(eI (H.out.JT.below hJ.out.out)).mono ?_;rintro e w'' ⟨rfl,hb⟩;exact HK.out _ _ ⟨ux,_,rfl,rfl,by simpa[JW]using hJ.out.below hb⟩):A:=h
theorem yem{A:Prop}(h:A:=by
 rintro e w'' ⟨rfl,hb⟩;exact HK.out _ _ ⟨ux,_,rfl,rfl,by rw[←hb];simpa[JW]using hJ.out⟩):A:=h
namespace dev
open JT (Nd JS Fr Kn Ko)
open tal (Ty Kb L1)
open tab (Tb JZ LS)
theorem xV(a b c:Int)(W:ed):(Instr.field 23 (.agg #[a,b,c]) 2).run hX W=.ok (.int .i64 c) W:=by kernel_rfl
section
variable {w0:ed}{pl:Pl}{m c:Nat}{D:Dv}
theorem dI(h:Kk w0 pl m c D):hO hX 143 #[pl.pg] w0 fun e w'=>e=.returned (.bool D.left)∧Below w0.heap.size w0 w':=by
 have H:=qZ h;have f:=xV;have P0:=qZ (show w0.cell? ⟨pl.pg,0,none⟩=some (.pointer (some ⟨pl.g,0,none⟩)) by rw[ae h.pen];rfl);have P3:=qZ (show w0.cell? ⟨pl.pg,3,none⟩=some (.int .i64 D.p.op) by rw[ae h.pen];rfl);have P4:=qZ (show w0.cell? ⟨pl.pg,4,none⟩=some (.int .i64 D.p.row) by rw[ae h.pen];rfl);have P5:=qZ (show w0.cell? ⟨pl.pg,5,none⟩=some (.int .i64 D.p.mask) by rw[ae h.pen];rfl);have hs:=Mr.start w0;clear h;by_cases ha:0≤D.p.op
 · by_cases hb:D.p.row<(D.N.P:Int)
   · have HV:=qZ (show D.left=decide (0<JV D.p.mask) by unfold Dv.left;rw[decide_eq_true ha,decide_eq_true hb];simp)
     go_enter tl, ntmps143;go_upto_region 1 with fail
     refine dz (X:=Unit) (fun _=> [(some 3,pl.pg),(some 4,pl.pg),(some 5,.pointer (some ⟨pl.pg,3,none⟩)),(some 6,D.p.op),(some 7,.bool true),(some 8,.bool true),(some 9,pl.pg),(some 10,pl.pg),(some 11,.pointer (some ⟨pl.pg,4,none⟩)),(some 12,D.p.row),(some 13,pl.pg),(some 14,pl.pg),(some 15,pl.pg),(some 16,pl.g),(some 17,.agg #[(D.N.D:Int),(D.N.B:Int),(D.N.P:Int)]),(some 18,(D.N.P:Int)),(some 19,.bool true),(some 20,.bool true),(some 21,.bool true),(some 22,pl.pg),(some 23,pl.pg),(some 24,.pointer (some ⟨pl.pg,5,none⟩)),(some 25,D.p.mask),(some 26,.int .i64 (JV D.p.mask)),(some 27,.bool (decide (0<JV D.p.mask))),(some 28,.bool (decide (0<JV D.p.mask))),(some 2,.bool (decide (0<JV D.p.mask)))])
      (fun _ L w'=>Mr w0 w' [] []) ⟨(),fun L hL=>hs.drew⟩ ?_ ?_
     · refine⟨rr,rr,rr,?_,rr,rr,rr,rr,rr,?_,rr,rr,rr,?_,?_,rr,rr,rr,rr,rr,rr,rr,?_,?_,rr,rr,rr,trivial⟩
       all_goals
        intro ux L w' hL hpre hJ a ha he;simp[jw]at hpre
       · exact Ge
       · exact Ge
       · exact Ge
       · exact ycb
       · exact Ge
       · refine dM ?_
         intro K HK;refine(bA D.p.mask w').mono ?_;exact yem
     · exact ya9
   · have HV:=qZ (show D.left=false by unfold Dv.left;rw[decide_eq_false hb];simp)
     go_enter tl, ntmps143;go_upto_region 1 with fail
     refine dz (X:=Unit) (fun _=> [(some 3,pl.pg),(some 4,pl.pg),(some 5,.pointer (some ⟨pl.pg,3,none⟩)),(some 6,D.p.op),(some 7,.bool true),(some 8,.bool true),(some 9,pl.pg),(some 10,pl.pg),(some 11,.pointer (some ⟨pl.pg,4,none⟩)),(some 12,D.p.row),(some 13,pl.pg),(some 14,pl.pg),(some 15,pl.pg),(some 16,pl.g),(some 17,.agg #[(D.N.D:Int),(D.N.B:Int),(D.N.P:Int)]),(some 18,(D.N.P:Int)),(some 19,.bool false),(some 20,.bool false),(some 21,.bool false),(some 22,gg),(some 23,gg),(some 24,gg),(some 25,gg),(some 26,gg),(some 27,gg),(some 28,.bool false),(some 2,.bool false)])
      (fun _ L w'=>Mr w0 w' [] []) ⟨(),fun L hL=>hs.drew⟩ ?_ ?_
     · refine⟨rr,rr,rr,?_,rr,rr,rr,rr,rr,?_,rr,rr,rr,?_,?_,rr,rr,rr,rr,?_,?_,?_,?_,?_,?_,rr,rr,trivial⟩
       all_goals
        intro ux L w' hL hpre hJ a ha he;simp[jw]at hpre
       · exact Ge
       · exact Ge
       · exact Ge
       · exact ycb
       · exact gn
       · exact gn
       · exact gn
       · exact gn
       · exact gn
       · exact gn
     · exact ya9
 · have HV:=qZ (show D.left=false by unfold Dv.left;rw[decide_eq_false ha];simp)
   go_enter tl, ntmps143;go_upto_region 1 with fail
   refine dz (X:=Unit) (fun _=> [(some 3,pl.pg),(some 4,pl.pg),(some 5,.pointer (some ⟨pl.pg,3,none⟩)),(some 6,D.p.op),(some 7,.bool false),(some 8,.bool false),(some 9,gg),(some 10,gg),(some 11,gg),(some 12,gg),(some 13,gg),(some 14,gg),(some 15,gg),(some 16,gg),(some 17,gg),(some 18,gg),(some 19,gg),(some 20,.bool false),(some 21,.bool false),(some 22,gg),(some 23,gg),(some 24,gg),(some 25,gg),(some 26,gg),(some 27,gg),(some 28,.bool false),(some 2,.bool false)])
    (fun _ L w'=>Mr w0 w' [] []) ⟨(),fun L hL=>hs.drew⟩ ?_ ?_
   · refine⟨rr,rr,rr,?_,rr,rr,?_,?_,?_,?_,?_,?_,?_,?_,?_,?_,?_,rr,rr,?_,?_,?_,?_,?_,?_,rr,rr,trivial⟩
     all_goals
      intro ux L w' hL hpre hJ a ha he;simp[jw]at hpre
     · exact Ge
     · exact gn
     · exact gn
     · exact gn
     · exact gn
     · exact gn
     · exact gn
     · exact gn
     · exact gn
     · exact gn
     · exact gn
     · exact gn
     · exact gn
     · exact gn
     · exact gn
     · exact gn
     · exact gn
     · exact gn
   · exact ya9
end
end dev
section
theorem Ms.LM{da dv:hG→Bool}{base:Nat}{A B:ed→Prop}{b w:ed}{L:List Bk}{S:List Sl}(c:Ms da dv base A B b w L S){k j:Nat}{cs:List ek}{t:hG}{v:ek}(e:(k,cs,t)∈L)(f:cs[j]? =some v):w.cell? ⟨k,j,none⟩=some v:=by
 rw[ae (c.own _ e).1,List.getElem?_toArray];exact f
structure ApJ (M:ed→List Bk→List Sl→Prop) (REST:List Bk) (S:List Sl) (e:hG) (C:Nat) (o:ek) (n:Nat) (xs row:List ek) (i0 ia ib ic:Nat) (z:Nat×ek×ek) (L:Nat→Bool) (w:ed):Prop where
 ms:∃L',M w (L'++REST) ((bif L ib then⟨e,C,z.2.1,n+1,xs++row⟩else⟨e,C,o,n,xs⟩)::S)∧(L ia=true→(z.1,row,e)∈L')
 a:L ib=true→L ia=true
 b:L ib=true→L i0=true
 c:L ic=true→L ib=true
 d:L ic=true→z.2.2=z.2.1
section
variable {M:ed→List Bk→List Sl→Prop}{REST:List Bk}{S:List Sl}{e:hG}{C:Nat}{o:ek}{n:Nat}{xs row:List ek}{i0 ia ib ic i:Nat}{z:Nat×ek×ek}{L:Nat→Bool}{w w':ed}
theorem bz{L:Nat→Bool}{i j:Nat}(h:L j=true):JW L i j=true:=by unfold JW;simp_all
theorem ApJ.start(h:M w REST (⟨e,C,o,n,xs⟩::S))(b:L ia=false)(c:L ib=false)(f:L ic=false):ApJ M REST S e C o n xs row i0 ia ib ic z L w:=
 ⟨⟨[],by simp_all,fun q=>(by simp_all)⟩,fun q=>(by simp_all),fun q=>(by simp_all),fun q=>(by simp_all),fun q=>(by simp_all)⟩
theorem ApJ.JW(h:ApJ M REST S e C o n xs row i0 ia ib ic z L w)(c:JW L i ia=L ia)(b:JW L i ib=L ib)(f:JW L i ic=L ic):ApJ M REST S e C o n xs row i0 ia ib ic z (JW L i) w:=by
 refine⟨?_,fun q=> ?_,fun q=> ?_,fun q=> ?_,fun q=> ?_⟩
 · rw[c,b];exact h.ms
 · rw[b]at q;rw[c];exact h.a q
 · rw[b]at q;exact bz (h.b q)
 · rw[f]at q;rw[b];exact h.c q
 · rw[f]at q;exact h.d q
theorem ApJ.below(h:ApJ M REST S e C o n xs row i0 ia ib ic z L w)(hM:∀L' S',M w L' S'→M w' L' S')(ha:Go.Proofs.YtlkpfnjdbgeifaaGreat.JW L i ia=L ia)(hb:Go.Proofs.YtlkpfnjdbgeifaaGreat.JW L i ib=L ib)(hc:Go.Proofs.YtlkpfnjdbgeifaaGreat.JW L i ic=L ic):ApJ M REST S e C o n xs row i0 ia ib ic z (Go.Proofs.YtlkpfnjdbgeifaaGreat.JW L i) w':=by
 obtain⟨L',hm,hn⟩:=h.ms;exact ApJ.JW ⟨⟨L',hM _ _ hm,hn⟩,h.a,h.b,h.c,h.d⟩ ha hb hc
theorem ApJ.no(h:ApJ M REST S e C o n xs row i0 ia ib ic z L w)(f:L ia=false):∃b,M w (b++REST) (⟨e,C,o,n,xs⟩::S)∧L ib=false∧L ic=false:=by
 obtain⟨b,g,-⟩:=h.ms
 have c:L ib=false:=by
  cases q:L ib with
  |false=>rfl
  |true=>exact absurd (h.a q) (by simp[f])
 refine⟨b,by simp_all,c,?_⟩;cases q:L ic with
 |false=>rfl
 |true=>exact absurd (h.c q) (by simp[c])
theorem ApJ.early(h:ApJ M REST S e C o n xs row i0 ia ib ic z L w)(b:L i0=false):L ic=false:=by
 cases q:L ic with
 |false=>rfl
 |true=>exact absurd (h.b (h.c q)) (by simp[b])
theorem ApJ.made{k:Nat}{v:ek×ek}{b:List Bk}(g:M w ((k,row,e)::(b++REST)) (⟨e,C,o,n,xs⟩::S))(c:L ib=false)(f:L ic=false)(h:ia≠ib)(j:ia≠ic):ApJ M REST S e C o n xs row i0 ia ib ic (k,v) (Go.Proofs.YtlkpfnjdbgeifaaGreat.JW L ia) w:=by
 have e1:Go.Proofs.YtlkpfnjdbgeifaaGreat.JW L ia ib=false:=by
  unfold Go.Proofs.YtlkpfnjdbgeifaaGreat.JW;rw[c,show(ib==ia)=false by grind];rfl
 have e2:Go.Proofs.YtlkpfnjdbgeifaaGreat.JW L ia ic=false:=by
  unfold Go.Proofs.YtlkpfnjdbgeifaaGreat.JW;rw[f,show(ic==ia)=false by grind];rfl
 exact⟨⟨(k,row,e)::b,by simp_all,fun _=>by simp⟩,fun q=>(by simp_all),fun q=>(by simp_all),fun q=>(by simp_all),fun q=>(by simp_all)⟩
theorem ApJ.at_(h:ApJ M REST S e C o n xs row i0 ia ib ic z L w)(g:L ia=true)(c:L ib=false):∃b,M w (b++REST) (⟨e,C,o,n,xs⟩::S)∧(z.1,row,e)∈b∧L ic=false:=by
 obtain⟨b,f,j⟩:=h.ms;rw[c]at f;refine⟨b,f,j g,?_⟩;cases q:L ic with
 |false=>rfl
 |true=>exact absurd (h.c q) (by simp[c])
theorem ApJ.full{v:ek}{b:List Bk}(j:M w (b++REST) (⟨e,C,v,n+1,xs++row⟩::S))(c:(z.1,row,e)∈b)(f:L ia=true)(g:L i0=true)(h:L ic=false)(k:ib≠ic):ApJ M REST S e C o n xs row i0 ia ib ic (z.1,v,z.2.2) (Go.Proofs.YtlkpfnjdbgeifaaGreat.JW L ib) w:=by
 have e1:Go.Proofs.YtlkpfnjdbgeifaaGreat.JW L ib ib=true:=by unfold Go.Proofs.YtlkpfnjdbgeifaaGreat.JW;simp
 have e2:Go.Proofs.YtlkpfnjdbgeifaaGreat.JW L ib ic=false:=by
  unfold Go.Proofs.YtlkpfnjdbgeifaaGreat.JW;rw[h,show(ic==ib)=false by grind];rfl
 exact⟨⟨b,by simp_all,fun _=>c⟩,fun _=>bz f,fun _=>bz g,fun q=>(by omega),fun q=>(by simp_all)⟩
theorem ApJ.put(h:ApJ M REST S e C o n xs row i0 ia ib ic z L w)(b:L ib=true)(c:ic≠ia)(f:ic≠ib):ApJ M REST S e C o n xs row i0 ia ib ic (z.1,z.2.1,z.2.1) (Go.Proofs.YtlkpfnjdbgeifaaGreat.JW L ic) w:=by
 have e1:Go.Proofs.YtlkpfnjdbgeifaaGreat.JW L ic ia=L ia:=by
  unfold Go.Proofs.YtlkpfnjdbgeifaaGreat.JW;rw[show(ia==ic)=false by grind];rfl
 have e2:Go.Proofs.YtlkpfnjdbgeifaaGreat.JW L ic ib=L ib:=by
  unfold Go.Proofs.YtlkpfnjdbgeifaaGreat.JW;rw[show(ib==ic)=false by grind];rfl
 refine⟨?_,fun q=> ?_,fun q=> ?_,fun _=>by simp_all,fun _=>rfl⟩
 · rw[e1,e2];exact h.ms
 · rw[e2]at q;rw[e1];exact h.a q
 · rw[e2]at q;exact bz (h.b q)
theorem ApJ.done(h:ApJ M REST S e C o n xs row i0 ia ib ic z L w)(c:L ib=true):∃b,M w (b++REST) (⟨e,C,z.2.1,n+1,xs++row⟩::S):=by
 obtain⟨b,f,-⟩:=h.ms;grind
theorem ApJ.any(h:ApJ M REST S e C o n xs row i0 ia ib ic z L w):∃b s,M w (b++REST) (s::S):=by
 obtain⟨b,c,-⟩:=h.ms;grind
end
end
theorem yaj{A:Prop}(h:A:=by
 have q1:w'.cell? ⟨pl.pg,1,none⟩=some (.pointer (some ⟨pl.tg,0,none⟩)):=(hJ.out.out.cell (p:=⟨pl.pg,1,none⟩) (World.block_lt_of_cell? w0 _ P1.out)).trans P1.out;have q2:w'.cell? ⟨pl.pg,2,none⟩=some (.pointer (some ⟨pl.lg,0,none⟩)):=(hJ.out.out.cell (p:=⟨pl.pg,2,none⟩) (World.block_lt_of_cell? w0 _ P2.out)).trans P2.out;have q3:w'.cell? ⟨pl.pg,3,none⟩=some (.int .i64 D.p.op):=(hJ.out.out.cell (p:=⟨pl.pg,3,none⟩) (World.block_lt_of_cell? w0 _ P3.out)).trans P3.out;exact cH):A:=h
namespace dev
open JT (Nd JS Fr Kn Ko)
open tal (Ty Kb L1)
open tab (Tb JZ LS)
theorem EK(g b c:Nat)(x:Int): hX.built 192 [(0,.pointer (some ⟨g,0,none⟩)),(1,.pointer (some ⟨b,0,none⟩)),(2,.pointer (some ⟨c,0,none⟩)),(3,.int .i64 (-1)),(6,.int .i64 x)]=some ([.pointer (some ⟨g,0,none⟩),.pointer (some ⟨b,0,none⟩),.pointer (some ⟨c,0,none⟩),.int .i64 (-1),.int .i64 0,.int .i64 0,.int .i64 x]:List ek).toArray:=by kernel_rfl
section
variable {w0:ed}{pl:Pl}{m c:Nat}{D:Dv}
theorem nP(w0:ed)(g b f:Nat)(x:Int)(k: -9223372036854775808≤x)(l:x≤9223372036854775807):hO hX 66 #[g,b,f,x] w0 fun e j=>
 e=.returned w0.heap.size∧j.heap[w0.heap.size]? =some (.cells ([.pointer (some ⟨g,0,none⟩),.pointer (some ⟨b,0,none⟩),.pointer (some ⟨f,0,none⟩),.int .i64 (-1),.int .i64 0,.int .i64 0,.int .i64 (max x 1)]:List ek).toArray 192 (0,0))∧Below w0.heap.size w0 j:=by
 have hs:=Mr.start w0;go_enter func66, ntmps66;go_wp2_with (first|(refine ac rfl 192 _ rfl _ rfl _ (EK g b f (max x 1)) ?_)|(refine ma ?_;try (clear hs;intro w hs)));go_ret;exact⟨rfl,hs.blk (i:=0) rfl,hs.out⟩
theorem pO(h:Kk w0 pl m c D):hO hX 89 #[pl.pg] w0 fun e w'=>e=.returned D.Ld∧Below w0.heap.size w0 w':=by
 have H:=qZ h;have f:=qZ (dI h);obtain⟨r,-,l⟩:=h.tab;have u:=qZ (show∀W,Below w0.heap.size w0 W→pick.View W pl.tg pl.tlb D.Y pl.lg pl.mb pl.cb r D.T from fun W n=>⟨h.tal.below n,l.below n⟩);clear l;have P1:=qZ (show w0.cell? ⟨pl.pg,1,none⟩=some (.pointer (some ⟨pl.tg,0,none⟩)) by rw[ae h.pen];rfl);have P2:=qZ (show w0.cell? ⟨pl.pg,2,none⟩=some (.pointer (some ⟨pl.lg,0,none⟩)) by rw[ae h.pen];rfl);have P3:=qZ (show w0.cell? ⟨pl.pg,3,none⟩=some (.int .i64 D.p.op) by rw[ae h.pen];rfl);have q:=qZ (show w0.cell? ⟨pl.pg,5,none⟩=some (.int .i64 D.p.mask) by rw[ae h.pen];rfl);have hs:=Mr.start w0;clear h;cases j:D.left with
 |true=>
  have k:=qZ (show D.Ld=JV D.p.mask by unfold Dv.Ld;rw[j];rfl);rw[j]at f;go_enter func89, ntmps89;go_wp2_with fail;refine f.out.mono ?_;rintro e w ⟨rfl,hb⟩;replace hs:=hs.below hb;clear hb;have E:=(hs.out.cell (p:=⟨pl.pg,5,none⟩) (World.block_lt_of_cell? w0 _ q.out)).trans q.out;go_wp2_with fail;refine(bA _ _).mono ?_;rintro e G ⟨rfl,rfl⟩;go_wp2_with fail;go_ret;exact⟨by rw[k.out];rfl,hs.out⟩
 |false=>
  have k:=qZ (show D.Ld=JV (D.Y.mask D.KO:Int) by unfold Dv.Ld;rw[j];rfl);rw[j]at f;go_enter func89, ntmps89;go_wp2_with fail;refine f.out.mono ?_;rintro e w ⟨rfl,hb⟩;replace hs:=hs.below hb;clear hb;go_upto_region 5 with fail
  refine dz (X:=Unit) (fun _=> [(some 12,pl.pg),(some 13,pl.pg),(some 14,.pointer (some ⟨pl.pg,1,none⟩)),(some 15,pl.tg),(some 16,pl.pg),(some 17,pl.pg),(some 18,.pointer (some ⟨pl.pg,1,none⟩)),(some 19,pl.tg),(some 20,pl.pg),(some 21,pl.pg),(some 22,.pointer (some ⟨pl.pg,2,none⟩)),(some 23,pl.lg),(some 24,pl.pg),(some 25,pl.pg),(some 26,.pointer (some ⟨pl.pg,3,none⟩)),(some 27,D.p.op),(some 28,D.KO),(some 29,.int .i64 (D.Y.mask D.KO:Int)),(some 30,.int .i64 (JV (D.Y.mask D.KO:Int))),(some 2,.int .i64 (JV (D.Y.mask D.KO:Int)))])
   (fun _ L w'=>Mr w0 w' [] []) ⟨(),fun L hL=>hs.drew⟩ ?_ ?_
  · refine⟨rr,rr,rr,?_,rr,rr,rr,?_,rr,rr,rr,?_,rr,rr,rr,?_,?_,?_,?_,rr,trivial⟩
    all_goals
     intro ux L w' hL hpre hJ a ha he;simp[jw]at hpre
    · exact yaj
    · exact yaj
    · exact yaj
    · exact yaj
    · refine dM ?_
      intro K HK;refine(pick.Jh (u.out w' hJ.out.out) D.p.op).mono ?_;rintro e w'' ⟨rfl,hb⟩;exact HK.out _ _ ⟨ux,_,rfl,rfl,by simpa[JW]using hJ.out.below hb⟩
    · refine dM ?_
      intro K HK;refine(tal.Cg (H.out.tal.below hJ.out.out) D.KO).mono ?_;rintro e w'' ⟨rfl,hb⟩;exact HK.out _ _ ⟨ux,_,rfl,rfl,by obtain⟨z,rfl⟩:=hb;simpa[JW]using hJ.out.drewN z⟩
    · refine dM ?_
      intro K HK;refine(bA _ w').mono ?_;exact yem
  · intro ux L w' hL hJ
    have hs:=hJ;clear hJ hL;simp only[List.foldl_cons,List.foldl_nil];go_simp;go_wp2_with fail;go_ret;exact⟨by rw[k.out];rfl,hs.out⟩
end
end dev
theorem ydr{A:Prop}(h:A:=by
 rcases hk with rfl|rfl|rfl
 · exact hf.block _ hlt.1 (.inr ⟨_,_,_,hT.head,rfl⟩)
 · exact hf.maps _ hlt.2.1 hm.1 a1
 · exact hf.maps _ hlt.2.2 hm.2 a2):A:=h
namespace dev
open JT (Nd JS Fr Kn Ko)
open tal (Ty Kb L1)
open tab (Tb JZ LS)
theorem xH{w:ed}{b n:Nat}{D:DataW ek}(h:w.ownsMap hX 3 Ks b n D):∃o,w.heap[b]? =some o∧Kn o=none:=by
 obtain⟨e,clock,c,-⟩:=h;exact⟨_,c,rfl⟩
section
variable {w w' w0:ed}{pl:Pl}{m c:Nat}{D E:Dv}{B:ed→Prop}{Lb:List Bk}{S:List Sl}
theorem jC{k:Nat}{e:Array ek}{t:hG}{fr:Nat×Nat}(h:w.heap[k]? =some (.cells e t fr)){o:Obj}(b:w.heap[k]? =some o):Kn o=some t:=by
 rw[h]at b;cases b;rfl
theorem dE{g b e n:Nat}{T:Tb}(h:JZ w g b e n T):(∃o,w.heap[b]? =some o∧Kn o=none)∧∃o,w.heap[e]? =some o∧Kn o=none:=by
 obtain⟨D1,f,-⟩:=h.at_;obtain⟨D2,_,i,-⟩:=h.cnt;exact⟨xH f,xH i⟩
theorem apart{e f g i j n:Nat}{T:Tb}{Y:Ty}(h:JZ w g i j n T)(l:Kb w e f Y)(k:Nat)(p:LS g i j k)(q:L1 e f k):False:=by
 obtain⟨⟨r,m1,m2⟩,t,m3,m4⟩:=dE h;have e1:∀o,w.heap[e]? =some o→Kn o=some 188 :=fun o b=>jC l.head b
 have e2:∀o,w.heap[f]? =some o→Kn o=some 196 :=fun o b=>jC l.rows b
 have e3:∀o,w.heap[g]? =some o→Kn o=some 154 :=fun o b=>jC h.head b
 rcases p with rfl|rfl|rfl<;>rcases q with rfl|rfl
 · have:=(e1 _ h.head).symm.trans (e3 _ h.head);simp_all
 · have:=(e2 _ h.head).symm.trans (e3 _ h.head);simp_all
 · simp_all
 · simp_all
 · simp_all
 simp_all
theorem MG.tal'(h:MG w pl m c D){Y:Ty}(f:Kb w' pl.tg pl.tlb Y)(b:Kj (L1 pl.tg pl.tlb) w w'):MG w' pl m c {D with Y:=Y}:=by
 obtain⟨n,g,e⟩:=h.tab;refine⟨h.JT.keep b fun k i=> .inl ?_,f,n,g,e.keep b fun k j l=>apart e h.tal k j l⟩;rcases i with rfl|rfl
 · exact⟨_,_,_,h.tal.head,rfl⟩
 · exact⟨_,_,_,h.tal.rows,rfl⟩
theorem MG.tab'(h:MG w pl m c D)(j:pl.g<pl.mb∧pl.g<pl.cb){T:Tb}{n:Nat}(f:n≤c+3*D.N.ops)(g:JZ w' pl.lg pl.mb pl.cb n T)(e:Kj (LS pl.lg pl.mb pl.cb) w w'):MG w' pl m c {D with T:=T}:=by
 obtain⟨l,o,b⟩:=h.tab;obtain⟨a1,a2⟩:=dE b;refine⟨h.JT.keep e fun k i=> ?_,h.tal.keep e (fun q=>apart b h.tal _ q (.inl rfl)) (fun q=>apart b h.tal _ q (.inr rfl)),n,f,g⟩;rcases i with rfl|rfl|rfl
 · exact .inl ⟨_,_,_,b.head,rfl⟩
 · simp_all
 simp_all
theorem MG.Rw(h:MG w pl m c D)(hm:pl.g<pl.mb∧pl.g<pl.cb){N:Nd}(g:D.N.ops≤N.ops)(e:JS w' pl.base pl.g m N)(hf:Fr pl.base pl.g w w'):MG w' pl m c {D with N:=N}:=by
 obtain⟨f,i,hT⟩:=h.tab;obtain⟨a1,a2⟩:=dE hT;have hlt:=hT.lt;have b:=h.tal.lt;refine⟨e,⟨h.tal.ok,(hf.block _ b.1 (.inr ⟨_,_,_,h.tal.head,rfl⟩)).trans h.tal.head,(hf.block _ b.2 (.inr ⟨_,_,_,h.tal.rows,rfl⟩)).trans h.tal.rows⟩,f,by grind,hT.same fun k hk=> ?_⟩
 · exact ydr
theorem MG.Qz(pl:Pl)(m c:Nat)(D:Dv):∀b e,Chg OZ b e→MG b pl m c D→MG e pl m c D:=fun _ _ f a=>a.chg f
theorem xg{e f base:Nat}{Y:Ty}(h:Kb w e f Y)(g:base≤e)(i:base≤f)(b:Kj (L1 e f) w w'):Dvc OZ base w w':=by
 refine⟨b.os,b.tape,b.output,b.size,fun k j l=>b.block k j fun n=>l ?_⟩;rcases n with rfl|rfl
 · exact⟨g,eS h.head rfl⟩
 · exact⟨i,eS h.rows rfl⟩
theorem xh{g e f n base:Nat}{T:Tb}(h:JZ w g e f n T)(i:base≤g∧base≤e∧base≤f)(b:Kj (LS g e f) w w'):Dvc OZ base w w':=by
 obtain⟨⟨r,m1,m2⟩,u,m3,m4⟩:=dE h;refine⟨b.os,b.tape,b.output,b.size,fun k j l=>b.block k j fun o=>l ?_⟩;rcases o with rfl|rfl|rfl
 · exact⟨i.1,eS h.head rfl⟩
 · exact⟨i.2.1,fun⟨p,t,fr,q,_⟩=>by rw[m1]at q;cases q;cases m2⟩
 · exact⟨i.2.2,fun⟨p,t,fr,q,_⟩=>by rw[m3]at q;cases q;cases m4⟩
theorem BY{base g:Nat}(e:Fr base g w w'):Dvc OZ base w w':=by
 have h:=Fr.dvc e;refine⟨h.os,h.tape,h.output,h.size,fun k f i=>h.block k f fun b=>i ⟨b.1,fun j=>b.2 (ku (fun t=>tD) j)⟩⟩
structure Lay (pl:Pl):Prop where
 low:pl.base≤pl.tg∧pl.base≤pl.tlb∧pl.base≤pl.lg∧pl.base≤pl.mb∧pl.base≤pl.cb∧pl.base≤pl.pg
 maps:pl.g<pl.mb∧pl.g<pl.cb
theorem Kk.lay(h:Kk w pl m c D):Lay pl:=⟨h.low,h.maps⟩
theorem Mp.tal(b:Mp pl m c D B w0 w Lb S)(e:Lay pl){Y:Ty}(g:Kb w' pl.tg pl.tlb Y)(f:Kj (L1 pl.tg pl.tlb) w w'):Mp pl m c {D with Y:=Y} B w0 w' Lb S:=
 b.dev (A':=fun w=>MG w pl m c {D with Y:=Y}) (xg b.a.tal e.low.1 e.low.2.1 f) (b.a.tal' g f) (MG.Qz pl m c _)
theorem Mp.tab(e:Mp pl m c D B w0 w Lb S)(b:Lay pl){T:Tb}{n:Nat}(g:n≤c+3*D.N.ops)(h:JZ w' pl.lg pl.mb pl.cb n T)(f:Kj (LS pl.lg pl.mb pl.cb) w w'):Mp pl m c {D with T:=T} B w0 w' Lb S:=by
 obtain⟨j,-,i⟩:=e.a.tab;exact e.dev (A':=fun w=>MG w pl m c {D with T:=T}) (xh i ⟨b.low.2.2.1,b.low.2.2.2.1,b.low.2.2.2.2.1⟩ f) (e.a.tab' b.maps g h f) (MG.Qz pl m c _)
theorem Mp.JT(b:Mp pl m c D B w0 w Lb S)(f:Lay pl){N:Nd}(g:D.N.ops≤N.ops)(h:JS w' pl.base pl.g m N)(e:Fr pl.base pl.g w w'):Mp pl m c {D with N:=N} B w0 w' Lb S:=
 b.dev (A':=fun w=>MG w pl m c {D with N:=N}) (BY e) (b.a.Rw f.maps g h e) (MG.Qz pl m c _)
theorem Mp.out(hs:Mp pl m c D B w0 w ((pl.pg,E.p.v pl, 192)::Lb) S)(hl:Lay pl)(hN:E.N=D.N)(hY:E.Y=D.Y)(hT:E.T=D.T)(hsame:D.Y.D=D.N.D∧D.Y.B=D.N.B∧D.Y.P=D.N.P)(hw:Wo D.N):Kk w pl m c E∧DFr pl.base w0 w:=by
 refine⟨⟨by rw[hN];exact hs.a.JT,by rw[hY];exact hs.a.tal,?_,hs.blk (i:=0) rfl,hl.low,hl.maps,by simp_all,by rw[hN];exact hw⟩,DFr.Nl hs.fr⟩;obtain⟨n,h1,h2⟩:=hs.a.tab;grind
end
end dev
theorem ya3{A:Prop}(h:A:=by
 rintro e w3 ⟨rfl,ht,hk'⟩;replace hs:=Mp.tal hs HL ht hk';clear ht hk';go_wp2_with (refine ma ?_;try (clear hs;intro w hs));refine(gz mk (k:Int) _).mono ?_;rintro e w3 ⟨rfl,rfl⟩;go_wp2_with (refine ma ?_;try (clear hs;intro w hs));go_roundw
 case rel=>exact⟨k+1,by omega,by go_num,by rw[HY.out,HM.out,HD.out];exact hs⟩
 case measure=>first|(simp[intOf];done)|(simp[intOf];omega)):A:=h
namespace dev
open JT (Nd JS Fr Kn Ko)
open tal (Ty Kb L1)
open tab (Tb JZ LS)
open pick (cO)
theorem mq(N:Nd)(b dies:Int)(k:Nat)(Y:Ty):M6 N b dies (k+1) Y=if hasB dies k then(if N.dies k then(M6 N b dies k Y).Mu k else(M6 N b dies k Y).Ov k b)else M6 N b dies k Y:=by
 unfold M6;rw[iP,kr];rfl
theorem gN(dies:Int)(k:Nat)(m:Int):Mh dies (k+1) m=if hasB dies k then KW (Mh dies k m) k else Mh dies k m:=by
 unfold Mh;rw[iP,kr];rfl
section
variable {w0:ed}{pl:Pl}{m c:Nat}{D:Dv}
theorem yS(h:Kk w0 pl m c D):hO hX 148 #[.pointer (some ⟨pl.pg,0,none⟩)] w0 fun e j=>e=.returned (.int .i64 D.opens.2)∧Kk j pl m c D.opens.1∧DFr pl.base w0 j:=by
 have f:=qZ h.lay;have b:=qZ h.same;have k:=qZ h.KP;have hs:=Mp.start (B:=fun _=>True) h trivial (fun _ _ _ _=>trivial);clear h;go_enter func148, ntmps148;go_upto_region 1 with fail
 refine bm 12 (by kernel_rfl) (by kernel_rfl) ?_;intro J l;replace hs:=hs.drew;rw[←l]at hs;clear l;simp only[kd,l8,kk,nr];repeat (first|(refine aq 0 hs rfl 25 (by first|rfl|(simp[fj];done)|(go_simp;done)) rfl rfl px rfl rfl ?_)|(refine aq 0 hs rfl 83 (by first|rfl|(simp[fj];done)|(go_simp;done)) rfl rfl py rfl rfl ?_)|(refine aq 0 hs rfl 84 (by first|rfl|(simp[fj];done)|(go_simp;done)) rfl rfl pz rfl rfl ?_)|(refine aq 0 hs rfl 3 (by first|rfl|(simp[fj];done)|(go_simp;done)) rfl rfl l4 rfl rfl ?_)|(refine wpStill_step (fun K hK=> ?_);go_simp;refine hK _ ?_;clear hK K))
 refine sT ?_;obtain⟨I,-,n⟩:=hs.a.tab;go_wp2_with fail;refine(pick.Jh (⟨hs.a.tal,n⟩:pick.View _ pl.tg pl.tlb D.Y pl.lg pl.mb pl.cb I D.T) D.p.op).mono ?_;rintro e w ⟨rfl,o⟩;replace hs:=hs.below o;clear o n;have q:pick.Ly (pick.LO D.Y) (pick.LJ D.Y D.T D.p.op)=D.KO:=rfl;rw[q];clear q;by_cases r:D.KO<0
 · have g:=qZ (show D.opens=(D,11) by unfold Dv.opens;rw[if_pos r])
   go_wp2_with fail;go_ret;rw[g.out];exact⟨rfl,Mp.out (E:=D) hs f rfl rfl rfl b k⟩
 · have g:=qZ (show D.opens=({D with Y:=D.Y.clean D.KO false,p:={D.p with op:=D.KO,row:=0,mask:=((D.Y.clean D.KO false).mask D.KO:Int)}},0) by unfold Dv.opens;rw[if_neg r])
   go_wp2_with (refine ma ?_;try (clear hs;intro w hs));refine(tal.I2 hs.a.tal D.KO false).mono ?_;rintro e L ⟨rfl,t,z⟩;replace hs:=Mp.tal hs f t z;clear t z;go_wp2_with (refine ma ?_;try (clear hs;intro w hs));refine(tal.Cg hs.a.tal D.KO).mono ?_;rintro e M ⟨rfl,H,rfl⟩;replace hs:=hs.drewN H;generalize World.drewN _ H=w at hs⊢;go_wp2_with (refine ma ?_;try (clear hs;intro w hs));go_ret;rw[g.out];refine⟨rfl,Mp.out (E:={D with Y:=D.Y.clean D.KO false,p:={D.p with op:=D.KO,row:=0,mask:=((D.Y.clean D.KO false).mask D.KO:Int)}}) hs f rfl rfl rfl ?_ k⟩;have i:=cD D.Y D.KO (fun s=>{s with used:= !false});exact⟨i.1.trans b.1,i.2.1.trans b.2.1,i.2.2.trans b.2.2⟩
theorem zi(h:Kk w0 pl m c D)(dies:Int):hO hX 151 #[.pointer (some ⟨pl.pg,0,none⟩),.int .i64 dies] w0 fun e g=>e=.returned (.tuple #[])∧Kk g pl m c (D.OQ dies)∧DFr pl.base w0 g:=by
 have HL:=qZ h.lay;have f:=qZ h.same;have q:=qZ h.KP;have r:=qZ h.JT.ok.geo;have H:=qZ h.JT.ok.dead;have I:=cO;have hs:=Mp.start (B:=fun _=>True) h trivial (fun _ _ _ _=>trivial);clear h;go_enter func151, ntmps151;go_wp2_with (refine ma ?_;try (clear hs;intro w hs));refine(eI hs.a.JT).mono ?_;rintro e w ⟨rfl,j⟩;replace hs:=hs.below j;clear j;go_wp2_with fail;go_loopw [11] (fun i wr=>∃k:Nat,k≤D.N.D∧i=.int .i64 (k:Int)∧Mp pl m c {D with Y:=M6 D.N D.p.op dies k D.Y} (fun _=>True) w0 wr [(pl.pg,({D.p with mask:=Mh dies k D.p.mask}:Pn).v pl, 192)] []) (fun i _=>D.N.D-(intOf i).toNat)
 case atStart=>exact⟨0,by omega,rfl,hs⟩
 case round=>
  clear hs;obtain⟨k,J,rfl,hs⟩:=hrel;have L:=r.out;by_cases t:k<D.N.D
  · have M:(k:Int)<(D.N.D:Int):=by omega
    have HY:=qZ (mq D.N D.p.op dies k D.Y);have HM:=qZ (gN dies k D.p.mask);obtain⟨N,l⟩:∃Y,Y=M6 D.N D.p.op dies k D.Y:=⟨_,rfl⟩;obtain⟨mk,n⟩:∃x,x=Mh dies k D.p.mask:=⟨_,rfl⟩;rw[←l]at hs HY;rw[←n]at hs HM;clear l n;go_wp2_with fail;refine(dC dies k _).mono ?_;rintro e z ⟨rfl,rfl⟩;cases o:hasB dies k with
    |false=>
     rw[o]at HY HM;go_wp2_with fail;go_roundw
     case rel=>exact⟨k+1,by omega,by go_num,by rw[HY.out,HM.out];exact hs⟩
     case measure=>first|(simp[intOf];done)|(simp[intOf];omega)
    |true=>
     rw[o]at HY HM;go_wp2_with (refine ma ?_;try (clear hs;intro w hs));refine(nc hs.a.JT k t).mono ?_;rintro e z ⟨rfl,rfl⟩;cases b:D.N.dead.getD k false with
     |true=>
      have HD:=qZ (show D.N.dies (k:Int)=true by unfold Nd.dies;rw[Int.toNat_natCast,b];simp);go_wp2_with (refine ma ?_;try (clear hs;intro w hs));refine(tal.u0 hs.a.tal (k:Int)).mono ?_;exact ya3
     |false=>
      have HD:=qZ (show D.N.dies (k:Int)=false by unfold Nd.dies;rw[Int.toNat_natCast,b];simp);go_upto_region 6 with fail
      refine bm 9 (by kernel_rfl) (by kernel_rfl) ?_;intro O p;replace hs:=hs.drew;rw[←p]at hs;clear p;simp only[kd,l8,kk,nr];repeat (first|(refine aq 0 hs rfl 25 (by first|rfl|(simp[fj];done)|(go_simp;done)) rfl rfl px rfl rfl ?_)|(refine aq 0 hs rfl 83 (by first|rfl|(simp[fj];done)|(go_simp;done)) rfl rfl py rfl rfl ?_)|(refine aq 0 hs rfl 84 (by first|rfl|(simp[fj];done)|(go_simp;done)) rfl rfl pz rfl rfl ?_)|(refine aq 0 hs rfl 3 (by first|rfl|(simp[fj];done)|(go_simp;done)) rfl rfl l4 rfl rfl ?_)|(refine wpStill_step (fun K hK=> ?_);go_simp;refine hK _ ?_;clear hK K))
      refine sT ?_;go_wp2_with fail;refine(tal.PU hs.a.tal (k:Int) D.p.op).mono ?_;exact ya3
  · obtain rfl:k=D.N.D:=by omega
    go_wp2_with fail;go_end0
    refine⟨rfl,Mp.out (E:=D.OQ dies) hs HL rfl rfl rfl ?_ q⟩;have b:=(gV D dies).y;exact⟨b.1.trans f.1,b.2.1.trans f.2.1,b.2.2.trans f.2.2⟩
end
open JT (Nd JS Fr Kn Ko)
theorem yX(l:List En)(next:Int)(k:Nat):LL l next (k+1)=LL l next k++[match l[k]? with|some e=>{e with s:=next+(k:Int)}|none=>pad]:=by
 unfold LL;rw[iP,kb];rfl
theorem xC{l:List En}(h:∀e∈l,e.ok)(next:Int)(k:Nat):∀e∈LL l next k,e.ok:=by
 intro e f;obtain⟨i,b⟩:=List.mem_iff_getElem?.1 f;rw[tx]at b;split at b
 · have b:=Option.some.inj b
   cases c:l[i]? with
   |none=>rw[c]at b;subst b;exact GI
   |some e1=>rw[c]at b;subst b;exact h e1 (eD c)
 · cases b
theorem AZ:(hX.info? 2).map (·.size)=some 1:=by kernel_rfl
theorem EM: hX.built 90 [(2,.int .i64 3)]=some (En.v pad).toArray:=by kernel_rfl
theorem kC{l:List En}(h:∀e∈l,e.ok):∀r∈ens l,r.length=19:=by
 intro r b;obtain⟨e,c,rfl⟩:=qa.1 b;exact ax (h e c).1 _ _ _
section
variable {w0:ed}{pl:Pl}{m c:Nat}{D:Dv}
theorem re(h:Kk w0 pl m c D)(l:List En)(q:∀e∈l,e.ok){A:Option r4}{n cc:Nat}(t:RdT Kx w0 w0.heap.size A 19 n (ens l))(hn:n≤100000)(K:Nat)(hK:K≤8)(h0:0≤D.p.next)(h1:D.p.next≤1000000000000000):
 hO hX 149 #[.pointer (some ⟨pl.pg,0,none⟩),.slice A n cc,.int .i64 (K:Int)] w0 fun e z=>∃v,e=.returned v∧z.ownsRow w0.heap.size 90 19 v K (ens (LL l D.p.next K)).flatten∧Kk z pl m c {D with p:={D.p with next:=D.p.next+(min l.length K:Nat)}}∧DFr pl.base w0 z:=by
 have I:l.length=n:=by have:=t.1.1;rwa [ens,List.length_map]at this
 have f:=qZ I;have T:=qZ q;have ai:=qZ (xC q D.p.next);have U:=qZ h.lay;have V:=qZ h.same;have W:=qZ h.KP;have hs:=Mp.start (B:=fun w=>RdT Kx w w0.heap.size A 19 n (ens l)) h t (fun _ _ J b=>b.old J);clear h q t I;go_enter func149, ntmps149;go_wp2_with fail;replace hs:=hs.empty 90 19 rfl;have L:LL l D.p.next 0=[]:=rfl;have M:D.p.next+((min l.length 0:Nat):Int)=D.p.next:=by simp
 go_loopw [7,11] (fun X i wr=>∃(k:Nat) (o:ek),k≤K∧i=.int .i64 (k:Int)∧o=X∧Mp pl m c D (fun w=>RdT Kx w w0.heap.size A 19 n (ens l)) w0 wr [(pl.pg,({D.p with next:=D.p.next+(min l.length k:Nat)}:Pn).v pl, 192)] [⟨90,19,o,k,(ens (LL l D.p.next k)).flatten⟩]) (fun _ i _=>K-(intOf i).toNat)
 case atStart=>exact⟨0,_,by omega,rfl,rfl,by rw[M,L];exact hs⟩
 case round=>
  clear hs L M;obtain⟨k,o,J,rfl,rfl,hs⟩:=hrel;by_cases aj:k<K
  · have ak:(k:Int)<(K:Int):=by omega
    have N:=qZ (yX l D.p.next k);by_cases O:k<n
    · have Y:¬(n:Int)≤(k:Int):=by omega
      obtain⟨x,j⟩:∃x,l[k]? =some x:=⟨_,ej (by rw[f.out];exact O)⟩;have P:=qZ (T.out x (eD j));have Q:=qZ (show x.v.length=19 from ax P.out.1 _ _ _);obtain⟨Z,o1,aa,-,ab⟩:=aH hs.b.1 O (r:=x.v) (by simp[ens,j]);subst aa;have R:min l.length k=k:=by rw[f.out];omega
      have S:min l.length (k+1)=k+1:=by rw[f.out];omega
      rw[R]at hs;have ad:=qZ S;have H:=qZ (show LL l D.p.next (k+1)=LL l D.p.next k++[{x with s:=D.p.next+(k:Int)}] by rw[N.out,j]);have ae:=qZ (show(({x with s:=D.p.next+(k:Int)}:En).v).length=19 from ax P.out.1 _ _ _);have af:=qZ (show x.v.set 1 (.int .i64 (D.p.next+(k:Int)))=({x with s:=D.p.next+(k:Int)}:En).v from rfl);clear j R S;go_wp2_with (first|(refine jd rfl 90 (.tmp 24) rfl Z _ rfl x.v _ ab jg rfl (by rw[Q.out];exact aV) ?_)|(refine ma ?_;try (clear hs;intro w hs))|(refine lI (v:=.int .i64 (D.p.next+(k:Int))) hs 2 rfl rfl rfl rfl AZ (by rw[Q.out];decide) rfl ?_;rw[af.out];clear hs;intro w hs)|(at_builtin;(refine bT hs 116 rfl rfl pn nC rfl (by decide) ae.out rfl rfl (aO _ _ _ _) (by unfold qc;omega) (by omega) ?_;clear hs;intro v w hs)));go_roundw
      case rel=>
       refine⟨k+1,_,by omega,by go_num,rfl,?_⟩;have g:(ens (LL l D.p.next k++[({x with s:=D.p.next+(k:Int)}:En)])).flatten=(ens (LL l D.p.next k)).flatten++({x with s:=D.p.next+(k:Int)}:En).v:=by simp[ens]
       rw[H.out,g,ad.out];have ag:=hs.drop 1;have q3:D.p.next+((k+1:Nat):Int)=D.p.next+(k:Int)+1:=by omega
       rw[q3];exact ag
      case measure=>first|(simp[intOf];done)|(simp[intOf];omega)
    · have Y:(n:Int)≤(k:Int):=by omega
      have H:=qZ (show LL l D.p.next (k+1)=LL l D.p.next k++[pad] by rw[N.out,List.getElem?_eq_none (by rw[f.out];omega)]);have ah:=qZ (show min l.length (k+1)=min l.length k by rw[f.out];omega);go_wp2_with (first|(refine ac rfl 90 _ rfl _ rfl _ EM ?_)|(refine ma ?_;try (clear hs;intro w hs))|(at_builtin;(refine bT hs 116 rfl rfl pn nC rfl (by decide) rfl rfl rfl (aO _ _ _ _) (by unfold qc;omega) (by omega) ?_;clear hs;intro v w hs)));go_roundw
      case rel=>
       refine⟨k+1,_,by omega,by go_num,rfl,?_⟩;have g:(ens (LL l D.p.next k++[pad])).flatten=(ens (LL l D.p.next k)).flatten++pad.v:=by simp[ens]
       rw[H.out,g,ah.out];exact hs
      case measure=>first|(simp[intOf];done)|(simp[intOf];omega)
  · obtain rfl:k=K:=by omega
    go_wp2_with fail;go_ret;obtain⟨q1,g⟩:=Mp.out (E:={D with p:={D.p with next:=D.p.next+(min l.length k:Nat)}}) hs U.out rfl rfl rfl V.out W.out;exact⟨_,rfl,hs.sl (i:=0) rfl,q1,g⟩
end
open JT (Nd JS)
theorem sS(N:Nd)(a:Ad):N.K9 a=0∨N.K9 a=5∨N.K9 a=6∨N.K9 a=8∨N.K9 a=9∨N.K9 a=3:=by
 unfold Nd.K9 Nd.Kg;cases N.off<;>cases N.inG a<;>cases N.dead.getD a.d.toNat false<;>simp
 cases(N.at a).cells[a.p.toNat]? with
 |none=>simp
 |some c=>
  obtain⟨p,l,q⟩:=c;cases l<;>simp
theorem bC{N:Nd}(h:N.ok)(a:Ad):(N.KC a).length=32∧∀y∈N.KC a,y<256:=by
 have z:(o4 32 0).length=32∧∀y∈o4 32 0,y<256:=⟨rfl,by simp⟩;unfold Nd.KC;split
 · exact z
 · split
   · exact z
   · rename_i c b
     split
     · exact z
     · exact h.MV _ _ c (eD b)
section
variable {w0:ed}{base g m:Nat}{N:Nd}
theorem gO(h:JS w0 base g m N)(a:Ad)(i:a.wf){q k:Int}(j:N.K9 a=q)(l:(q=5∧k=2)∨(q=6∧k=3)∨(q=8∧k=4)∨(q=9∧k=4)∨(q=3∧k=4)):hO hX 141 #[g,.agg a.v.toArray] w0 fun e n=>e=.returned (.tuple #[.agg zeroV.toArray,k])∧Below w0.heap.size w0 n:=by
 have o:=qZ (show(An .u8 (N.KC a)).length=32 by rw[ah];exact(bC h.ok a).1);have p:=qZ (bC h.ok a);have f:=qZ (fun W (b:Below w0.heap.size w0 W)=>JT.fS (h.below b) a i);rw[j]at f;have hs:=Mr.start w0;clear h i j;generalize N.KC a=P at*;go_enter r2, ntmps141;go_wp2_with (refine ma ?_;try (clear hs;intro w hs));refine(f.out w hs.out).mono ?_;clear f;rintro e w ⟨rfl,b⟩;replace hs:=hs.below b;clear b;rcases l with⟨rfl,rfl⟩|⟨rfl,rfl⟩|⟨rfl,rfl⟩|⟨rfl,rfl⟩|⟨rfl,rfl⟩
 all_goals
  go_wp2_with (first|(refine ma ?_;try (clear hs;intro w hs))|(refine ac rfl 62 _ rfl _ rfl _ cR ?_));refine fo (v:=.tuple #[.agg zeroV.toArray,_]) ?_ rfl ⟨rfl,hs.out⟩;rw[hs.Nn 1 rfl rfl _ rfl eX rfl bg rfl];rfl
theorem zm(h:JS w0 base g m N)(a:Ad)(j:a.wf)(k:N.K9 a=0)(f:NV (N.KC a)=false):hO hX 141 #[g,.agg a.v.toArray] w0 fun e o=>e=.returned (.tuple #[.agg zeroV.toArray,.int .i64 3])∧Below w0.heap.size w0 o:=by
 have l:=qZ (show Oo (N.KC a)=zeroV∧Kh (N.KC a)=1 from⟨by unfold Oo;rw[f];rfl,by unfold Kh;rw[f];rfl⟩);clear f;have q:=qZ (show(An .u8 (N.KC a)).length=32 by rw[ah];exact(bC h.ok a).1);have n:=qZ (bC h.ok a);have i:=qZ (fun W (b:Below w0.heap.size w0 W)=>JT.fS (h.below b) a j);rw[k]at i;have hs:=Mr.start w0;clear h j k;generalize N.KC a=P at*;go_enter r2, ntmps141;go_wp2_with (refine ma ?_;try (clear hs;intro w hs));refine(i.out w hs.out).mono ?_;clear i;rintro e w ⟨rfl,b⟩;replace hs:=hs.below b;clear b;go_wp2_with (refine ma ?_;try (clear hs;intro w hs));refine(fH P w n.out.1 n.out.2).mono ?_;rw[l.out.1,l.out.2];rintro e w ⟨rfl,b⟩;replace hs:=hs.below b;clear b;go_wp2_with (refine ma ?_;try (clear hs;intro w hs));have t4:=hs.cell 0 20 rfl (v:=.int .i64 0) rfl;have t5:=hs.cell 0 21 rfl (v:=.int .i64 0) rfl;have t6:=hs.cell 0 22 rfl (v:=.int .i64 0) rfl;have p:=hs.cell 3 0 rfl (v:=.int .i64 a.d) rfl;go_quiet ((go_at_call 137;exact Calls.quiet_of (bH _ _ _ _)))
 replace hs:=hs.drewN nq;clear t4 t5 t6 p;generalize w.drewN nq=w at*;go_wp2_with (first|(refine ac rfl 62 _ rfl _ rfl _ rV ?_)|(refine ma ?_;try (clear hs;intro w hs)));refine fo (v:=.tuple #[.agg zeroV.toArray,_]) ?_ rfl ⟨rfl,hs.out⟩;rw[hs.Nn 2 rfl rfl _ rfl eX rfl bg rfl];rfl
theorem zn(h:JS w0 base g m N)(a:Ad)(n:a.wf)(o:N.K9 a=0)(p:NV (N.KC a)=true)(x:Sh)(j:Nf (N.KC a)=x)(i:fits x a=true):hO hX 141 #[g,.agg a.v.toArray] w0 fun e z=>e=.returned (.tuple #[.agg x.v.toArray,.int .i64 1])∧Below w0.heap.size w0 z:=by
 have k:x.ok:=j▸rx (bC h.ok a).1 (bC h.ok a).2;have q:=qZ (show Oo (N.KC a)=x.v∧Kh (N.KC a)=0 from⟨by rw[←CG,j],by unfold Kh;rw[p];rfl⟩);have b:=qZ k;have B:=qZ (bi k);have D:=qZ i;clear p j k i;have E:=qZ (show(An .u8 (N.KC a)).length=32 by rw[ah];exact(bC h.ok a).1);have r:=qZ (bC h.ok a);have l:=qZ (fun W (f:Below w0.heap.size w0 W)=>JT.fS (h.below f) a n);rw[o]at l;have hs:=Mr.start w0;clear h n o;generalize N.KC a=P at*;go_enter r2, ntmps141;go_wp2_with (refine ma ?_;try (clear hs;intro w hs));refine(l.out w hs.out).mono ?_;clear l;rintro e w ⟨rfl,f⟩;replace hs:=hs.below f;clear f;go_wp2_with (refine ma ?_;try (clear hs;intro w hs));refine(fH P w r.out.1 r.out.2).mono ?_;rw[q.out.1,q.out.2];rintro e w ⟨rfl,f⟩;replace hs:=hs.below f;clear f;go_wp2_with (refine ma ?_;try (clear hs;intro w hs));have t5:=hs.cell 0 20 rfl (cJ x b.out 4);have t6:=hs.cell 0 21 rfl (cJ x b.out 5);have t7:=hs.cell 0 22 rfl (cJ x b.out 6);have t:=hs.cell 3 0 rfl (v:=.int .i64 a.d) rfl;go_quiet ((go_at_call 137;exact Calls.quiet_of (bH _ _ _ _)))
 replace hs:=hs.drewN nq;clear t5 t6 t7 t;generalize w.drewN nq=w at*;have i:=D.out;unfold fits at i;simp only[Bool.and_eq_true]at i;obtain⟨f1,f2,f3,f4⟩:=i;have g1:(x.b !=a.b)=false:=by rw[bne,f1];rfl
 have g2:(x.o !=a.p)=false:=by rw[bne,f2];rfl
 clear f1 f2;have t4:=hs.cell 0 19 rfl (cJ x b.out 3);have t5:=hs.cell 0 20 rfl (cJ x b.out 4);have t6:=hs.cell 0 21 rfl (cJ x b.out 5);have t7:=hs.cell 0 22 rfl (cJ x b.out 6);have t:=hs.cell 3 0 rfl (v:=.int .i64 a.d) rfl;have a1:=hs.cell 3 1 rfl (v:=.int .i64 a.b) rfl;have a2:=hs.cell 3 2 rfl (v:=.int .i64 a.p) rfl;go_wp2_with (first|(refine bM 0 hs rfl 62 rfl rfl rfl eX rfl bg (by first|rfl|assumption|(simp;done)|(exact(by assumption:Hid _).out)) ?_)|(refine sm hs 62 rfl rfl rfl rfl bg (by first|rfl|assumption|(simp;done)|(exact(by assumption:Hid _).out)) (by first|rfl|assumption|(simp;done)|(exact(by assumption:Hid _).out)) (by first|exact aE _ _ _ _ _ _ _ _|exact aO _ _ _ _|exact av _ _|decide|(intro u hu;simp at hu;subst hu;rfl)|assumption) ?_;clear hs;intro w hs)|(go_at_call 105;refine(dC _ _ _).mono ?_;rintro e w ⟨rfl,rfl⟩));change lx _ _ _ _ _ _;refine fo (v:=.tuple #[.agg x.v.toArray,_]) ?_ rfl ⟨rfl,hs.out⟩;rw[hs.Nn 2 rfl rfl _ rfl eX rfl bg B.out];rfl
theorem Cn(h:JS w0 base g m N)(a:Ad)(n:a.wf)(o:N.K9 a=0)(p:NV (N.KC a)=true)(x:Sh)(j:Nf (N.KC a)=x)(b:fits x a=false):hO hX 141 #[g,.agg a.v.toArray] w0 fun e z=>e=.returned (.tuple #[.agg zeroV.toArray,.int .i64 3])∧Below w0.heap.size w0 z:=by
 have k:x.ok:=j▸rx (bC h.ok a).1 (bC h.ok a).2;have q:=qZ (show Oo (N.KC a)=x.v∧Kh (N.KC a)=0 from⟨by rw[←CG,j],by unfold Kh;rw[p];rfl⟩);have f:=qZ k;have D:=qZ (bi k);have B:=qZ b;clear p j k b;have E:=qZ (show(An .u8 (N.KC a)).length=32 by rw[ah];exact(bC h.ok a).1);have r:=qZ (bC h.ok a);have l:=qZ (fun W (i:Below w0.heap.size w0 W)=>JT.fS (h.below i) a n);rw[o]at l;have hs:=Mr.start w0;clear h n o;generalize N.KC a=P at*;go_enter r2, ntmps141;go_wp2_with (refine ma ?_;try (clear hs;intro w hs));refine(l.out w hs.out).mono ?_;clear l;rintro e w ⟨rfl,i⟩;replace hs:=hs.below i;clear i;go_wp2_with (refine ma ?_;try (clear hs;intro w hs));refine(fH P w r.out.1 r.out.2).mono ?_;rw[q.out.1,q.out.2];rintro e w ⟨rfl,i⟩;replace hs:=hs.below i;clear i;go_wp2_with (refine ma ?_;try (clear hs;intro w hs));have t5:=hs.cell 0 20 rfl (cJ x f.out 4);have t6:=hs.cell 0 21 rfl (cJ x f.out 5);have t7:=hs.cell 0 22 rfl (cJ x f.out 6);have t:=hs.cell 3 0 rfl (v:=.int .i64 a.d) rfl;go_quiet ((go_at_call 137;exact Calls.quiet_of (bH _ _ _ _)))
 replace hs:=hs.drewN nq;clear t5 t6 t7 t;generalize w.drewN nq=w at*
 have b:(x.b !=a.b)=true∨((x.b !=a.b)=false∧(x.o !=a.p)=true)∨((x.b !=a.b)=false∧(x.o !=a.p)=false∧hasB x.m a.d=false)∨((x.b !=a.b)=false∧(x.o !=a.p)=false∧hasB x.m a.d=true∧((Ka x.m x.b x.o==a.d)==(x.k==2))=false):=by
  have b:=B.out;unfold fits at b;unfold bne;revert b
  cases(x.b==a.b)<;>cases(x.o==a.p)<;>cases hasB x.m a.d<;>cases((Ka x.m x.b x.o==a.d)==(x.k==2))<;>simp
 rcases b with f1|⟨f1,f2⟩|⟨f1,f2,f3⟩|⟨f1,f2,f3,f4⟩
 all_goals
  have t4:=hs.cell 0 19 rfl (cJ x f.out 3);have t5:=hs.cell 0 20 rfl (cJ x f.out 4);have t6:=hs.cell 0 21 rfl (cJ x f.out 5);have t7:=hs.cell 0 22 rfl (cJ x f.out 6);have t:=hs.cell 3 0 rfl (v:=.int .i64 a.d) rfl;have a1:=hs.cell 3 1 rfl (v:=.int .i64 a.b) rfl;have a2:=hs.cell 3 2 rfl (v:=.int .i64 a.p) rfl;go_wp2_with (first|(refine ac rfl 62 _ rfl _ rfl _ rV ?_)|(refine ma ?_;try (clear hs;intro w hs))|(go_at_call 105;refine(dC _ _ _).mono ?_;rintro e w ⟨rfl,rfl⟩));change lx _ _ _ _ _ _;refine fo (v:=.tuple #[.agg zeroV.toArray,_]) ?_ rfl ⟨rfl,hs.out⟩;rw[hs.Nn 2 rfl rfl _ rfl eX rfl bg rfl];rfl
theorem kt(h:JS w0 base g m N)(a:Ad)(c:a.wf):hO hX 141 #[g,.agg a.v.toArray] w0 fun e j=>e=.returned (.tuple #[.agg (look N a).1.v.toArray,.int .i64 (look N a).2])∧Below w0.heap.size w0 j:=by
 rcases sS N a with b|b|b|b|b|b
 · cases f:NV (N.KC a)with
   |false=>
    have e:look N a=(zS,3):=by unfold look;rw[b,f];rfl
    rw[e];exact zm h a c b f
   |true=>
    have e:look N a=(if fits (Nf (N.KC a)) a then Nf (N.KC a)else zS,if fits (Nf (N.KC a)) a then 1 else 3):=by
     unfold look;rw[b,f];cases fits (Nf (N.KC a)) a<;>rfl
    rw[e];cases i:fits (Nf (N.KC a)) a with
    |true=>exact zn h a c b f _ rfl i
    |false=>exact Cn h a c b f _ rfl i
 · have e:look N a=(zS,2):=by unfold look;rw[b];rfl
   rw[e];exact gO h a c b (.inl ⟨rfl,rfl⟩)
 · have e:look N a=(zS,3):=by unfold look;rw[b];rfl
   rw[e];exact gO h a c b (.inr (.inl ⟨rfl,rfl⟩))
 · have e:look N a=(zS,4):=by unfold look;rw[b];rfl
   rw[e];exact gO h a c b (.inr (.inr (.inl ⟨rfl,rfl⟩)))
 · have e:look N a=(zS,4):=by unfold look;rw[b];rfl
   rw[e];exact gO h a c b (.inr (.inr (.inr (.inl ⟨rfl,rfl⟩))))
 · have e:look N a=(zS,4):=by unfold look;rw[b];rfl
   rw[e];exact gO h a c b (.inr (.inr (.inr (.inr ⟨rfl,rfl⟩))))
end
open JT (Nd JS)
open pick (cO)
theorem fW{N:Nd}(h:N.ok)(a:Ad):(look N a).1.ok:=by
 have z:zS.ok:=⟨rfl,ik⟩;unfold look;split
 · split
   · exact rx (bC h a).1 (bC h a).2
   · exact z
 · split
   · exact z
   · split<;>exact z
theorem Hp{w:ed}{base g m:Nat}{N:Nd}(h:JS w base g m N):hO hX 20 #[g] w fun e b=>e=.returned (.agg #[(N.D:Int),(N.B:Int),(N.P:Int)])∧Below w.heap.size w b:=by
 obtain⟨Y,-,h⟩:=h;exact JT.rz h
theorem sw{x:Int}(b: -1000000000000000≤x)(c:x≤1000000000000000):wfI x:=by unfold wfI;simp[Lit.wf,IntKind.min,IntKind.max,IntKind.bits,IntKind.signed];omega
theorem pS(N:Nd)(b r:Int)(k:Nat):Lw N b r (k+1)=Lw N b r k++[look N ⟨k,b,r⟩]:=by
 unfold Lw;rw[iP,kb];rfl
theorem nJ(N:Nd)(b r:Int)(k:Nat):(Lw N b r k).length=k:=by simp[Lw]
def shL(l:List (Sh×Int)):List Sh:=l.map (·.1)
def whL(l:List (Sh×Int)):List Int:=l.map (·.2)
section
variable {w0:ed}{base g m:Nat}{N:Nd}
theorem E8(h:JS w0 base g m N)(b r:Int)(f:wfI b)(l:wfI r):hO hX 157 #[g,b,r] w0 fun e E=>
 ∃u v,e=.returned (.tuple #[u,v])∧Mr w0 E [] [⟨3,1,v,N.D,ints .i64 (whL (Lw N b r N.D))⟩,⟨62,23,u,N.D,(shs (shL (Lw N b r N.D))).flatten⟩]:=by
 have n:=qZ (fun W (f:Below w0.heap.size w0 W)=>Hp (h.below f));have H:=h.ok.geo.2.1;have o:=qZ (fun(W:ed) (k:Nat) (I:Below w0.heap.size w0 W) (J:k<N.D)=>kt (h.below I) ⟨k,b,r⟩ ⟨sw (by show _≤(k:Int);omega) (by show(k:Int)≤_;omega),f,l⟩);have L:=qZ (fun k:Nat=>fW h.ok ⟨k,b,r⟩);have O:=cO;have hs:=((Mr.start w0).empty 62 23 rfl).empty 3 1 rfl;obtain⟨D,p⟩:∃D,D=N.D:=⟨_,rfl⟩;rw[←p]at n o H⊢;clear h f l p;go_enter func157, ntmps157;go_wp2_with fail;refine(n.out _ hs.out).mono ?_;rintro e w ⟨rfl,f⟩;replace hs:=hs.below f;clear f;go_wp2_with fail;go_loopw [8,9,16] (fun u v i wr=>∃k:Nat,k≤D∧i=.int .i64 k∧Mr w0 wr [] [⟨3,1,v,k,ints .i64 (whL (Lw N b r k))⟩,⟨62,23,u,k,(shs (shL (Lw N b r k))).flatten⟩]) (fun _ _ i _=>D-(intOf i).toNat)
 case atStart=>exact⟨0,by omega,rfl,hs⟩
 case round=>
  clear hs;obtain⟨k,J,rfl,hs⟩:=hrel;by_cases M:k<D
  · have P:(k:Int)<(D:Int):=by omega
    have j:=qZ (o.out wr k hs.out M);have t:=qZ (L.out k);have z:=qZ (pS N b r k);obtain⟨y,B⟩:∃y,y=look N ⟨k,b,r⟩:=⟨_,rfl⟩;rw[←B]at j t z;obtain⟨x,q⟩:=y;clear B;go_wp2_with (first|(refine ac rfl 52 _ rfl _ rfl _ (rP k b r) ?_));refine j.out.mono ?_;rintro e w ⟨rfl,f⟩;replace hs:=hs.below f;have Q:=qZ (bi t.out);clear f j;go_wp2_with (first|(refine ma ?_;try (clear hs;intro w hs))|(at_builtin;(refine sq hs 156 rfl rfl ps jT rfl (by decide) (by first|rfl|assumption|(simp;done)|(exact(by assumption:Hid _).out)) rfl rfl (by first|exact aE _ _ _ _ _ _ _ _|exact aO _ _ _ _|exact av _ _|decide|(intro u hu;simp at hu;subst hu;rfl)|assumption) (by unfold qc;omega) (by omega) ?_;clear hs;intro v w hs))|(at_builtin;(refine bT hs 43 rfl rfl underlying43 AY rfl (by decide) (by first|rfl|assumption|(simp;done)|(exact(by assumption:Hid _).out)) rfl rfl (by first|exact aE _ _ _ _ _ _ _ _|exact aO _ _ _ _|exact av _ _|decide|(intro u hu;simp at hu;subst hu;rfl)|assumption) (by unfold qc;omega) (by omega) ?_;clear hs;intro v w hs)));go_roundw
    case rel=>
     refine⟨k+1,by omega,by go_num,?_⟩;have e1:ints .i64 (whL (Lw N b r k++[(x,q)]))=ints .i64 (whL (Lw N b r k))++[.int .i64 q]:=by simp[whL,ints]
     have e2:(shs (shL (Lw N b r k++[(x,q)]))).flatten=(shs (shL (Lw N b r k))).flatten++x.v:=by simp[shL,shs]
     rw[z.out,e1,e2];exact hs.tail
    case measure=>simp[intOf];omega
  · obtain rfl:k=D:=by omega
    go_wp2_with fail;go_ret2;exact⟨_,_,rfl,hs⟩
end
open JT (Nd JS)
theorem i9(x:Sh)(b:x.ok)(f:ed):hO hX 87 #[.agg x.v.toArray] f fun e g=>e=.returned (.agg (Mf x).v.toArray)∧Below f.heap.size f g:=by
 have k:=qZ b;have l:=qZ (bi b);have i:=qZ (show(Mf x).v.length=19 from ax b.1 _ _ _);have m:=qZ (show(An .u8 x.d).length=16 by rw[ah];exact b.1);have j:=qZ (H7 b.1 x.l x.s x.r);have hs:=Mr.start f;clear b;go_enter func87, ntmps87;go_wp2_with (first|(refine ma ?_;try (clear hs;intro w hs))|(refine bS 1 0 (c1:=[]) (c2:=An .u8 x.d) (c3:=[.int .i64 x.r,.int .i64 x.l,.int .i64 x.s,.int .i64 x.k,.int .i64 x.b,.int .i64 x.o,.int .i64 x.m]) hs rfl rfl 35 rfl rfl rfl underlying35 rfl bh (by first|rfl|assumption|(simp;done)|(exact(by assumption:Hid _).out)) ?_)|(refine ac rfl 90 _ rfl _ rfl _ j.out ?_));refine fo (v:=.agg (Mf x).v.toArray) ?_ rfl ⟨rfl,hs.out⟩;rw[hs.Qu 0 rfl rfl _ rfl jg rfl aV i.out];rfl
open JT (Nd JS)
theorem gI:∀(l:List (Sh×Bool)) (i slot:Nat) (x:Sh×Bool),others (l++[x]) i slot=(others l i slot).bind fun o=>if i+l.length=slot then some o else if x.2 then some (o++[x.1])else none
 |[],i,slot,x=>by
  simp only[List.nil_append,others,List.length_nil,Nat.add_zero,hZ];split
  · rfl
  · split<;>rfl
 |y::l,i,slot,x=>by
  rw[List.cons_append];unfold others;have b:=gI l (i+1) slot x;rw[show i+1+l.length=i+(y::l).length by simp;omega]at b;split
  · exact b
  · split
    · rw[b]
      cases others l (i+1) slot with
      |none=>rfl
      |some o=>
       simp only[hZ,Option.map_some];split
       · rfl
       · split<;>rfl
    · rfl
theorem tu{l:List (Sh×Bool)}{slot k:Nat}{x:Sh×Bool}(b:l[k]? =some x)(g:k≠slot)(c:x.2=false):others l 0 slot=none:=by
 have e:∀(l:List (Sh×Bool)) (i k:Nat),l[k]? =some x→i+k≠slot→others l i slot=none:=by
  intro l;induction l with
  |nil=>intro i k h;simp at h
  |cons y l f=>
   intro i k h j;unfold others;cases k with
   |zero=>
    simp at h;subst h;rw[if_neg (by omega),if_neg (by simp[c])]
   |succ k=>
    have:=f (i+1) k (by simpa using h) (by omega);rw[this];split
    · rfl
    · split<;>rfl
 exact e l 0 k b (by omega)
theorem kZ:∀(l:List (Sh×Bool)) (i slot:Nat) (o:List Sh),others l i slot=some o→o.length≤l.length
 |[],_,_,o,h=>by simp[others]at h;subst h;simp
 |x::l,i,slot,o,h=>by
  unfold others at h;split at h
  · have:=kZ l (i+1) slot o h;simp;omega
  · split at h
    · obtain⟨b,c,rfl⟩:=jI.1 h
      have:=kZ l (i+1) slot b c;simp;omega
    · cases h
theorem iu:∀(l:List (Sh×Bool)) (i slot:Nat) (o:List Sh),(∀x∈l,x.1.ok)→others l i slot=some o→∀x∈o,x.ok
 |[],_,_,o,_,h=>by simp[others]at h;subst h;simp
 |x::l,i,slot,o,c,h=>by
  unfold others at h;split at h
  · exact iu l (i+1) slot o (fun y b=>c y (by simp[b])) h
  · split at h
    · obtain⟨e,f,rfl⟩:=jI.1 h
      intro y b;rcases List.mem_cons.1 b with rfl|b
      · exact c x (by simp)
      · exact iu l (i+1) slot e (fun y b=>c y (by simp[b])) f y b
    · cases h
def Ns(f:Fo)(slot:Nat):En:=(f.MK slot).getD zE
theorem oq{b:ed}(f:Fo)(slot:Nat){A m:Option r4}{n c c2:Nat}(P:f.sl.length=n)(q:Rds b b.heap.size A 23 n (shs (f.sl.map (·.1))))(Q:Rd b b.heap.size m n (MC (f.sl.map (·.2))))(p:f.par.ok)(R:∀x∈f.sl,x.1.ok)(hn:n≤8):
 hO hX 88 #[.agg (foV (.slice A n c) (.slice m n c2) f.par f.whole).toArray,.int .i64 (slot:Int)] b fun e w'=>e=.returned (.tuple #[.agg (Ns f slot).v.toArray,.bool (f.MK slot).isSome])∧Below b.heap.size b w':=by
 have HF:=qZ (cF p (.slice A n c) (.slice m n c2) f.whole);have aa:=qZ (bi p);have S:=qZ p;have T:=qZ R;have E:=qZ P;have U:=ud p (.slice A n c) (.slice m n c2) f.whole;have HR:=qZ q;have HG:=qZ Q;have hs:=Mr.start b;clear p R P q Q;go_enter func88, ntmps88;go_wp2_with (first|(refine aG hs 158 rfl rfl _ _ rfl rfl rfl ?_;clear hs;intro wb hs)|(refine ma ?_;try (clear hs;intro w hs)));have ab:others (f.sl.take 0) 0 slot=some []:=rfl;go_loopw [6,12] (fun v i wr=>∃(k:Nat) (o:List Sh),k≤n∧i=.int .i64 k∧others (f.sl.take k) 0 slot=some o∧Mr b wr [(wb.heap.size,enV 0 0 0 an, 90),(b.heap.size,foV (.slice A n c) (.slice m n c2) f.par f.whole, 158)] [⟨62,23,v,o.length,(shs o).flatten⟩]) (fun _ i _=>n-(intOf i).toNat)
 case atStart=>exact⟨0,[],by omega,rfl,rfl,hs.empty _ _ rfl⟩
 case round=>
  clear hs ab;obtain⟨k,o,hk,rfl,V,hs⟩:=hrel;have t:=qZ V;clear V;have H:=qZ (show o.length≤8 by have h1:=kZ _ _ _ _ t;have h2:(f.sl.take k).length≤k:=List.length_take_le _ _;omega);by_cases I:k<n
  · have ao:(k:Int)<(n:Int):=by omega
    obtain⟨x,l⟩:∃x,f.sl[k]? =some x:=⟨_,ej (by rw[E.out];exact I)⟩;have HX:=qZ l;have W:=T.out x (eD l);have J:=qZ (bi W);obtain⟨L,o1,ad,-,M⟩:=aH (HR.below hs.out (jm _)) I (r:=x.1.v) (by simp[shs,l]);obtain⟨b2,o2,ae,-,z⟩:=HG.at_ I;have z:b.cell? ⟨b2,o2+k,none⟩=some (.bool x.2):=by rw[z,MC,js,js,l];rfl
    subst ad ae;have X:=qZ (show f.sl.take (k+1)=f.sl.take k++[x] by rw[jt,l];rfl);have Y:=qZ (show(f.sl.take k).length=k by rw[List.length_take,E.out];omega);clear l W;by_cases Z:k=slot
    · subst Z
      go_wp2_with (first|(refine jd rfl 62 (.tmp 15) rfl L _ rfl x.1.v _ M eX rfl (J▸bg) ?_)|(refine ma ?_;try (clear hs;intro w hs)));go_roundw
      case rel=>exact⟨k+1,o,by omega,by go_num,by rw[X.out,gI,t.out,hZ,Y.out,if_pos (by omega)],hs.tail⟩
      case measure=>simp[intOf];omega
    · have af:¬(k:Int)=(slot:Int):=by omega
      have aq:((k:Int)==(slot:Int))=false:=by simpa using af
      cases B:x.2 with
      |true=>
       rw[B]at z;go_wp2_with (first|(refine jd rfl 62 (.tmp 15) rfl L _ rfl x.1.v _ M eX rfl (J▸bg) ?_)|(refine ma ?_;try (clear hs;intro w hs))|(at_builtin;(refine bT hs 156 rfl rfl ps jT rfl (by decide) (by first|rfl|assumption|(simp;done)|(exact(by assumption:Hid _).out)) rfl rfl (by first|exact aE _ _ _ _ _ _ _ _|exact aO _ _ _ _|exact av _ _|decide|(intro u hu;simp at hu;subst hu;rfl)|assumption) (by have:=H.out;unfold qc;omega) (by have:=H.out;omega) ?_;clear hs;intro v w hs)));go_roundw
       case rel=>
        refine⟨k+1,o++[x.1],by omega,by go_num,by rw[X.out,gI,t.out,hZ,Y.out,if_neg (by omega),if_pos B],?_⟩;have e1:(shs (o++[x.1])).flatten=(shs o).flatten++x.1.v:=by simp[shs]
        rw[e1,kn];exact hs.tail
       case measure=>simp[intOf];omega
      |false=>
       rw[B]at z;have g:=qZ (show f.MK slot=none by unfold Fo.MK;rw[tu HX.out Z B]);go_wp2_with (first|(refine jd rfl 62 (.tmp 15) rfl L _ rfl x.1.v _ M eX rfl (J▸bg) ?_)|(refine ma ?_;try (clear hs;intro w hs))|(refine ac rfl 90 _ rfl _ rfl _ gw ?_));change lx _ _ _ _ _ _;exact fo (hs.Nn 1 rfl rfl _ rfl jg rfl aV rfl) rfl ⟨by(unfold Ns;rw[g.out];rfl),hs.out⟩
  · obtain rfl:k=n:=by omega
    have N:=qZ (show others f.sl 0 slot=some o by have:=t.out;rwa [List.take_of_length_le (by rw[E.out];exact jm _)]at this);have O:=qZ (iu _ _ _ _ T N);cases D:f.whole with
    |false=>
     have g:=qZ (show f.MK slot=none by unfold Fo.MK;rw[N.out,D];rfl);rw[D]at U hs;go_wp2_with (first|(refine ma ?_;try (clear hs;intro w hs))|(refine ac rfl 90 _ rfl _ rfl _ gw ?_));change lx _ _ _ _ _ _;exact fo (hs.Nn 0 rfl rfl _ rfl jg rfl aV rfl) rfl ⟨by(unfold Ns;rw[g.out];rfl),hs.out⟩
    |true=>
     rw[D]at U hs;obtain⟨Ao,co,ag,-,-⟩:=hs.slice 0 rfl;have g:=qZ (show f.MK slot=if MD f.par o then some (OP f.par o)else none by unfold Fo.MK;rw[N.out,D];rfl);have ah:_=Value.slice Ao o.length co:=ag;subst ah;have ai:=qZ (show M1 f.par o=(Ns f slot).v by unfold Ns M1;rw[g.out];cases MD f.par o<;>rfl);have aj:=qZ (show MD f.par o=(f.MK slot).isSome by rw[g.out];cases MD f.par o<;>rfl)
     have ak:=qZ (show(Ns f slot).v.length=19 by
      refine ax ?_ _ _ _;unfold Ns;rw[g.out];cases MD f.par o with
      |false=>rfl
      |true=>
       refine be fun y j=> ?_;rcases l5.1 j with j|j
       · exact(O y j).1
       · rw[List.mem_singleton.1 j];exact S.1)
     have HC:=qZ (show∀r∈shs o,r.length=23 by
      intro r q;obtain⟨y,j,rfl⟩:=qa.1 q;exact bi (O y j))
     have al:=qZ (show(shs o).length=o.length by simp[shs]);go_wp2_with (first|(refine ma ?_;try (clear hs;intro w hs))|(refine bS 1 2 (c1:=[_,_]) (c2:=f.par.v) (c3:=[.bool true]) hs rfl rfl 62 rfl rfl rfl eX rfl bg aa ?_));refine(uF f.par o Ao o.length co _ _ S (hs.rds 0 rfl al HC) (jm _) O (by have:=H.out;omega)).mono ?_;rw[ai.out,aj.out];rintro e w ⟨rfl,hb⟩;replace hs:=hs.below hb;clear hb;go_wp2_with (refine ma ?_;try (clear hs;intro w hs));change lx _ _ _ _ _ _;exact fo (hs.Nn 0 rfl rfl _ rfl jg rfl aV ak) rfl ⟨by rfl,hs.out⟩
def Fd.v(x:Fd):List ek:=enV x.e.l x.e.s x.e.r x.e.d++[.int .i64 x.b,.int .i64 x.r,.int .i64 x.s,.int .i64 x.m,.bool x.whole,.bool x.mended]
theorem fk{x:Fd}(h:x.e.ok):x.v.length=25:=by
 unfold Fd.v;rw[kn,ax h.1];rfl
theorem oR(x:Fd)(h:x.e.ok)(j:Nat):x.v[j+19]? =([.int .i64 x.b,.int .i64 x.r,.int .i64 x.s,.int .i64 x.m,.bool x.whole,.bool x.mended]:List ek)[j]? :=by
 unfold Fd.v;rw[List.getElem?_append_right (by rw[ax h.1];omega),ax h.1,Nat.add_sub_cancel]
theorem fi(x:Fd):∀y∈x.v,y.oneCell'=true:=by
 intro y b;unfold Fd.v at b;rcases l5.1 b with b|b
 · exact aO _ _ _ _ y b
 · simp at b
   rcases b with rfl|rfl|rfl|rfl|rfl|rfl<;>rfl
theorem pr(x y:Fd)(g:x.e.ok)(i:y.e.ok)(c:ed):hO hX 209 #[.agg x.v.toArray,.agg y.v.toArray] c fun e n=>e=.returned (.bool (behind x y))∧Below c.heap.size c n:=by
 have b:=((Mr.start c).alloc x.v 177 rfl).alloc y.v 177 rfl;generalize p:(c.alloc (.cells x.v.toArray 177)).alloc (.cells y.v.toArray 177)=W at b;have j:(c.alloc (.cells x.v.toArray 177)).heap.size=c.heap.size+1:=by simp
 rw[j]at b;have a1:=b.cell 1 1 rfl (v:=.int .i64 x.e.s) rfl;have a2:=b.cell 1 23 rfl (oR x g 4);have q:=b.cell 0 1 rfl (v:=.int .i64 y.e.s) rfl;have k:=b.cell 0 23 rfl (oR y i 4);have HB:=qZ b.out;have l:behind x y=if x.e.s≠y.e.s then decide (x.e.s<y.e.s)else y.whole&& !x.whole:=rfl
 rw[l];clear b j g i l;go_enter func209, ntmps209;by_cases f:x.e.s=y.e.s
 · rw[if_neg (by simpa using f)]
   have o:(x.e.s !=y.e.s)=false:=by simpa using f
   cases m:y.whole with
   |true=>
    rw[m]at k;go_upto_region 1 with fail
    clear f;exact Gu
   |false=>
    rw[m]at k;go_upto_region 1 with fail
    clear f;exact Gu
 · rw[if_pos f]
   have o:(x.e.s !=y.e.s)=true:=by simpa using f
   go_upto_region 1 with fail
   clear f;exact Gu
end dev
namespace ifn
open rw
section
variable {w:ed}{n c:Nat}{l:List Int}(fid:Nat)(cap:Array ek)(eg:∀args W,(callFunc fid args).run hX W= .ok (.enter fid args) W)(p:Int→Bool)
include eg in
theorem dB{A:Option r4}(b:Rd w w.heap.size A n (l.map fun x=>Value.int .i64 x))(I:n≤1000000)(hp:∀x W,x∈l→Below w.heap.size w W→hO hX fid (#[.int .i64 x]++cap) W fun e f=>e=.returned (.bool (p x))∧Below W.heap.size W f):
 hO hX 210 #[.slice A n c,.func (.func fid) #[] cap] w fun e f=>e=.returned (.int .i64 (MU p l))∧Below w.heap.size w f:=by
 have o:l.length=n:=by have:=b.1;simpa using this
 have B:=qZ b;have HL:=qZ o;have C:=qZ hp;clear b o hp;go_enter func210, ntmps210;go_wp2_with fail;go_loopw [8] (fun i wr=>∃k:Nat,k≤n∧i=.int .i64 k∧Below w.heap.size w wr∧∀(j:Nat) (x:Int),l[j]? =some x→j<k→p x=false) (fun i _=>n-(intOf i).toNat)
 case atStart=>exact⟨0,by omega,rfl,Below.refl _ _,fun _ _ _ h=>by omega⟩
 case round=>
  obtain⟨k,J,rfl,hb,q⟩:=hrel;have HA:=qZ q;clear q;by_cases D:k<n
  · have g:k<l.length:=by rw[HL.out];exact D
    obtain⟨K,L,rfl,M,r⟩:=(B.out.below hb (jm _)).2 (by omega);have N:(k:Int)<(n:Int):=by omega
    have t:=qZ (show l[k]? =some l[k]from ej g);have u:=qZ (C.out l[k] wr (ly g) hb);have E:=r k (.int .i64 l[k]) (by rw[js,ej g];rfl);clear r;generalize l[k]=x at*;go_wp2_with fail;refine u.out.mono ?_;rintro e O ⟨rfl,z⟩;have hb3:=hb.trans (z.mono hb.size);clear hb z u E;cases hp:p x with
    |true=>
     have HI:=qZ (show MU p l=(k:Int) by
      unfold MU;obtain⟨G,e⟩:=List.getElem?_eq_some_iff.1 t.out;rw[Hi G HA.out (by rw[e];exact hp)])
     exact ybx
    |false=>
     have H:=qZ hp;clear hp;go_wp2_with fail;go_roundw
     case rel=>exact⟨k+1,by omega,by go_num,hb3,fun j y m hj=>by
      by_cases e:j=k
      · subst e;rw[t.out]at m;cases m;exact H.out
      · exact HA.out j y m (by omega)⟩
     case measure=>simp[intOf];omega
  · exact ya1
theorem vQ(q:Int→Bool)(m:List Int):decide (0≤MU q m)=m.any q:=by
 unfold MU;cases h:m.findIdx? q with
 |none=>
  rw[List.findIdx?_eq_none_iff]at h;symm;rw[show decide ((0:Int)≤-1)=false from rfl,List.any_eq_false];exact fun x b=>by simpa using h x b
 |some i=>
  rw[List.findIdx?_eq_some_iff_getElem]at h;obtain⟨e,f,-⟩:=h;symm;rw[show decide ((0:Int)≤(i:Int))=true by simp,List.any_eq_true];exact⟨_,ly e,f⟩
include eg in
theorem gh{A:Option r4}(b:Rd w w.heap.size A n (l.map fun x=>Value.int .i64 x))(g:n≤1000000)(f:∀x W,x∈l→Below w.heap.size w W→hO hX fid (#[.int .i64 x]++cap) W fun e w'=>e=.returned (.bool (p x))∧Below W.heap.size W w'):
 hO hX 158 #[.slice A n c,.func (.func fid) #[] cap] w fun e w'=>e=.returned (.bool (l.any p))∧Below w.heap.size w w':=by
 have C:=qZ (dB (c:=c) fid cap eg p b g f);have HI:=qZ (vQ p l);clear b f;go_enter func158, ntmps158;exact yei
end
end ifn
theorem yfj{A:Prop}(h:A:=by
 go_wp2_with fail;go_ret;exact⟨rfl,hs.out⟩):A:=h
namespace dev
open tal (Ty Kb)
open tab (Tb JZ Kw)
def M5(T:Tb)(l:List Nat)(k:Nat):Nat:=((l.take k).map fun b:Nat=>Kw T.f (b:Int)).sum
theorem mB(T:Tb){l:List Nat}{k b:Nat}(h:l[k]? =some b):M5 T l (k+1)=M5 T l k+Kw T.f (b:Int):=by
 unfold M5;rw[jt,h,kb,List.sum_append];simp
theorem qz(T:Tb)(l:List Nat):∀k,M5 T l k≤T.f.length*k
 |0=>by simp[M5]
 |k+1=>by
  have c:=qz T l k;rw[Nat.mul_add,Nat.mul_one];cases h:l[k]? with
  |none=>
   have:M5 T l (k+1)=M5 T l k:=by
    unfold M5;rw[jt,h];simp
   omega
  |some b=>
   rw[mB T h]
   have:Kw T.f (b:Int)≤T.f.length:=by
    unfold Kw;exact List.length_filter_le _ _
   omega
section
variable {w0:ed}{g lb h mb cb n:Nat}{Y:Ty}{T:Tb}
theorem ql(v:pick.View w0 g lb Y h mb cb n T):hO hX 79 #[.pointer (some ⟨g,0,none⟩),.pointer (some ⟨h,0,none⟩)] w0 fun e C=>e=.returned (.int .i64 ((((pick.LI Y T).map fun b:Nat=>Kw T.f (b:Int)).sum:Nat):Int))∧Below w0.heap.size w0 C:=by
 have f:=qZ (pick.J1 v);have D:=qZ v;have E:=v.tab.ok.PW;have G:=v.tab.ok.log;have H:=v.tal.ok.geo.2.2.2.1
 have k:=qZ (show(pick.LI Y T).length≤16 by
  have:(pick.LI Y T).length≤Y.B:=pick.kN _ _ _
  omega)
 have m:=qZ (show∀b∈pick.LI Y T,b≤65536 from fun b c=>by
  unfold pick.LI pick.KN at c;have:=List.mem_range.1 (List.mem_filter.1 c).1;omega)
 have I:=qZ (show T.f.length≤65536 by omega);obtain⟨l,o⟩:∃l,l=pick.LI Y T:=⟨_,rfl⟩;rw[←o]at f k m⊢;have J:=qZ (show(l.map fun b:Nat=>Kw T.f (b:Int)).sum=M5 T l l.length by unfold M5;rw[List.take_length]);rw[J.out];have hs:=Mr.start w0;clear v o E G H;go_enter func79, ntmps79;go_wp2_with fail;refine f.out.mono ?_;rintro e w ⟨u,rfl,p,c⟩;replace hs:=hs.got c p rfl;clear p c f;obtain⟨A,cv,i,-,-⟩:=hs.slice 0 rfl;have i:u=.slice A l.length cv:=i;subst i;go_wp2_with fail;go_loopw [5,12] (fun sv j wr=>∃q:Nat,q≤l.length∧j=.int .i64 (q:Int)∧sv=.int .i64 (M5 T l q:Int)∧Mr w0 wr [] [⟨3,1,.slice A l.length cv,l.length,An .i64 l⟩]) (fun _ j _=>l.length-(intOf j).toNat)
 case atStart=>exact⟨0,by omega,rfl,rfl,hs⟩
 case round=>
  clear hs;obtain⟨q,S,rfl,rfl,hs⟩:=hrel;have U:=k.out;by_cases K:q<l.length
  · have V:(q:Int)<(l.length:Int):=by omega
    obtain⟨L,W,M⟩:=hs.form 0 rfl (by show 0<l.length;omega);have N:A=some ⟨L,0,none⟩:=by injection M
    subst N;obtain⟨b,c⟩:∃b,l[q]? =some b:=⟨_,ej K⟩;have r:=m.out b (eD c);have O:=qZ (show(An .i64 l)[q]? =some (.int .i64 (b:Int)) by simp[An,c]);have t:=qZ (mB T c);have P:=qz T l (q+1);have z:=I.out;have Q:=Nat.mul_le_mul z (show q+1≤16 by omega);have R:=qZ (show M5 T l q+Kw T.f (b:Int)≤65536*16 by rw[←t.out];omega);have X:=R.out;have B:=qZ (tab.cE (D.out.tab.below hs.out) (b:Int) (pick.eB r));clear c r P z Q;go_wp2_with (first|(refine fp 0 hs rfl 3 rfl rfl rfl l4 rfl O.out ?_));refine B.out.mono ?_;rintro e Z ⟨rfl,rfl⟩;clear B;go_wp2_with fail;go_roundw
    case rel=>exact⟨q+1,by omega,by go_num,by rw[t.out];go_num,hs⟩
    case measure=>first|(simp[intOf];done)|(simp[intOf];omega)
  · obtain rfl:q=l.length:=by omega
    exact yfj
end
end dev
end Go.Proofs.YtlkpfnjdbgeifaaGreat
