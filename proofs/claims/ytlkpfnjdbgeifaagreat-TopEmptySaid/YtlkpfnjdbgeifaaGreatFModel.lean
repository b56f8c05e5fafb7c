import Derived.Test.YtlkpfnjdbgeifaaGreatFSurvMs
set_option linter.unusedSimpArgs false
set_option linter.unusedVariables false
set_option maxRecDepth 100000
set_option maxHeartbeats 4000000
open Go renaming Value→ed,World→ej,run_eql_pointer_nil→iP,wpStill→js,undef→jt,Calls→kd,TypeId→kk,wpStill_nil→kn,splice→kr,Program→lx,Oper→ly
open Go.Region renaming wanted→ek
open Go.Proofs.Tryz renaming underlying58→eD,underlying35→fj,prog→gg,underlying254→kb
open List renaming length_append→eX,foldl_cons→fo,contains_iff_mem→hG,foldl_nil→hX,mem_append_left→hZ,take_succ_cons→jd,drop_succ_cons→jg,mem_cons_self→jm,take_zero→jw,drop_zero→jI
open Nat renaming le_refl→hO
namespace Go.Proofs.YtlkpfnjdbgeifaaGreat
open Go.Proofs.Tryz
open Go.RowKit
theorem yfr{A:Prop}(h:A:=by
 refine⟨rr,rr,rr,?_,rr,rr,rr,rr,?_,rr,?_,?_,rr,rr,?_,rr,rr,?_,trivial⟩
 all_goals
  intro ux L w' hL hpre hJ a ha he;try simp[Region.binds]at hpre
 · refine Wn ?_
   have x1:=aZ 2;exact ex hJ.out.ms (List.mem_append_right _ (List.Mem.head _)) 254 rfl x1 underlying254 rfl rfl ⟨ux,_,rfl,rfl,hJ.out⟩
 · refine Wn ?_
   have x1:=aZ 7;exact ex hJ.out.ms (List.mem_append_right _ (List.Mem.head _)) 254 rfl x1 underlying254 rfl rfl ⟨ux,_,rfl,rfl,hJ.out⟩
 · refine Wn ?_
   refine sd hJ.out.ms 58 rfl underlying58 eP rfl rfl fun w'' hw=>⟨(w'.heap.size,ux.2),_,rfl,rfl,hJ.out.mk1 hL hw⟩
 · refine Wn ?_
   refine sd hJ.out.ms 58 rfl underlying58 eP rfl rfl fun w'' hw=>⟨(ux.1,w'.heap.size),_,rfl,rfl,hJ.out.mk2 hL hw⟩
 · refine Wn ?_
   have x1:=aZ 13;have x2:=aZ 10;exact eL hJ.out.ms 58 rfl x1 x2 Ba (by rw[yc,hcl];decide) rfl fun w'' hw=>⟨ux,undef,rfl,rfl,hJ.out.st1 hL (by simp_all) hw⟩
 · refine Wn ?_
   have x1:=aZ 16;have x2:=aZ 11;exact eL hJ.out.ms 58 rfl x1 x2 Ba (by rw[yc,hcl];decide) rfl fun w'' hw=>⟨ux,undef,rfl,rfl,hJ.out.st2 hL (by simp_all) hw⟩):A:=h
theorem ybz{A:Prop}(h:A:=by
 refine Wn ?_;obtain⟨L',hm,hk1,hk2⟩:=hJ.out.ms;have x1:a.eval (.tmp 5)=.pointer (some ⟨pb,0,none⟩):=ev;exact wp_load_mid 35 (.tmp 5) rfl pb 0 x1 (An .u8 d) _ (ai (hm.own _ (vE _ _ _)).1) underlying35 rfl (by rw[HDl.out];rfl) ⟨ux,_,rfl,rfl,hJ.out⟩):A:=h
theorem yb6{A:Prop}(h:A:=by
 subst hg;obtain⟨L',hm,-⟩:=h.ms;exact hm.LM (List.mem_append_right _ (List.Mem.tail _ (List.Mem.tail _ (List.Mem.head _)))) (by unfold cwx pgm;rw[List.getElem?_append_left (by simp[ah,hd]),List.getElem?_append_right (by simp[ah,hd])];simp[ah,hd])):A:=h
theorem yd0{A:Prop}(h:A:=by
 unfold cwx pgm;rw[List.set_append_left _ _ (by simp[ah,hd]),List.set_append_right _ _ (by simp[ah,hd])];simp[ah,hd]):A:=h
theorem yec{A:Prop}(h:A:=by exact eL hm 58 rfl x1 x2 Ba (by simp[cwx,pgm,ah,HDd.out,HR.out]) h1 fun w'' hw=>⟨ux,undef,rfl,rfl,hf _ hw⟩):A:=h
namespace dev.mo
open dev
def pgm(d:List Nat)(o:Bool)(m e:ed):List ed:=An .u8 d++[.bool o,m,e]
def z19:List ed:=pgm an false (.slice none 0 0) (.slice none 0 0)
def sv(k:Nat):ed:=.slice (some ⟨k,0,none⟩) 1 1
theorem Ba:(gg.info? 58).map (·.size)=some 1:=by rfl
theorem eP:(gg.info? 35).map (fun i=>(i.zero,i.size,i.bytes))=some (some (.agg (An .u8 an).toArray),16,16):=by rfl
theorem Ex:(gg.info? 258).map (fun i=>(i.zero,i.size,i.bytes))=some (some (.agg (pgm an false (.slice none 0 0) (.slice none 0 0)).toArray),19,72):=by rfl
theorem mo_b(k:Nat): gg.built 256 [(0,.slice (some ⟨k,0,none⟩) 2 2)]=some ([.slice (some ⟨k,0,none⟩) 2 2]:List ed).toArray:=by rfl
section
variable {P:lx}{o:ly}{a:Act}{Q:Exit→Act→ej→Prop}{K:Act→ej→Prop}{da dv:kk→Bool}{base:Nat}{A B:ej→Prop}{w0 w w':ej}{L:List Bk}{S:List Sl}
theorem sd(hs:Ms da dv base A B w0 w L S)(t:TypeId)(ho:o.op=.makeSlice t (.const (.int .i64 1)) (.const (.int .i64 1))){C bytes:Nat}{e:TypeId}{z:Value}{zc:List Value}(hu:P.underlying t=some (.slice e))(hinfo:(P.info? e).map (fun i=>(i.zero,i.size,i.bytes))=some (some z,C,bytes))(hz:z.cells=zc.toArray)(he:da e=false)(h:∀w',Ms da dv base A B w0 w' ((w.heap.size,zc,e)::L) S→K (a.put o.dst (sv w.heap.size)) w')(hC:zc.length=C:=by rfl)(h0:0<C:=by decide)(hb:bytes*1≤281474976710656:=by decide):o.wp P a w K Q:=by
  unfold Oper.wp execOp;have hz1:(List.replicate 1 zc).flatten=zc:=by simp
  have hk:K (a.put o.dst (sv w.heap.size)) (w.alloc (.cells (List.replicate 1 zc).flatten.toArray e)):=by rw[hz1];exact h _ (hs.alloc zc e he)
  have hr:=fe (P:=P) t e z zc C bytes hu hinfo hz hC h0 1 hb (by decide) w;simp only[ho,Sem.run_bind,Act.eval];have e1:(((1:Nat):Int))=1:=rfl;rw[e1]at hr;simp only[hr,Result.andThen_ok,Sem.run_pure];exact hk
theorem _root_.Go.Proofs.YtlkpfnjdbgeifaaGreat.Ms.Q8{k n C:Nat}{e:List ed}{t:kk}(h:Ms da dv base A B w0 w ((k,e,t)::L) S)(i:dv t=false)(j:e.length=n*C)(l:n≤maxLen):Ms da dv base A B w0 w L (⟨t,C,.slice (some ⟨k,0,none⟩) n n,n,e⟩::S):=by
  have f:=h.own _ (jm ..)
  have m:w0.heap.size≤k:=by
    rcases f.2.2.2 with q|q
    · exact absurd q (by show¬dv t=true;rw[i];simp)
    · exact q
  have b:=h.tail;refine⟨b.sub,b.own,b.srt,fun s c=> ?_,List.pairwise_cons.2 ⟨fun s c q g=> ?_,b.sps⟩,b.fr,b.le,b.sa,b.sb,b.a,b.b⟩
  · rcases List.mem_cons.1 c with rfl|c
    · refine⟨⟨j,.inr ⟨k,n,_,rfl,m,f.1,hO _,l,by omega,by grind⟩⟩,f.2.2.1,fun x hx q=> ?_⟩
      exact ye5
    · exact b.sls s c
  · have g:some k=some q:=g
    cases g
    exact(h.sls s c).2.2 _ (jm ..)
end
def csx(b:List ed)(j:Nat)(x:Nat×Nat)(g1 g2:Bool):List ed:=bif g2 then(bif g1 then b.set j (sv x.1)else b).set (j+1) (sv x.2)else(bif g1 then b.set j (sv x.1)else b)
theorem yc(b:List ed)(j:Nat)(x:Nat×Nat)(g1 g2:Bool):(csx b j x g1 g2).length=b.length:=by cases g1<;>cases g2<;>simp[csx]
abbrev zb(k:Nat):Bk:=(k,An .u8 an, 35)
structure NJ (W:ej) (mg lb:Nat) (cs:List ed) (j:Nat) (S:List Sl) (x:Nat×Nat) (f1 f2 g1 g2:Bool) (w:ej):Prop where
  ms:Mr W w (((bif f1 then [zb x.1]else [])++(bif f2 then [zb x.2]else []))++[(mg,[.slice (some ⟨lb,0,none⟩) 2 2], 256),(lb,csx cs j x g1 g2, 258)]) S
  a:g1=true→f1=true
  b:g2=true→f2=true
section
variable {W w:ej}{mg lb j k:Nat}{cs:List ed}{S:List Sl}{x:Nat×Nat}{f1 f2 g1 g2:Bool}
theorem NJ.mk1(h:NJ W mg lb cs j S x f1 f2 g1 g2 w)(c:f1=false){b:ej}(e:Mr W b (zb k::(((bif f1 then [zb x.1]else [])++(bif f2 then [zb x.2]else []))++[(mg,[.slice (some ⟨lb,0,none⟩) 2 2], 256),(lb,csx cs j x g1 g2, 258)])) S):NJ W mg lb cs j S (k,x.2) true f2 g1 g2 b:=by
  subst c;have f:g1=false:=by cases g1 with|false=>rfl|true=>exact absurd (h.a rfl) (by simp)
  subst f;exact⟨e,fun _=>rfl,h.b⟩
theorem NJ.mk2(h:NJ W mg lb cs j S x f1 f2 g1 g2 w)(e:f2=false){b:ej}(c:Mr W b (zb k::(((bif f1 then [zb x.1]else [])++(bif f2 then [zb x.2]else []))++[(mg,[.slice (some ⟨lb,0,none⟩) 2 2], 256),(lb,csx cs j x g1 g2, 258)])) S):NJ W mg lb cs j S (x.1,k) f1 true g1 g2 b:=by
  subst e;have f:g2=false:=by cases g2 with|false=>rfl|true=>exact absurd (h.b rfl) (by simp)
  subst f;refine⟨?_,h.a,fun _=>rfl⟩;cases f1 with
  |false=>exact c
  |true=>exact c.PC
theorem NJ.st1(h:NJ W mg lb cs j S x f1 f2 g1 g2 w)(c:g1=false)(f:f1=true){b:ej}(g:Mr W b (((bif f1 then [zb x.1]else [])++(bif f2 then [zb x.2]else []))++(mg,[.slice (some ⟨lb,0,none⟩) 2 2], 256)::(lb,(csx cs j x g1 g2).set j (sv x.1), 258)::[]) S):NJ W mg lb cs j S x f1 f2 true g2 b:=by
  subst c f;refine⟨?_,fun _=>rfl,h.b⟩;cases g2 with
  |false=>exact g
  |true=>
    have e:csx cs j x true true=(csx cs j x false true).set j (sv x.1):=by
      show(cs.set j _).set (j+1) _=(cs.set (j+1) _).set j _;rw[List.set_comm _ _ (by omega)]
    simp_all
theorem NJ.st2(h:NJ W mg lb cs j S x f1 f2 g1 g2 w)(c:g2=false)(e:f2=true){b:ej}(f:Mr W b (((bif f1 then [zb x.1]else [])++(bif f2 then [zb x.2]else []))++(mg,[.slice (some ⟨lb,0,none⟩) 2 2], 256)::(lb,(csx cs j x g1 g2).set (j+1) (sv x.2), 258)::[]) S):NJ W mg lb cs j S x f1 f2 g1 true b:=by
  subst c e;exact⟨f,h.a,fun _=>rfl⟩
end
theorem Jo{W W1:ej}(hs:Mr W W1 [] []):kd gg 127 #[.int .i64 2] W1 fun e w'=>∃f lb m0 j rest,e=.returned (.pointer (some ⟨f,0,none⟩))∧rest.length=19∧Mr W w' [(f,[.slice (some ⟨lb,0,none⟩) 2 2], 256),(lb,pgm an false m0 j++rest, 258)] [⟨35,16,m0,1,An .u8 an⟩,⟨35,16,j,1,An .u8 an⟩]:=by
  go_enter func127, ntmps127;go_wp2_with (first|(obtain⟨lb,E⟩:∃k,k=W1.heap.size:=⟨_,rfl⟩;refine lK hs 254 rfl rfl (n:=2) rfl kb Ex rfl rfl (by decide) (by decide) (by decide) rfl ?_;clear hs;intro w hs;simp only[←E]at hs⊢;clear E)|(refine ac rfl 256 _ rfl _ rfl _ (mo_b _) ?_)|(obtain⟨f,H⟩:∃k,k=w.heap.size:=⟨_,rfl⟩;refine aG hs 256 rfl rfl _ [.slice (some ⟨lb,0,none⟩) 2 2] rfl rfl rfl ?_;clear hs;intro w hs;simp only[←H]at hs⊢;clear H)|(refine ma ?_;try (clear hs;intro w hs)));rw[show(List.replicate 2 (pgm an false (.slice none 0 0) (.slice none 0 0))).flatten=z19++z19 from rfl]at hs;go_loopw [16] (fun r wr=>∃rest:List ed,rest.length=19∧((r=.int .i64 0∧Mr W wr [(f,[.slice (some ⟨lb,0,none⟩) 2 2], 256),(lb,z19++rest, 258)] [])∨∃k m0 j,(k=1∨k=2)∧r=.int .i64 (k:Int)∧Mr W wr [(f,[.slice (some ⟨lb,0,none⟩) 2 2], 256),(lb,pgm an false m0 j++rest, 258)] [⟨35,16,m0,1,An .u8 an⟩,⟨35,16,j,1,An .u8 an⟩])) (fun r _=>2-(intOf r).toNat)
  case atStart=>exact⟨z19,rfl,.inl ⟨rfl,hs⟩⟩
  case round=>
    clear hs;obtain⟨rest,D,hrel⟩:=hrel;rcases hrel with⟨rfl,hs⟩|⟨k,m0,j,rfl|rfl,rfl,hs⟩
    · go_upto_region 5 with fail
      have hcl:(z19++rest).length=38:=by rw[eX,D];rfl
      refine dz (X:=Nat×Nat) (fun ux=> [(some 19,f),(some 20,f),(some 21,f),(some 22,.slice (some ⟨lb,0,none⟩) 2 2),(some 23,.int .i64 0),(some 24,f),(some 25,f),(some 26,f),(some 27,.slice (some ⟨lb,0,none⟩) 2 2),(some 28,.int .i64 0),(some 29,sv ux.1),(some 30,sv ux.2),(some 31,lb),(some 32,.pointer (some ⟨lb,17,none⟩)),(none,jt),(some 33,lb),(some 34,.pointer (some ⟨lb,18,none⟩)),(none,jt)])
       (fun ux L w'=>NJ W f lb (z19++rest) 17 [] ux (L 10) (L 11) (L 14) (L 17) w') ⟨(0,0),fun L hL=>by rw[hL 10,hL 11,hL 14,hL 17];exact⟨hs.drew,fun q=>q,fun q=>q⟩⟩ ?_ ?_
      · exact yfr
      · intro ux L w' hL hJ
        obtain⟨l,m⟩:=ux;have hm:=hJ.ms;rw[hL 10 (by decide),hL 11 (by decide),hL 14 (by decide),hL 17 (by decide)]at hm;clear hL hJ;have hs:=((show Mr W w' [zb l,zb m,(f,[.slice (some ⟨lb,0,none⟩) 2 2], 256),(lb,pgm an false (sv l) (sv m)++rest, 258)] []from hm).Q8 (n:=1) (C:=16) rfl rfl (by decide)).Q8 (n:=1) (C:=16) rfl rfl (by decide);simp only[fo,hX];go_simp;go_wp2_with fail;go_roundw
        case rel=>exact⟨rest,D,.inr ⟨1,sv l,sv m,.inl rfl,rfl,Ms.perm hs (.refl _) (List.Perm.swap _ _ _)⟩⟩
        case measure=>decide
    · go_upto_region 5 with fail
      have hcl:(pgm an false m0 j++rest).length=38:=by rw[eX,D];rfl
      refine dz (X:=Nat×Nat) (fun ux=> [(some 19,f),(some 20,f),(some 21,f),(some 22,.slice (some ⟨lb,0,none⟩) 2 2),(some 23,.int .i64 1),(some 24,f),(some 25,f),(some 26,f),(some 27,.slice (some ⟨lb,0,none⟩) 2 2),(some 28,.int .i64 1),(some 29,sv ux.1),(some 30,sv ux.2),(some 31,.pointer (some ⟨lb,19,none⟩)),(some 32,.pointer (some ⟨lb,36,none⟩)),(none,jt),(some 33,.pointer (some ⟨lb,19,none⟩)),(some 34,.pointer (some ⟨lb,37,none⟩)),(none,jt)])
       (fun ux L w'=>NJ W f lb (pgm an false m0 j++rest) 36 [⟨35,16,m0,1,An .u8 an⟩,⟨35,16,j,1,An .u8 an⟩] ux (L 10) (L 11) (L 14) (L 17) w') ⟨(0,0),fun L hL=>by rw[hL 10,hL 11,hL 14,hL 17];exact⟨hs.drew,fun q=>q,fun q=>q⟩⟩ ?_ ?_
      · exact yfr
      · intro ux L w' hL hJ
        obtain⟨l,m⟩:=ux;have hm:=hJ.ms;rw[hL 10 (by decide),hL 11 (by decide),hL 14 (by decide),hL 17 (by decide)]at hm;clear hL hJ;have hs:=Ms.drop hm 2;rw[show csx (pgm an false m0 j++rest) 36 (l,m) true true=pgm an false m0 j++(rest.set 17 (sv l)).set 18 (sv m) by rfl]at hs;simp only[fo,hX];go_simp;go_wp2_with fail;go_roundw
        case rel=>grind
        case measure=>decide
    · go_wp2_with fail
      go_ret;exact⟨f,lb,m0,j,rest,rfl,D,hs⟩
theorem Jn(x:Addr)(w:ej):(binOp .eql 214 (.pointer (some x)) (.pointer none)).run gg w=.ok (.bool false) w:=iP w 214 (some x) (by rfl: gg.underlying 214 =some (.pointer (gg.pointee 214)))
theorem Jb(x:Addr)(w:ej):(binOp .eql 259 (.pointer (some x)) (.pointer none)).run gg w=.ok (.bool false) w:=iP w 259 (some x) (by rfl: gg.underlying 259 =some (.pointer (gg.pointee 259)))
theorem xG{w:ej}{b lb:Nat}(c:w.cell? ⟨b,0,none⟩=some (.slice (some ⟨lb,0,none⟩) 2 2)):kd gg 192 #[b,.int .i64 0] w fun e f=>e=.returned lb∧w=f:=by
  have g:=Jn;go_enter func192, ntmps192;go_wp2_with fail;go_ret;simp
def cwx(d:List Nat)(m e:ed)(rest:List ed)(x:ed×ed×Nat×Nat)(g1 g2:Bool):List ed:=pgm d false (bif g1 then x.1 else m) (bif g2 then x.2.1 else e)++rest
structure WJ (W:ej) (mg lb pb:Nat) (d:List Nat) (m e:ed) (rest:List ed) (x:ed×ed×Nat×Nat) (l1 l2 c1 c2 a1 a2 g1 g2:Bool) (w:ej):Prop where
  ms:∃L',Mr W w (L'++(pb,An .u8 d, 35)::(mg,[.slice (some ⟨lb,0,none⟩) 2 2], 256)::[(lb,cwx d m e rest x g1 g2, 258)]) [(bif a1 then⟨35,16,x.1,2,An .u8 an++An .u8 d⟩else⟨35,16,m,1,An .u8 an⟩),(bif a2 then⟨35,16,x.2.1,2,An .u8 an++An .u8 d⟩else⟨35,16,e,1,An .u8 an⟩)]∧(c1=true→(x.2.2.1,An .u8 d, 35)∈L')∧(c2=true→(x.2.2.2,An .u8 d, 35)∈L')
  p1:(g1=true→a1=true)∧(a1=true→c1=true∧l1=true)
  p2:(g2=true→a2=true)∧(a2=true→c2=true∧l2=true)
section
variable {W w w'':ej}{mg lb pb k:Nat}{d:List Nat}{m e v:ed}{rest:List ed}{x:ed×ed×Nat×Nat}{l1 l2 c1 c2 a1 a2 g1 g2:Bool}
theorem ff{a b:Bool}(h:a=true→b=true)(c:b=false):a=false:=by simp_all
theorem WJ.ld1(h:WJ W mg lb pb d m e rest x l1 l2 c1 c2 a1 a2 g1 g2 w):WJ W mg lb pb d m e rest x true l2 c1 c2 a1 a2 g1 g2 w:=⟨h.ms,⟨h.p1.1,fun q=>⟨(h.p1.2 q).1,rfl⟩⟩,h.p2⟩
theorem WJ.ld2(h:WJ W mg lb pb d m e rest x l1 l2 c1 c2 a1 a2 g1 g2 w):WJ W mg lb pb d m e rest x l1 true c1 c2 a1 a2 g1 g2 w:=⟨h.ms,h.p1,⟨h.p2.1,fun q=>⟨(h.p2.2 q).1,rfl⟩⟩⟩
theorem WJ.c1_(h:WJ W mg lb pb d m e rest x l1 l2 c1 c2 a1 a2 g1 g2 w)(hd:d.length=16)(b:l1=false):w.cell? ⟨lb,17,none⟩=some m:=by
  have hg:=ff (fun q=>(h.p1.2 (h.p1.1 q)).2) b;exact yb6
theorem WJ.c2_(h:WJ W mg lb pb d m e rest x l1 l2 c1 c2 a1 a2 g1 g2 w)(hd:d.length=16)(b:l2=false):w.cell? ⟨lb,18,none⟩=some e:=by
  have hg:=ff (fun q=>(h.p2.2 (h.p2.1 q)).2) b;exact yb6
theorem WJ.mk1{b:List Bk}(h:WJ W mg lb pb d m e rest x l1 l2 c1 c2 a1 a2 g1 g2 w)(g:c1=false)(c:Mr W w'' ((k,An .u8 d, 35)::(b++(pb,An .u8 d, 35)::(mg,[.slice (some ⟨lb,0,none⟩) 2 2], 256)::[(lb,cwx d m e rest x g1 g2, 258)])) [(bif a1 then⟨35,16,x.1,2,An .u8 an++An .u8 d⟩else⟨35,16,m,1,An .u8 an⟩),(bif a2 then⟨35,16,x.2.1,2,An .u8 an++An .u8 d⟩else⟨35,16,e,1,An .u8 an⟩)])(f:c2=true→(x.2.2.2,An .u8 d, 35)∈b):WJ W mg lb pb d m e rest (x.1,x.2.1,k,x.2.2.2) l1 l2 true c2 a1 a2 g1 g2 w'':=
  ⟨⟨(k,An .u8 d, 35)::b,c,fun _=>List.Mem.head _,fun q=>List.Mem.tail _ (f q)⟩,⟨h.p1.1,fun q=>absurd (h.p1.2 q).1 (by simp_all)⟩,h.p2⟩
theorem WJ.mk2{b:List Bk}(h:WJ W mg lb pb d m e rest x l1 l2 c1 c2 a1 a2 g1 g2 w)(g:c2=false)(c:Mr W w'' ((k,An .u8 d, 35)::(b++(pb,An .u8 d, 35)::(mg,[.slice (some ⟨lb,0,none⟩) 2 2], 256)::[(lb,cwx d m e rest x g1 g2, 258)])) [(bif a1 then⟨35,16,x.1,2,An .u8 an++An .u8 d⟩else⟨35,16,m,1,An .u8 an⟩),(bif a2 then⟨35,16,x.2.1,2,An .u8 an++An .u8 d⟩else⟨35,16,e,1,An .u8 an⟩)])(f:c1=true→(x.2.2.1,An .u8 d, 35)∈b):WJ W mg lb pb d m e rest (x.1,x.2.1,x.2.2.1,k) l1 l2 c1 true a1 a2 g1 g2 w'':=
  ⟨⟨(k,An .u8 d, 35)::b,c,fun q=>List.Mem.tail _ (f q),fun _=>List.Mem.head _⟩,h.p1,⟨h.p2.1,fun q=>absurd (h.p2.2 q).1 (by simp_all)⟩⟩
end
section
variable {W w:ej}{mg lb pb:Nat}{d:List Nat}{m e:ed}{rest:List ed}{x:ed×ed×Nat×Nat}{l1 l2 c1 c2 a1 a2 g1 g2:Bool}
theorem WJ.ap1(h:WJ W mg lb pb d m e rest x l1 l2 c1 c2 a1 a2 g1 g2 w)(g:a1=false)(i:c1=true)(j:l1=true):∃b,Mr W w (b++(pb,An .u8 d, 35)::(mg,[.slice (some ⟨lb,0,none⟩) 2 2], 256)::[(lb,cwx d m e rest x g1 g2, 258)]) [⟨35,16,m,1,An .u8 an⟩,(bif a2 then⟨35,16,x.2.1,2,An .u8 an++An .u8 d⟩else⟨35,16,e,1,An .u8 an⟩)]∧(x.2.2.1,An .u8 d, 35)∈b++(pb,An .u8 d, 35)::(mg,[.slice (some ⟨lb,0,none⟩) 2 2], 256)::[(lb,cwx d m e rest x g1 g2, 258)]∧∀v c,Mr W c (b++(pb,An .u8 d, 35)::(mg,[.slice (some ⟨lb,0,none⟩) 2 2], 256)::[(lb,cwx d m e rest x g1 g2, 258)]) [⟨35,16,v,2,An .u8 an++An .u8 d⟩,(bif a2 then⟨35,16,x.2.1,2,An .u8 an++An .u8 d⟩else⟨35,16,e,1,An .u8 an⟩)]→WJ W mg lb pb d m e rest (v,x.2.1,x.2.2.1,x.2.2.2) l1 l2 c1 c2 true a2 g1 g2 c:=by
  subst g i j;have k:=ff h.p1.1 rfl;subst k;obtain⟨b,l,f,n⟩:=h.ms;exact⟨b,l,hZ _ (f rfl),fun v c o=>⟨⟨b,o,f,n⟩,⟨fun _=>rfl,fun _=>⟨rfl,rfl⟩⟩,h.p2⟩⟩
theorem WJ.ap2(h:WJ W mg lb pb d m e rest x l1 l2 c1 c2 a1 a2 g1 g2 w)(g:a2=false)(i:c2=true)(j:l2=true):∃b,Mr W w (b++(pb,An .u8 d, 35)::(mg,[.slice (some ⟨lb,0,none⟩) 2 2], 256)::[(lb,cwx d m e rest x g1 g2, 258)]) [⟨35,16,e,1,An .u8 an⟩,(bif a1 then⟨35,16,x.1,2,An .u8 an++An .u8 d⟩else⟨35,16,m,1,An .u8 an⟩)]∧(x.2.2.2,An .u8 d, 35)∈b++(pb,An .u8 d, 35)::(mg,[.slice (some ⟨lb,0,none⟩) 2 2], 256)::[(lb,cwx d m e rest x g1 g2, 258)]∧∀v c,Mr W c (b++(pb,An .u8 d, 35)::(mg,[.slice (some ⟨lb,0,none⟩) 2 2], 256)::[(lb,cwx d m e rest x g1 g2, 258)]) [⟨35,16,v,2,An .u8 an++An .u8 d⟩,(bif a1 then⟨35,16,x.1,2,An .u8 an++An .u8 d⟩else⟨35,16,m,1,An .u8 an⟩)]→WJ W mg lb pb d m e rest (x.1,v,x.2.2.1,x.2.2.2) l1 l2 c1 c2 a1 true g1 g2 c:=by
  subst g i j;have k:=ff h.p2.1 rfl;subst k;obtain⟨b,l,n,f⟩:=h.ms;exact⟨b,l.swap,hZ _ (f rfl),fun v c o=>⟨⟨b,o.swap,n,f⟩,h.p1,⟨fun _=>rfl,fun _=>⟨rfl,rfl⟩⟩⟩⟩
theorem cwx1(hd:d.length=16):(cwx d m e rest x false g2).set 17 x.1=cwx d m e rest x true g2:=by
  exact yd0
theorem cwx2(hd:d.length=16):(cwx d m e rest x g1 false).set 18 x.2.1=cwx d m e rest x g1 true:=by
  exact yd0
theorem qY{w:ej}{base C n:Nat}{e:kk}{v:ed}{b:List ed}(h:w.ownsRow base e C v n b):v.oneCell'=true:=by
  obtain⟨c,f,rfl,-⟩:=eo h;rfl
theorem WJ.st1(h:WJ W mg lb pb d m e rest x l1 l2 c1 c2 a1 a2 g1 g2 w)(f:d.length=16)(g:g1=false)(j:a1=true):∃b,Mr W w ((b++[(pb,An .u8 d, 35)])++(mg,[.slice (some ⟨lb,0,none⟩) 2 2], 256)::(lb,cwx d m e rest x g1 g2, 258)::[]) [(bif a1 then⟨35,16,x.1,2,An .u8 an++An .u8 d⟩else⟨35,16,m,1,An .u8 an⟩),(bif a2 then⟨35,16,x.2.1,2,An .u8 an++An .u8 d⟩else⟨35,16,e,1,An .u8 an⟩)]∧x.1.oneCell'=true∧∀c,Mr W c ((b++[(pb,An .u8 d, 35)])++(mg,[.slice (some ⟨lb,0,none⟩) 2 2], 256)::(lb,(cwx d m e rest x g1 g2).set 17 x.1, 258)::[]) [(bif a1 then⟨35,16,x.1,2,An .u8 an++An .u8 d⟩else⟨35,16,m,1,An .u8 an⟩),(bif a2 then⟨35,16,x.2.1,2,An .u8 an++An .u8 d⟩else⟨35,16,e,1,An .u8 an⟩)]→WJ W mg lb pb d m e rest x l1 l2 c1 c2 a1 a2 true g2 c:=by
  subst j g;obtain⟨b,k,l,n⟩:=h.ms;refine⟨b,by simp_all,qY (k.sl (i:=0) rfl),fun c o=>⟨⟨b,?_,l,n⟩,⟨fun _=>rfl,h.p1.2⟩,h.p2⟩⟩;rw[cwx1 f]at o;simp_all
theorem WJ.st2(h:WJ W mg lb pb d m e rest x l1 l2 c1 c2 a1 a2 g1 g2 w)(f:d.length=16)(g:g2=false)(j:a2=true):∃b,Mr W w ((b++[(pb,An .u8 d, 35)])++(mg,[.slice (some ⟨lb,0,none⟩) 2 2], 256)::(lb,cwx d m e rest x g1 g2, 258)::[]) [(bif a1 then⟨35,16,x.1,2,An .u8 an++An .u8 d⟩else⟨35,16,m,1,An .u8 an⟩),(bif a2 then⟨35,16,x.2.1,2,An .u8 an++An .u8 d⟩else⟨35,16,e,1,An .u8 an⟩)]∧x.2.1.oneCell'=true∧∀c,Mr W c ((b++[(pb,An .u8 d, 35)])++(mg,[.slice (some ⟨lb,0,none⟩) 2 2], 256)::(lb,(cwx d m e rest x g1 g2).set 18 x.2.1, 258)::[]) [(bif a1 then⟨35,16,x.1,2,An .u8 an++An .u8 d⟩else⟨35,16,m,1,An .u8 an⟩),(bif a2 then⟨35,16,x.2.1,2,An .u8 an++An .u8 d⟩else⟨35,16,e,1,An .u8 an⟩)]→WJ W mg lb pb d m e rest x l1 l2 c1 c2 a1 a2 g1 true c:=by
  subst j g;obtain⟨b,k,l,n⟩:=h.ms;refine⟨b,by simp_all,qY (k.sl (i:=1) rfl),fun c o=>⟨⟨b,?_,l,n⟩,h.p1,⟨fun _=>rfl,h.p2.2⟩⟩⟩;rw[cwx2 f]at o;simp_all
theorem BB{o:Bool}{n:List Nat}(b:n.length=16)(c:d.length=16):(kr (pgm n o m e++rest) 0 (An .u8 d)).set 16 (.bool false)=pgm d false m e++rest:=by
  unfold kr pgm;simp[ah,c,b]
end
theorem GS{W w:ej}{f lb:Nat}{m0 c:ed}{rest:List ed}{n d:List Nat}{o:Bool}(hs:Mr W w [(f,[.slice (some ⟨lb,0,none⟩) 2 2], 256),(lb,pgm n o m0 c++rest, 258)] [⟨35,16,m0,1,An .u8 an⟩,⟨35,16,c,1,An .u8 an⟩])(r:n.length=16)(hd:d.length=16)(u:rest.length=19):kd gg 128 #[f,.int .i64 0,.agg (An .u8 d).toArray] w fun e w'=>e=.returned (.bool true)∧∃m1 e1,Mr W w' [(f,[.slice (some ⟨lb,0,none⟩) 2 2], 256),(lb,pgm d false m1 e1++rest, 258)] [⟨35,16,m1,2,An .u8 an++An .u8 d⟩,⟨35,16,e1,2,An .u8 an++An .u8 d⟩]:=by
  have HDl:=qZ (show(An .u8 d).length=16 by rw[ah,hd]);have j:=qZ r;have HDd:=qZ hd;have HR:=qZ u;have N:=Jb;clear r hd u;go_enter func128, ntmps128;go_wp2_with (first|(obtain⟨pb,z⟩:∃k,k=w.heap.size:=⟨_,rfl⟩;refine aG hs 35 rfl rfl _ (An .u8 d) rfl rfl rfl ?_;clear hs;intro w hs;simp only[←z]at hs⊢;clear z));refine(xG (hs.cell 1 0 rfl rfl)).mono ?_;rintro e O ⟨rfl,rfl⟩;go_upto_region 5 with(first|(refine bM 0 hs rfl 35 rfl rfl rfl fj rfl bh HDl.out ?_)|(refine sn hs 35 rfl rfl 0 rfl rfl bh HDl.out (by simp[pgm,ah,j.out,HR.out]) (av _ _) ?_;clear hs;intro w hs)|(refine lH hs 4 rfl rfl rfl rfl qQ (by simp[kr,pgm,ah,j.out,HDd.out,HR.out]) rfl ?_;clear hs;intro w hs))
  replace hs:Mr W w [(pb,An .u8 d, 35),(f,[.slice (some ⟨lb,0,none⟩) 2 2], 256),(lb,(kr (pgm n o m0 c++rest) 0 (An .u8 d)).set 16 (.bool false), 258)] [⟨35,16,m0,1,An .u8 an⟩,⟨35,16,c,1,An .u8 an⟩]:=hs;rw[BB j.out HDd.out]at hs
  refine dz (X:=ed×ed×Nat×Nat) (fun ux=> [(some 20,lb),(some 21,lb),(some 22,lb),(some 23,lb),(some 24,.pointer (some ⟨lb,17,none⟩)),(some 25,m0),(some 26,.agg (An .u8 d).toArray),(some 27,.slice (some ⟨ux.2.2.1,0,none⟩) 1 1),(some 28,ux.1),(some 29,lb),(some 30,lb),(some 31,.pointer (some ⟨lb,18,none⟩)),(some 32,c),(some 33,.agg (An .u8 d).toArray),(some 34,.slice (some ⟨ux.2.2.2,0,none⟩) 1 1),(some 35,ux.2.1),(some 36,lb),(some 37,.pointer (some ⟨lb,17,none⟩)),(none,jt),(some 38,lb),(some 39,.pointer (some ⟨lb,18,none⟩)),(none,jt)])
   (fun ux L w'=>WJ W f lb pb d m0 c rest ux (L 5) (L 12) (L 7) (L 14) (L 8) (L 15) (L 18) (L 21) w') ⟨(jt,jt,0,0),fun L hL=>by rw[hL 5,hL 12,hL 7,hL 14,hL 8,hL 15,hL 18,hL 21];exact⟨⟨[],hs.drew,fun q=>(by cases q),fun q=>(by cases q)⟩,⟨fun q=>q,fun q=>(by cases q)⟩,⟨fun q=>q,fun q=>(by cases q)⟩⟩⟩ ?_ ?_
  · refine⟨rr,rr,rr,rr,rr,?_,?_,?_,?_,rr,rr,rr,?_,?_,?_,?_,rr,rr,?_,rr,rr,?_,trivial⟩
    all_goals
     intro ux L w' hL hpre hJ a ha he;try simp[Region.binds]at hpre
    · have E:=hJ.out.c1_ HDd.out hL
      replace hJ.out:=hJ.out.ld1;exact cH
    · exact ybz
    · refine Wn ?_
      obtain⟨L',hm,hk1,hk2⟩:=hJ.out.ms;have x1:=aZ 6;exact iN hm 58 rfl x1 rfl eD eP HDl.out (by decide) (by decide) rfl fun w'' hw=>⟨(ux.1,ux.2.1,w'.heap.size,ux.2.2.2),_,rfl,rfl,hJ.out.mk1 hL hw hk2⟩
    · refine Wn ?_
      obtain⟨L',hm,l,hf⟩:=hJ.out.ap1 hL (by simp_all) (by simp_all);have x1:=aZ 5;have x2:=aZ 7;exact fP hm l 58 rfl eD eP rfl (by decide) HDl.out x1 x2 (av _ _) (by decide) (by decide) fun m w'' hw=>⟨(m,ux.2.1,ux.2.2.1,ux.2.2.2),_,rfl,rfl,hf _ _ hw⟩
    · have E:=hJ.out.c2_ HDd.out hL
      replace hJ.out:=hJ.out.ld2;exact cH
    · exact ybz
    · refine Wn ?_
      obtain⟨L',hm,hk1,hk2⟩:=hJ.out.ms;have x1:=aZ 13;exact iN hm 58 rfl x1 rfl eD eP HDl.out (by decide) (by decide) rfl fun w'' hw=>⟨(ux.1,ux.2.1,ux.2.2.1,w'.heap.size),_,rfl,rfl,hJ.out.mk2 hL hw hk1⟩
    · refine Wn ?_
      obtain⟨L',hm,l,hf⟩:=hJ.out.ap2 hL (by simp_all) (by simp_all);have x1:=aZ 12;have x2:=aZ 14;exact fP hm l 58 rfl eD eP rfl (by decide) HDl.out x1 x2 (av _ _) (by decide) (by decide) fun m w'' hw=>⟨(ux.1,m,ux.2.2.1,ux.2.2.2),_,rfl,rfl,hf _ _ hw⟩
    · refine Wn ?_
      obtain⟨L',hm,h1,hf⟩:=hJ.out.st1 HDd.out hL (by simp_all);have x1:=aZ 17;have x2:=aZ 8;exact yec
    · refine Wn ?_
      obtain⟨L',hm,h1,hf⟩:=hJ.out.st2 HDd.out hL (by simp_all);have x1:=aZ 20;have x2:=aZ 15;exact yec
  · intro ux L w' hL hJ
    obtain⟨L',hm,-,-⟩:=hJ.ms;have G:=hL 8 (by decide);have H:=hL 15 (by decide);have I:=hL 18 (by decide);have M:=hL 21 (by decide);rw[G,H,I,M]at hm;have hs:=Ms.Qy (L':=L'++[(pb,An .u8 d, 35)]) (R:=[(f,[.slice (some ⟨lb,0,none⟩) 2 2], 256),(lb,cwx d m0 c rest ux true true, 258)]) (by simpa using hm);clear hm hL hJ;obtain⟨C,D,S,T⟩:=ux;simp only[fo,hX];go_simp;go_wp2_with fail;go_ret;first|exact⟨rfl,C,D,hs⟩|exact⟨C,D,hs⟩
theorem Js{W w:ej}{g lb:Nat}{m e:ed}{rest:List ed}{d:List Nat}{o:Bool}{S:List Sl}(hs:Mr W w [(g,[.slice (some ⟨lb,0,none⟩) 2 2], 256),(lb,pgm d o m e++rest, 258)] S)(l:d.length=16)(f:rest.length=19):kd gg 129 #[g] w fun x q=>x=.returned (.tuple #[])∧∃n:List ed,n.length=19∧Mr W q [(g,[.slice (some ⟨lb,0,none⟩) 2 2], 256),(lb,pgm d true m e++n, 258)] S:=by
  have i:=qZ l;have D:=Jn;have t:=qZ (fun(b:Bool) (r:List ed)=>show(pgm d b m e++r).set 16 (.bool true)=pgm d true m e++r by unfold pgm;simp[ah,i.out]);have z:=qZ (fun(b:Bool) (r:List ed)=>show(pgm d b m e++r).set 35 (.bool true)=pgm d b m e++r.set 16 (.bool true) by unfold pgm;simp[ah,i.out]);clear l;go_enter func129, ntmps129;go_wp2_with (refine ma ?_;try (clear hs;intro w hs));go_loopw [10] (fun j wr=>∃(k:Nat) (r:List ed) (b:Bool),k≤2∧j=.int .i64 (k:Int)∧r.length=19∧(1≤k→b=true)∧Mr W wr [(g,[.slice (some ⟨lb,0,none⟩) 2 2], 256),(lb,pgm d b m e++r, 258)] S) (fun j _=>2-(intOf j).toNat)
  case atStart=>exact⟨0,rest,o,by omega,rfl,f,by omega,hs⟩
  case round=>
    clear hs f;obtain⟨k,r,b,E,rfl,f,p,hs⟩:=hrel;have B:=qZ (show(pgm d b m e++r).length=38 by rw[eX,f];simp[pgm,ah,i.out]);obtain rfl|rfl|rfl:k=0∨k=1∨k=2:=by omega
    · go_wp2_with (refine ma ?_;try (clear hs;intro w hs))
      go_roundw
      case rel=>exact⟨1,r,true,by omega,rfl,f,fun _=>rfl,by rw[←t.out b r];exact hs⟩
      case measure=>decide
    · obtain rfl:b=true:=p (by omega)
      go_wp2_with (first|(refine aK 0 hs rfl 254 rfl rfl rfl kb rfl rfl ?_)|(refine sj hs 4 rfl rfl rfl rfl qQ (by rw[B.out];decide) rfl ?_;clear hs;intro w hs));go_roundw
      case rel=>exact⟨2,r.set 16 (.bool true),true,by omega,rfl,by simp[f],fun _=>rfl,by rw[←z.out true r];exact hs⟩
      case measure=>decide
    · obtain rfl:b=true:=p (by omega)
      go_wp2_with fail;go_end0
      grind
theorem sf{P:lx}{e:Array ly}{f:Act→Prop}{rest:List ly}{o:ly}{a:Act}{w:ej}{b i C:Nat}{row:List ed}(g:w.rangeAt b i row)(p:row.length=C)(c:kk){x:Operand}(j:ek o (yielded e a.tmps)=true)(k:o.op=.load c x)(l:a.eval x=.pointer (some ⟨b,i,none⟩)){d:TypeDesc}(m:P.underlying c=some d)(n:d.isRow=true)(q:(P.info? c).map (·.size)=some C)(h:js P e w f rest (a.put o.dst (.agg row.toArray))):js P e w f (o::rest) a:=by
  unfold js;rw[if_pos j];unfold Oper.still execOp;simp only[k,l,Sem.run_bind,run_loadAt_mid w b i c row d g m n (by simp_all),Result.andThen_ok,Sem.run_pure,Oper.stillUpon];simp_all
theorem si{P:lx}{c:Array ly}{f:Act→Prop}{rest:List ly}{o:ly}{a:Act}{w:ej}{b j:Nat}{v:ed}(g:w.cell? ⟨b,j,none⟩=some v)(e:kk){x:Operand}(i:ek o (yielded c a.tmps)=true)(k:o.op=.load e x)(l:a.eval x=.pointer (some ⟨b,j,none⟩)){d:TypeDesc}(m:P.underlying e=some d)(n:d.isRow=false)(h:js P c w f rest (a.put o.dst v)):js P c w f (o::rest) a:=by
  unfold js;rw[if_pos i];unfold Oper.still execOp;simp only[k,l,Sem.run_bind,aX w b j e m n g,Result.andThen_ok,Sem.run_pure,Oper.stillUpon];simp_all
theorem Df:Og gg 4 35 =true:=by rfl
theorem oS(w:ej)(a b:List Nat)(ha:∀x∈a,x<256)(hb:∀x∈b,x<256)(la:a.length=16)(lb:b.length=16):
    (binOp .eql 35 (.agg (An .u8 a).toArray) (.agg (An .u8 b).toArray)).run gg w=.ok (.bool (a==b)) w:=by
  exact ydi
theorem vD{W:ej}{g n c:Nat}{f:List (List Nat)}{d:List Nat}(o:Rds W W.heap.size (some ⟨g,0,none⟩) 16 n (f.map (An .u8)))(j:∀r∈f,r.length=16∧∀y∈r,y<256)(p:d.length=16∧∀y∈d,y<256)(Z:n≤1000):kd gg 236 #[.slice (some ⟨g,0,none⟩) n c,.agg (An .u8 d).toArray] W fun e P=>∃i:Int,e=.returned i∧decide (0≤i)=f.contains d∧Below W.heap.size W P:=by
  have E:f.length=n:=by have:=o.1;simp_all
  have Q:=qZ (show(An .u8 d).length=16 by rw[ah];omega);have H:=qZ E;have R:=qZ o;have S:=qZ (fun(w:ej) (b:List Nat) (q:b∈f)=>oS w d b p.2 (j b q).2 p.1 (j b q).1);have T:=qZ (fun r l=>(j r l).1);have hs:=Mr.start W;clear j p E o;go_enter func236, ntmps236;go_wp2_with (refine ma ?_;try (clear hs;intro w hs));go_loopw [8] (fun t wr=>∃k:Nat,k≤n∧t=.int .i64 (k:Int)∧(f.take k).contains d=false∧Mr W wr [(W.heap.size,An .u8 d, 35)] []) (fun t _=>n-(intOf t).toNat)
  case atStart=>grind
  case round=>
    clear hs;obtain⟨k,hk,rfl,I,hs⟩:=hrel;have J:=qZ I;clear I;by_cases L:k<n
    · have aa:(k:Int)<(n:Int):=by omega
      have z:k<f.length:=by rw[H.out];exact L
      obtain⟨x,M⟩:∃x,f[k]? =some x:=⟨_,List.getElem?_eq_getElem z⟩;have U:=qZ (show f.take (k+1)=f.take k++[x] by rw[List.take_succ_eq_append_getElem z];simp_all);have B:=qZ (List.mem_of_getElem? M);have V:=qZ (show(An .u8 x).length=16 by rw[ah];exact T.out x B.out)
      have X:=qZ (fun w (hs:Mr W w [(W.heap.size,An .u8 d, 35)] [])=>by
        obtain⟨b,ab,e,q,l⟩:=aH (R.out.below hs.out (hO _)) L (r:=An .u8 x) (by simp_all);cases e
        rw[Nat.zero_add]at l;exact l)
      have N:=fun w=>S.out w x B.out
      clear M z;go_upto_region 4 with fail
      refine bm 5 (by rfl) (by kernel_rfl) ?_;intro wd O;replace hs:=hs.drew;rw[←O]at hs;clear O;simp only[jd,jw,jg,jI];repeat (first|(refine cU 0 hs rfl 35 (by first|rfl|(simp[ek];done)|(go_simp;done)) rfl rfl fj rfl bh Q.out ?_)|(refine sf (X.out _ hs) V.out 35 (by first|rfl|(simp[ek];done)|(go_simp;done)) rfl (by first|rfl|(simp;done)) fj rfl bh ?_)|(refine wpStill_step (fun K hK=> ?_);go_simp;refine hK _ ?_;clear hK K))
      refine kn ?_;cases D:(d==x)with
      |true=>
        have m:=qZ (show f.contains d=true by rw[hG];have:d=x:=(by simpa using D);rw[this];exact B.out);rw[D]at N;go_wp2_with fail;go_ret;exact⟨_,rfl,by first|exact⟨fun _=>hG.1 m.out,fun _=>by omega⟩|(rw[m.out];simp),hs.out⟩
      |false=>
        have m:=qZ (show(f.take (k+1)).contains d=false by rw[U.out,List.contains_append,J.out];simp_all);rw[D]at N;go_wp2_with fail;go_roundw
        case rel=>exact⟨k+1,by omega,by go_num,m.out,hs⟩
        case measure=>first|(simp[intOf];done)|(simp[intOf];omega)
    · obtain rfl:k=n:=by omega
      go_wp2_with fail;go_ret;exact⟨_,rfl,by have Y:=J.out;rw[List.take_of_length_le (Nat.le_of_eq H.out)]at Y;simp_all,hs.out⟩
theorem zf{W:ej}{g n c:Nat}{f:List (List Nat)}{d:List Nat}(j:Rds W W.heap.size (some ⟨g,0,none⟩) 16 n (f.map (An .u8)))(k:∀r∈f,r.length=16∧∀y∈r,y<256)(l:d.length=16∧∀y∈d,y<256)(o:n≤1000):kd gg 198 #[.slice (some ⟨g,0,none⟩) n c,.agg (An .u8 d).toArray] W fun e p=>e=.returned (.bool (f.contains d))∧Below W.heap.size W p:=by
  have B:=qZ (show(An .u8 d).length=16 by rw[ah];omega);have q:=qZ (fun w (b:Below W.heap.size W w)=>vD (W:=w) (c:=c) ((j.below b (hO _)).mono b.size) k l o);have hs:=Mr.start W;clear k l j;go_enter func198, ntmps198;go_wp2_with (refine ma ?_;try (clear hs;intro w hs));refine(q.out _ hs.out).mono ?_;rintro e D ⟨i,rfl,m,b⟩;have t:=qZ m;have z:=qZ (hs.out.trans (b.mono hs.size));clear m b;go_wp2_with fail;go_ret;exact⟨by rw[←t.out];rfl,z.out⟩
theorem Jp{W:ej}{f lb g c:Nat}{d:List Nat}{rows:List (List Nat)}(c0:W.cell? ⟨f,0,none⟩=some (.slice (some ⟨lb,0,none⟩) 2 2))(i:W.cell? ⟨lb,16,none⟩=some (.bool true))(j:W.cell? ⟨lb,17,none⟩=some (.slice (some ⟨g,0,none⟩) 2 c))(k:Rds W W.heap.size (some ⟨g,0,none⟩) 16 2 (rows.map (An .u8)))(l:∀r∈rows,r.length=16∧∀y∈r,y<256)(m:d.length=16∧∀y∈d,y<256):kd gg 134 #[f,.int .i64 0,.agg (An .u8 d).toArray] W fun x q=>x=.returned (.bool (rows.contains d))∧Below W.heap.size W q:=by
  have t:=qZ (show(An .u8 d).length=16 by rw[ah];omega);have n:=qZ (fun w (e:Below W.heap.size W w)=>zf (W:=w) (c:=c) ((k.below e (hO _)).mono e.size) l m (by decide));have z:=qZ c0;have B:=qZ i;have D:=qZ j;have E:=Jb;have hs:=Mr.start W;obtain⟨H,o⟩:∃b,b=rows.contains d:=⟨_,rfl⟩;rw[←o]at n⊢;clear l m o k c0 i j;go_enter func134, ntmps134;go_wp2_with (refine ma ?_;try (clear hs;intro w hs));refine(xG (JT.po z.out hs.out)).mono ?_;rintro x I ⟨rfl,rfl⟩;have d16:=JT.po B.out hs.out;go_upto_region 5 with fail
  clear d16;refine bm 5 (by rfl) (by kernel_rfl) ?_;intro J p;replace hs:=hs.drew;rw[←p]at hs;clear p;simp only[jd,jw,jg,jI];repeat (first|(refine si (JT.po D.out hs.out) 58 (by first|rfl|(simp[ek];done)|(go_simp;done)) rfl rfl eD rfl ?_)|(refine cU 0 hs rfl 35 (by first|rfl|(simp[ek];done)|(go_simp;done)) rfl rfl fj rfl bh t.out ?_)|(refine wpStill_step (fun K hK=> ?_);go_simp;refine hK _ ?_;clear hK K))
  refine kn ?_;go_wp2_with fail;refine(n.out _ hs.out).mono ?_;rintro x L ⟨rfl,e⟩;have HB:=qZ (hs.out.trans (e.mono hs.size));clear e;exact Gu
end dev.mo
end Go.Proofs.YtlkpfnjdbgeifaaGreat
