import Derived.Test.YtlkpfnjdbgeifaaGreatFPutMid
import Derived.Test.YtlkpfnjdbgeifaaGreatFWeave1
set_option linter.unusedSimpArgs false
set_option linter.unusedVariables false
open Go.Proofs.Tryz renaming prog→ed
open Go renaming Value→ej,TypeId→eD,World→hX,Operand→iP,wpStill→jd,execOp→jg,TypeDesc→jm,run_loadAt_mid→jw,Oper→kd,wpList→kk,Program→kn,yielded→kr,Act→lx
open Go.Result renaming andThen_ok→ek
open Go.Sem renaming run_bind→eX,run_pure→js
open List renaming getElem?_append_right→fj,getElem?_toArray→fo,mem_of_getElem?→gg,getElem?_eq_some_iff→hZ,map_toArray→jt,map_cons→jI,map_nil→kb
open Go.Addr renaming add_mid→hG
open Nat renaming zero_add→hO
namespace Go.Proofs.YtlkpfnjdbgeifaaGreat
open Go.Proofs.Tryz
open Go.RowKit
section
def foV(u v:ej)(p:Sh)(b:Bool):List ej:=[u,v]++(p.v++[.bool b])
theorem bg:(ed.info? 62).map (·.size)=some 23:=by kernel_rfl
theorem rQ:(ed.info? 62).map (·.zero)=some (some (.agg (shV an 0 0 0 0 0 0 0).toArray)):=by kernel_rfl
theorem aV:(ed.info? 90).map (·.size)=some 19:=by kernel_rfl
theorem jK:(ed.info? 90).map (·.zero)=some (some (.agg (enV 0 0 0 an).toArray)):=by kernel_rfl
theorem bh:(ed.info? 35).map (·.size)=some 16:=by kernel_rfl
theorem DV:(ed.info? 35).map (·.zero)=some (some (.agg (An .u8 an).toArray)):=by kernel_rfl
theorem nD:(ed.info? 94).map (·.size)=some 3:=by kernel_rfl
theorem bB:(ed.info? 177).map (·.size)=some 25:=by kernel_rfl
theorem xj:(ed.info? 96).map (·.size)=some 6:=by kernel_rfl
theorem Bb:(ed.info? 23).map (·.size)=some 3:=by kernel_rfl
theorem dF:(ed.info? 158).map (·.size)=some 26:=by kernel_rfl
theorem gq:(ed.info? 158).map (·.zero)=some (some (.agg (foV (.slice none 0 0) (.slice none 0 0) ⟨an,0,0,0,0,0,0,0⟩ false).toArray)):=by kernel_rfl
theorem qQ:(ed.info? 4).map (·.size)=some 1:=by kernel_rfl
theorem ei:(ed.info? 118).map (·.size)=some 6:=by kernel_rfl
theorem jT:(ed.info? 62).map (fun i=>(i.zero,i.size,i.bytes))=some (some (.agg (shV an 0 0 0 0 0 0 0).toArray),23,72):=by kernel_rfl
theorem nC:(ed.info? 90).map (fun i=>(i.zero,i.size,i.bytes))=some (some (.agg (enV 0 0 0 an).toArray),19,40):=by kernel_rfl
theorem AY:(ed.info? 3).map (fun i=>(i.zero,i.size,i.bytes))=some (some (.int .i64 0),1,8):=by kernel_rfl
theorem xi:(ed.info? 4).map (fun i=>(i.zero,i.size,i.bytes))=some (some (.bool false),1,1):=by kernel_rfl
theorem cJ(x:Sh)(h:x.ok)(j:Nat):x.v[j+16]? =([.int .i64 x.r,.int .i64 x.l,.int .i64 x.s,.int .i64 x.k,.int .i64 x.b,.int .i64 x.o,.int .i64 x.m]:List ej)[j]? :=by
 unfold Sh.v shV;rw[fj (by rw[ah,h.1];omega),ah,h.1,Nat.add_sub_cancel]
theorem bi{x:Sh}(h:x.ok):x.v.length=23:=bc h.1 _ _ _ _ _ _ _
theorem rP(d b p:Int): ed.built 52 [(0,.int .i64 d),(1,.int .i64 b),(2,.int .i64 p)]=some ([.int .i64 d,.int .i64 b,.int .i64 p]:List ej).toArray:=by kernel_rfl
theorem H7{d:List Nat}(h:d.length=16)(l s r:Int): ed.built 90 [(0,.int .i64 l),(1,.int .i64 s),(2,.int .i64 r),(3,.agg (An .u8 d).toArray)]=some (enV l s r d).toArray:=by
 exact I7
theorem gw: ed.built 90 []=some (enV 0 0 0 an).toArray:=by kernel_rfl
theorem rV: ed.built 62 []=some (shV an 0 0 0 0 0 0 0).toArray:=by kernel_rfl
theorem cF{p:Sh}(h:p.ok)(u v:ej)(b:Bool):(foV u v p b).length=26:=by simp[foV,bi h]
theorem ud{p:Sh}(h:p.ok)(u v:ej)(b:Bool):(foV u v p b)[25]? =some (.bool b):=by
 unfold foV;rw[fj (by simp),fj (by simp[bi h])];simp[bi h]
theorem Hs{p q:Sh}(h:p.ok)(c:q.ok)(u v:ej)(b:Bool):splice (foV u v p b) 2 q.v=foV u v q b:=by
 have e:=bi h;have f:=bi c;unfold splice foV;simp_all
theorem F8{p:Sh}(h:p.ok)(u v:ej)(b c:Bool):(foV u v p b).set 25 (.bool c)=foV u v p c:=by
 have e:=bi h;unfold foV;simp_all
end
instance:TI ed 3 false (.int .i64 0) 1 8:=⟨by kernel_rfl,by kernel_rfl⟩
instance:TI ed 2 false (.int .i64 0) 1 8:=⟨by kernel_rfl,by kernel_rfl⟩
instance:TI ed 4 false (.bool false) 1 1:=⟨by kernel_rfl,by kernel_rfl⟩
instance:TI ed 62 true (.agg (shV an 0 0 0 0 0 0 0).toArray) 23 72:=⟨by kernel_rfl,by kernel_rfl⟩
instance:TI ed 90 true (.agg (enV 0 0 0 an).toArray) 19 40:=⟨by kernel_rfl,by kernel_rfl⟩
instance:TI ed 35 true (.agg (An .u8 an).toArray) 16 16:=⟨by kernel_rfl,by kernel_rfl⟩
instance:TI ed 55 true (.agg (An .u8 (List.replicate 32 0)).toArray) 32 32:=⟨by kernel_rfl,by kernel_rfl⟩
instance:TI ed 52 true (.agg ([.int .i64 0,.int .i64 0,.int .i64 0]:List ej).toArray) 3 24:=⟨by kernel_rfl,by kernel_rfl⟩
instance:TI ed 23 true (.agg ([.int .i64 0,.int .i64 0,.int .i64 0]:List ej).toArray) 3 24:=⟨by kernel_rfl,by kernel_rfl⟩
instance:TI ed 94 true (.agg ([.int .i64 0,.int .i64 0,.int .i64 0]:List ej).toArray) 3 24:=⟨by kernel_rfl,by kernel_rfl⟩
instance:TI ed 84 false (.pointer none) 1 8:=⟨by kernel_rfl,by kernel_rfl⟩
instance:TI ed 83 false (.pointer none) 1 8:=⟨by kernel_rfl,by kernel_rfl⟩
instance:TI ed 25 false (.pointer none) 1 8:=⟨by kernel_rfl,by kernel_rfl⟩
instance:TI ed 86 false (.pointer none) 1 8:=⟨by kernel_rfl,by kernel_rfl⟩
instance:TI ed 85 false (.pointer none) 1 8:=⟨by kernel_rfl,by kernel_rfl⟩
instance:TI ed 26 false (.pointer none) 1 8:=⟨by kernel_rfl,by kernel_rfl⟩
instance:TI ed 262 false (.pointer none) 1 8:=⟨by kernel_rfl,by kernel_rfl⟩
instance:TI ed 116 false (.slice none 0 0) 1 24:=⟨by kernel_rfl,by kernel_rfl⟩
instance:TI ed 156 false (.slice none 0 0) 1 24:=⟨by kernel_rfl,by kernel_rfl⟩
instance:TI ed 43 false (.slice none 0 0) 1 24:=⟨by kernel_rfl,by kernel_rfl⟩
instance:TI ed 174 false (.slice none 0 0) 1 24:=⟨by kernel_rfl,by kernel_rfl⟩
instance:TI ed 58 false (.slice none 0 0) 1 24:=⟨by kernel_rfl,by kernel_rfl⟩
instance:TI ed 79 false (.slice none 0 0) 1 24:=⟨by kernel_rfl,by kernel_rfl⟩
instance:TI ed 104 false (.slice none 0 0) 1 24:=⟨by kernel_rfl,by kernel_rfl⟩
instance:TI ed 254 false (.slice none 0 0) 1 24:=⟨by kernel_rfl,by kernel_rfl⟩
instance:TI ed 261 false (.slice none 0 0) 1 24:=⟨by kernel_rfl,by kernel_rfl⟩
instance:TI ed 171 false (.slice none 0 0) 1 24:=⟨by kernel_rfl,by kernel_rfl⟩
instance:TI ed 128 false (.slice none 0 0) 1 24:=⟨by kernel_rfl,by kernel_rfl⟩
instance:TI ed 292 false (.slice none 0 0) 1 24:=⟨by kernel_rfl,by kernel_rfl⟩
instance:TI ed 44 false (.slice none 0 0) 1 24:=⟨by kernel_rfl,by kernel_rfl⟩
instance:TI ed 224 false (.slice none 0 0) 1 24:=⟨by kernel_rfl,by kernel_rfl⟩
instance:TI ed 166 false (.map none) 1 8:=⟨by kernel_rfl,by kernel_rfl⟩
instance:TI ed 343 false (.map none) 1 8:=⟨by kernel_rfl,by kernel_rfl⟩
instance:TI ed 158 true (.agg (foV (.slice none 0 0) (.slice none 0 0) ⟨an,0,0,0,0,0,0,0⟩ false).toArray) 26 128:=⟨by kernel_rfl,by kernel_rfl⟩
instance:SL ed 116 90:=⟨underlying116⟩
instance:SL ed 156 62:=⟨underlying156⟩
instance:SL ed 43 3:=⟨underlying43⟩
instance:SL ed 174 177:=⟨underlying174⟩
instance:SL ed 58 35:=⟨underlying58⟩
instance:SL ed 79 4:=⟨underlying79⟩
instance:SL ed 104 112:=⟨underlying104⟩
instance:SL ed 254 258:=⟨underlying254⟩
instance:SL ed 261 75:=⟨underlying261⟩
instance:SL ed 171 174:=⟨underlying171⟩
instance:SL ed 128 5:=⟨underlying128⟩
instance:SL ed 292 52:=⟨underlying292⟩
instance:SL ed 44 43:=⟨underlying44⟩
instance:SL ed 224 220:=⟨underlying224⟩
theorem un{A:Prop}(h:A:=by first|rfl|assumption|exact(by assumption:Hid _).out|(simp;done)):A:=h
theorem oc{A:Prop}(h:A:=by first|exact aE _ _ _ _ _ _ _ _|exact aO _ _ _ _|exact av _ _|decide|(intro u hu;simp at hu;subst hu;rfl)|assumption|(repeat first|exact av _ _|exact fun _ h=>nomatch h|refine List.forall_mem_cons.2 ⟨rfl,?_⟩)):A:=h
theorem ce{A:Prop}(h:A:=by first|rfl|assumption|exact(by assumption:Hid _).out|exact cJ _ (by first|assumption|exact(by assumption:Hid _).out) _):A:=h
theorem nu{A:Prop}(h:A:=by first|exact Nat.le_of_ble_eq_true rfl|(simp;done)|(simp;omega)|omega):A:=h
/-- One operation of a walk over a call's own memory. -/
theorem ma{C G:Prop}(c:C)(h:(Unit→C)→G:=by
  intro c;refine wpList_plain (by rfl) fun K hK=> ?_;first
  |(refine wld rfl rfl ?_;first|exact Gn hs g0 ce (hK _ _ (c ()))|exact Gn hs g1 ce (hK _ _ (c ()))|exact Gn hs g2 ce (hK _ _ (c ()))|exact Gn hs g3 ce (hK _ _ (c ()))|exact Gn hs g4 ce (hK _ _ (c ()))|exact Gn hs g5 ce (hK _ _ (c ()))|exact Gn hs g6 ce (hK _ _ (c ()))|exact Gn hs g7 ce (hK _ _ (c ()))|exact Iy hs g0 un (hK _ _ (c ()))|exact Iy hs g1 un (hK _ _ (c ()))|exact Iy hs g2 un (hK _ _ (c ()))|exact Iy hs g3 un (hK _ _ (c ()))|exact Iy hs g4 un (hK _ _ (c ()))|exact Iy hs g5 un (hK _ _ (c ()))|exact Ix hs g0 ce (hK _ _ (c ()))|exact Ix hs g1 ce (hK _ _ (c ()))|exact Ix hs g2 ce (hK _ _ (c ()))|exact Ix hs g3 ce (hK _ _ (c ()))|exact Ix hs g4 ce (hK _ _ (c ()))|exact Ix hs g5 ce (hK _ _ (c ()))|exact GU hs g0 un un (hK _ _ (c ()))|exact GU hs g1 un un (hK _ _ (c ()))|exact GU hs g2 un un (hK _ _ (c ()))|exact GU hs g3 un un (hK _ _ (c ()))|exact GU hs g4 un un (hK _ _ (c ()))|exact GU hs g5 un un (hK _ _ (c ()))|exact lol hs (by assumption) (hK _ _ (c ())))
  |(refine wst rfl rfl rfl ?_;first|(refine Gf hs g0 s0 nu rfl ?_;intro w hs;refine hK _ _ ?_;revert w hs;exact c ())|(refine Gf hs g1 s1 nu rfl ?_;intro w hs;refine hK _ _ ?_;revert w hs;exact c ())|(refine Gf hs g2 s2 nu rfl ?_;intro w hs;refine hK _ _ ?_;revert w hs;exact c ())|(refine Gf hs g3 s3 nu rfl ?_;intro w hs;refine hK _ _ ?_;revert w hs;exact c ())|(refine Gf hs g4 s4 nu rfl ?_;intro w hs;refine hK _ _ ?_;revert w hs;exact c ())|(refine Gf hs g5 s5 nu rfl ?_;intro w hs;refine hK _ _ ?_;revert w hs;exact c ())|(refine Gf hs g6 s6 nu rfl ?_;intro w hs;refine hK _ _ ?_;revert w hs;exact c ())|(refine Gf hs g7 s7 nu rfl ?_;intro w hs;refine hK _ _ ?_;revert w hs;exact c ())|(refine Gg hs g0 s0 un un oc ?_;intro w hs;refine hK _ _ ?_;revert w hs;exact c ())|(refine Gg hs g1 s1 un un oc ?_;intro w hs;refine hK _ _ ?_;revert w hs;exact c ())|(refine Gg hs g2 s2 un un oc ?_;intro w hs;refine hK _ _ ?_;revert w hs;exact c ())|(refine Gg hs g3 s3 un un oc ?_;intro w hs;refine hK _ _ ?_;revert w hs;exact c ())|(refine Gg hs g4 s4 un un oc ?_;intro w hs;refine hK _ _ ?_;revert w hs;exact c ())|(refine Gg hs g5 s5 un un oc ?_;intro w hs;refine hK _ _ ?_;revert w hs;exact c ())|(refine Gg hs g6 s6 un un oc ?_;intro w hs;refine hK _ _ ?_;revert w hs;exact c ())|(refine Gg hs g7 s7 un un oc ?_;intro w hs;refine hK _ _ ?_;revert w hs;exact c ())|(refine Ev hs g0 s0 un nu oc ?_;intro w hs;refine hK _ _ ?_;revert w hs;exact c ())|(refine Ev hs g1 s1 un nu oc ?_;intro w hs;refine hK _ _ ?_;revert w hs;exact c ())|(refine Ev hs g2 s2 un nu oc ?_;intro w hs;refine hK _ _ ?_;revert w hs;exact c ())|(refine Ev hs g3 s3 un nu oc ?_;intro w hs;refine hK _ _ ?_;revert w hs;exact c ())|(refine Ev hs g4 s4 un nu oc ?_;intro w hs;refine hK _ _ ?_;revert w hs;exact c ())|(refine Ev hs g5 s5 un nu oc ?_;intro w hs;refine hK _ _ ?_;revert w hs;exact c ())|(refine Ev hs g6 s6 un nu oc ?_;intro w hs;refine hK _ _ ?_;revert w hs;exact c ())|(refine Ev hs g7 s7 un nu oc ?_;intro w hs;refine hK _ _ ?_;revert w hs;exact c ()))
  |(refine qnw hs rfl rfl rfl ?_;intro w hs;refine hK _ _ ?_;revert w hs;exact c ())
  |(refine qb1 hs rfl rfl rfl rfl ?_;intro w hs;refine hK _ _ ?_;revert w hs;exact c ())
  |(refine qbx hs rfl rfl rfl rfl ?_;intro w hs;refine hK _ _ ?_;revert w hs;exact c ())
  |(refine qon hs rfl rfl rfl rfl un (by decide) (by decide) ?_;intro w hs;refine hK _ _ ?_;revert w hs;exact c ())
  |fail):G:=h fun _=>c
section
section
variable {P:kn}{ops:Array kd}{rest:List kd}{o:kd}{a:lx}{Q:Exit→lx→hX→Prop}{da dv:eD→Bool}{base:Nat}{A B:hX→Prop}{w0 w:hX}{L:List Bk}{S:List Sl}
theorem Ms.form(h:Ms da dv base A B w0 w L S)(i:Nat){e:eD}{C n:Nat}{v:ej}{b:List ej}(f:S[i]? =some ⟨e,C,v,n,b⟩)(j:0<n):∃g c,v=.slice (some ⟨g,0,none⟩) n c:=by
 obtain⟨g,c,k,-⟩:=aS (h.sl f) j;simp_all
theorem fp(i:Nat){e:eD}{g n l c j C:Nat}{f:List ej}(m:Ms da dv base A B w0 w L S)(p:S[i]? =some ⟨e,C,.slice (some ⟨g,0,none⟩) n c,l,f⟩)(b:eD){x:iP}(q:o.guard=none)(r:o.op=.load b x)(t:a.eval x=.pointer (some ⟨g,j,none⟩)){d:jm}(u:P.underlying b=some d)(z:d.isRow=false){v:ej}(D:f[j]? =some v)(h:kk P ops Q rest (a.put o.dst v) w):kk P ops Q (o::rest) a w:=by
 have k:=(m.sl p).cells (g:=g) rfl j v D;rw[hG,hO]at k;refine wpList_plain q fun K E=> ?_;unfold Oper.wp jg;simp only[r,t,eX,aX w g j b u z k,ek];exact E _ _ h
theorem dO(i:Nat){e:eD}{g n m c k C:Nat}{rows:List (List ej)}(p:Ms da dv base A B w0 w L S)(q:S[i]? =some ⟨e,C,.slice (some ⟨g,0,none⟩) n c,m,rows.flatten⟩)(f:∀r∈rows,r.length=C)(b:eD){x:iP}(t:o.guard=none)(z:o.op=.load b x)(D:a.eval x=.pointer (some ⟨g,k*C,none⟩)){d:jm}(E:P.underlying b=some d)(G:d.isRow=true){row:List ej}(l:rows[k]? =some row)(J:(P.info? b).map (·.size)=some C)(h:kk P ops Q rest (a.put o.dst (.agg row.toArray)) w):kk P ops Q (o::rest) a w:=by
 have H:=f row (gg l);refine wpList_load_mid t b x z g (k*C) D row d (fun j u hj=> ?_) E G (by simp_all) h;have I:j<C:=by rw[←H];exact(hZ.1 hj).1
 have:=(p.sl q).cells (g:=g) rfl (k*C+j) u (by rw[aW f l I];exact hj);rw[hG,hO]at this;omega
theorem iN{K:lx→hX→Prop}(f:Ms da dv base A B w0 w L S)(t:eD){x:iP}(g:o.op=.buildSlice t 1 #[(0,x)]){e:eD}{v z:ej}{row:List ej}{C b:Nat}(j:a.eval x=v)(k:v.cells=row.toArray)(l:P.underlying t=some (.slice e))(m:(P.info? e).map (fun i=>(i.zero,i.size,i.bytes))=some (some z,C,b))(r:row.length=C)(u:0<C)(D:C≤1000)(n:da e=false)(h:∀c,Ms da dv base A B w0 c ((w.heap.size,row,e)::L) S→K (a.put o.dst (.slice (some ⟨w.heap.size,0,none⟩) 1 1)) c):o.wp P a w K Q:=by
 obtain⟨i,p,q,E,G⟩:=info_parts m;unfold Oper.wp jg;simp only[g,eX,jt,jI,kb,j,iH w t e v row k i z l p q (by omega) (by omega) (by omega),ek];exact h _ (f.alloc row e n)
theorem fP{K:lx→hX→Prop}{row:List ej}{k c:Nat}{e l:eD}{C n:Nat}{v:ej}{j:List ej}(b:Ms da dv base A B w0 w L (⟨e,C,v,n,j⟩::S))(m:(k,row,l)∈L)(t:eD){s x:iP}(p:o.op=.call {callee:=.builtin .append,args:= #[s,x],argTypes:= #[t,t]}){z:ej}{bytes:Nat}(q:P.underlying t=some (.slice e))(r:(P.info? e).map (fun i=>(i.zero,i.size,i.bytes))=some (some z,C,bytes))(D:z.cells.size=C)(E:0<C)(aa:row.length=C)(G:a.eval s=v)(H:a.eval x=.slice (some ⟨k,0,none⟩) 1 c)(I:∀u∈row,u.oneCell'=true)(J:n+1≤maxLen)(M:(n+1)*bytes≤140737488355328)(h:∀f g,Ms da dv base A B w0 g L (⟨e,C,f,n+1,j++row⟩::S)→K (a.put o.dst f) g):o.wp P a w K Q:=by
 obtain⟨i,N,O,R,T⟩:=info_parts r;have U:=b.sl (i:=0) rfl
 obtain⟨f,g,V,W,X,_,Y⟩:=run_append_own_at (P:=P) w w0.heap.size t o.type e i z C bytes q N O R T D E v n j U ⟨k,0,none⟩ 1 c row (by omega)
  (by intro ab u Z;rw[hG,hO,ae (b.own _ m).1,fo];exact Z) I J M b.size
 unfold Oper.wp jg;simp only[p,resolve,invoke,builtin,eX,js,ek,jt,jI,kb,G,H,V];exact h f g (b.app W X (Y.imp id fun e=>⟨_,e,Nat.le_refl _⟩))
theorem Ms.updm{c:hX}{b R:List Bk}{e:Bk}{k:Nat}{f new:List ej}{t:eD}(g:Ms da dv base A B w0 w (b++e::(k,f,t)::R) S)(h:Upd k (.cells new.toArray t (0,0)) w c):Ms da dv base A B w0 c (b++e::(k,new,t)::R) S:=by
 have:=g.upd (i:=b.length+1) (cs:=f) (by simp) h;simp_all
theorem Ms.setm{c R:List Bk}{e:Bk}{k:Nat}{b:List ej}{t:eD}(f:Ms da dv base A B w0 w (c++e::(k,b,t)::R) S)(j:Nat)(v:ej):Ms da dv base A B w0 (w.setCell ⟨k,j,none⟩ v) (c++e::(k,b.set j v,t)::R) S:=
 f.updm (ar (f.own (k,b,t) (by simp)).1 v)
theorem Ms.Qy{L' R:List Bk}(b:Ms da dv base A B w0 w (L'++R) S):Ms da dv base A B w0 w R S:=by
 have:=b.drop L'.length;simp_all
theorem ex{K:lx→hX→Prop}{j k:Nat}{c:List ej}{t:eD}(e:Ms da dv base A B w0 w L S)(f:(k,c,t)∈L)(b:eD){x:iP}(g:o.op=.load b x)(i:a.eval x=.pointer (some ⟨k,j,none⟩)){d:jm}(l:P.underlying b=some d)(m:d.isRow=false){v:ej}(n:c[j]? =some v)(h:K (a.put o.dst v) w):o.wp P a w K Q:=by
 have p:w.cell? ⟨k,j,none⟩=some v:=by rw[ae (e.own _ f).1,fo];exact n
 unfold Oper.wp jg;simp only[g,i,eX,aX w k j b l m p,ek];exact h
theorem eL{K:lx→hX→Prop}{k j:Nat}{b:List ej}{t:eD}{v:ej}{L' R:List Bk}{e:Bk}(f:Ms da dv base A B w0 w (L'++e::(k,b,t)::R) S)(c:eD){x y:iP}(l:o.op=.store c x y)(m:a.eval x=.pointer (some ⟨k,j,none⟩))(n:a.eval y=v)(p:(P.info? c).map (·.size)=some 1)(hj:j<b.length)(q:v.oneCell'=true)(h:∀g,Ms da dv base A B w0 g (L'++e::(k,b.set j v,t)::R) S→K (a.put o.dst undef) g):o.wp P a w K Q:=by
 have i:=(f.own (k,b,t) (by simp)).1;unfold Oper.wp jg;simp only[l,m,n,eX,bK w k j c v p q (by rw[ae i,fo,List.getElem?_eq_getElem hj];rfl) (ao i j),ek];exact h _ (f.setm j v)
end
end
section
theorem tn{b:Type}:∀{l:List b} {j:Nat} {x:b},l[j]? =some x→∃r,l.Perm (x::r)∧∀y,(l.set j y).Perm (y::r)
 |[],_,_,h=>by grind
 |a::l,0,x,h=>by
  simp at h;subst h;exact⟨l,.refl _,fun y=> .refl _⟩
 |a::l,j+1,x,h=>by
  obtain⟨r,c,e⟩:=tn (l:=l) (j:=j) (x:=x) (by simp_all);exact⟨a::r,(c.cons a).trans (.swap x a r),fun y=>((e y).cons a).trans (.swap y a r)⟩
section
variable {P:kn}{ops:Array kd}{rest:List kd}{o:kd}{a:lx}{Q:Exit→lx→hX→Prop}{da dv:eD→Bool}{base:Nat}{A B:hX→Prop}{w0 w w':hX}{L L':List Bk}{S S':List Sl}
theorem Ms.perm(h:Ms da dv base A B w0 w L S)(e:L.Perm L')(c:S.Perm S'):Ms da dv base A B w0 w L' S' where
 sub:=h.sub
 own x f:=h.own x (e.mem_iff.2 f)
 srt:=e.pairwise h.srt fun h=>h.symm
 sls s hs:=⟨(h.sls s (c.mem_iff.2 hs)).1,(h.sls s (c.mem_iff.2 hs)).2.1,fun x f=>(h.sls s (c.mem_iff.2 hs)).2.2 x (e.mem_iff.2 f)⟩
 sps:=c.pairwise h.sps fun h k g i=>h k i g
 fr:=h.fr
 le:=h.le
 sa:=h.sa
 sb:=h.sb
 a:=h.a
 b:=h.b
end
end
section
section
variable {Q0:lx→Prop}{P:kn}{ops:Array kd}{rest:List kd}{o:kd}{a:lx}{Q:Exit→lx→hX→Prop}{da dv:eD→Bool}{base:Nat}{A B:hX→Prop}{w0 w w':hX}{L L':List Bk}{S S':List Sl}
theorem Ms.OJ(f:Ms da dv base A B w0 w L S)(i j:Nat){e:eD}{g n h c C:Nat}{b:List ej}{v:ej}(k:S[i]? =some ⟨e,C,.slice (some ⟨g,0,none⟩) n c,h,b⟩)(l:b[j]? =some v):w.cell? ⟨g,j,none⟩=some v:=by
 have m:=(f.sl k).cells (g:=g) rfl j v l;rwa [hG,hO]at m
theorem Ms.RA(m:Ms da dv base A B w0 w L S)(i k:Nat){e:eD}{g n p c C:Nat}{b:List (List ej)}(q:S[i]? =some ⟨e,C,.slice (some ⟨g,0,none⟩) n c,p,b.flatten⟩)(f:∀r∈b,r.length=C){row:List ej}(l:b[k]? =some row):∀(j:Nat) (v:ej),row[j]? =some v→w.cell? ⟨g,k*C+j,none⟩=some v:=fun j v hj=>by
 have t:=f row (gg l);have u:j<C:=by rw[←t];exact(hZ.1 hj).1
 have:=(m.sl q).cells (g:=g) rfl (k*C+j) v (by rw[aW f l u];exact hj);rwa [hG,hO]at this
theorem iF(i:Nat){e:eD}{g n m c k C:Nat}{f:List (List ej)}(p:Ms da dv base A B w0 w L S)(q:S[i]? =some ⟨e,C,.slice (some ⟨g,0,none⟩) n c,m,f.flatten⟩)(j:∀r∈f,r.length=C)(b:eD){x:iP}(t:Region.wanted o (kr ops a.tmps)=true)(u:o.op=.load b x)(z:a.eval x=.pointer (some ⟨g,k*C,none⟩)){d:jm}(D:P.underlying b=some d)(E:d.isRow=true){row:List ej}(l:f[k]? =some row)(G:(P.info? b).map (·.size)=some C)(h:jd P ops w Q0 rest (a.put o.dst (.agg row.toArray))):jd P ops w Q0 (o::rest) a:=by
 unfold jd;rw[if_pos t];unfold Oper.still jg;have H:=j row (gg l);simp only[u,z,eX,jw w g (k*C) b row d (p.RA i k q j l) D E (by simp_all),ek,js,Oper.stillUpon];simp_all
theorem qH(i b:Nat){k:Nat}{c1 c2 c3:List ej}{t:eD}(e:Ms da dv base A B w0 w L S)(f:L[i]? =some (k,c1++(c2++c3),t))(C:c1.length=b)(c:eD){x:iP}(g:Region.wanted o (kr ops a.tmps)=true)(l:o.op=.load c x)(m:a.eval x=.pointer (some ⟨k,b,none⟩)){d:jm}(p:P.underlying c=some d)(q:d.isRow=true){n:Nat}(r:(P.info? c).map (·.size)=some n)(u:c2.length=n)(h:jd P ops w Q0 rest (a.put o.dst (.agg c2.toArray))):jd P ops w Q0 (o::rest) a:=by
 unfold jd;rw[if_pos g];unfold Oper.still jg
 have z:∀(j:Nat) (v:ej),c2[j]? =some v→w.cell? ⟨k,b+j,none⟩=some v:=fun j v hj=>e.cell i (b+j) f (by
  grind)
 simp only[l,m,eX,jw w k b c c2 d z p q (u▸r),ek,js,Oper.stillUpon];simp_all
theorem pA(t:eD)(aT:Array (Nat×iP))(c:Region.wanted o (kr ops a.tmps)=true)(f:o.op=.build t aT)(b:List (Nat×ej))(g:aT.toList.map (fun p=>(p.1,a.eval p.2))=b)(cells:Array ej)(j:P.built t b=some cells)(h:jd P ops w Q0 rest (a.put o.dst (.agg cells))):jd P ops w Q0 (o::rest) a:=by
 have e:(aT.map fun(i,x)=>(i,a.eval x)).toList=b:=by rw[←g,Array.toList_map]
 unfold jd;rw[if_pos c];unfold Oper.still jg;simp only[f,eX,run_build w t _ cells (by rw[e];exact j),ek,Oper.stillUpon];simp_all
theorem Ms.less(h:Ms da dv base A B w0 w L S)(e:L'.Sublist L)(c:S'.Sublist S):Ms da dv base A B w0 w L' S' where
 sub:=h.sub
 own x f:=h.own x (e.subset f)
 srt:=h.srt.sublist e
 sls s hs:=⟨(h.sls s (c.subset hs)).1,(h.sls s (c.subset hs)).2.1,fun x f=>(h.sls s (c.subset hs)).2.2 x (e.subset f)⟩
 sps:=h.sps.sublist c
 fr:=h.fr
 le:=h.le
 sa:=h.sa
 sb:=h.sb
 a:=h.a
 b:=h.b
theorem Ms.Ry{s t u:Sl}(h:Ms da dv base A B w0 w L (s::t::u::S)):Ms da dv base A B w0 w L (u::s::t::S):=
 h.perm (.refl _) ((List.Perm.cons s (List.Perm.swap u t S)).trans (List.Perm.swap u s (t::S)))
theorem Ms.join{j l:eD→Bool}{m:Nat}{n p:hX→Prop}{q:List Bk}(h:Ms da dv base A B w0 w L S)(g:Ms j l m n p w w' q S')(r:Below w.heap.size w w')(u:∀s∈S',da s.e=false):Ms da dv base A B w0 w' L (S'++S):=by
 have b:=h.below r;have i:∀s∈S',∀k,s.v.ownBlock=some k→w.heap.size≤k:=fun s c k f=>by obtain⟨E,-,z⟩:=br (g.sls s c).1 f;exact z
 refine⟨b.sub,b.own,b.srt,fun s c=> ?_,List.pairwise_append.2 ⟨g.sps,b.sps,fun s c t C k f e=> ?_⟩,b.fr,b.le,b.sa,b.sb,b.a,b.b⟩
 · rcases List.mem_append.1 c with c|c
   · exact⟨gF (g.sls s c).1 h.size,u s c,fun x D f=>by have:=i s c _ f;have:=h.lt D;omega⟩
   · exact b.sls s c
 · have:=i s c k f
   have:=(h.slt C e).2;omega
theorem qG{K:lx→hX→Prop}(f:Ms da dv base A B w0 w L S)(t:eD)(g:o.op=.alloc t)(z:ej)(b:List ej)(e:(P.info? t).map (·.zero)=some (some z))(j:z.cells=b.toArray)(k:da t=false)(h:∀w',Ms da dv base A B w0 w' ((w.heap.size,b,t)::L) S→K (a.put o.dst (.pointer (some ⟨w.heap.size,0,none⟩))) w'):o.wp P a w K Q:=by
 cases c:P.info? t with
 |none=>simp[c]at e
 |some i=>
  have l:i.zero=some z:=by simpa[c]using e
  unfold Oper.wp jg;have m:=h _ (f.alloc b t k);simp[g,Instr.alloc,zeroValue,typeInfo,c,l,newVar,j,Result.andThen];exact m
end
end
end Go.Proofs.YtlkpfnjdbgeifaaGreat
