import Derived.Test.YtlkpfnjdbgeifaaGreatFRegion
import Derived.Test.YtlkpfnjdbgeifaaGreatFMem
import Derived.Test.YtlkpfnjdbgeifaaGreatFR
set_option linter.unusedVariables false
open Go.Region renaming wanted→ed
open List renaming map_cons→ej,contains_cons→fj,length→iP
open Bool renaming and_eq_true→ek,or_eq_false_iff→eX,false_eq_true→fo
open Go renaming Value→eD,yielded→gg,World→hG,Oper→hO,Act→hX,Tmp→hZ,Operand→jd
namespace Go.Proofs.YtlkpfnjdbgeifaaGreat
open Go.RowKit
section
def Ln(L:Nat→Bool):Nat→List (Option hZ×eD)→hX→hX
 |_,[],a=>a
 |k,p::r,a=>Ln L (k+1) r (if L k then a.put p.1 p.2 else a)
def Kz:List (Option hZ)→Bool
 |[]=>true
 |d::r=>(d==none || !r.contains d)&&Kz r
theorem nM(L:Nat→Bool):∀(k:Nat) (vs:List (Option hZ×eD)) (a:hX) (d:Option hZ) (v:eD),(d==none || !(vs.map (·.1)).contains d)=true→Ln L k vs (a.put d v)=(Ln L k vs a).put d v
 |_,[],_,_,_,_=>rfl
 |k,p::r,a,d,v,h=>by
  have hr:(d==none || !(r.map (·.1)).contains d)=true:=by
   simp only[ej,fj,Bool.or_eq_true,Bool.not_eq_true',eX]at h⊢;rcases h with h|h
   · exact .inl h
   · exact .inr h.2
  unfold Ln;cases hL:L k with
  |false=>simpa using nM L (k+1) r a d v hr
  |true=>
   have hc:(a.put d v).put p.1 p.2=(a.put p.1 p.2).put d v:=Act.put_comm a v p.2 fun e he=>by
    grind
   simp only[if_true,hc];exact nM L (k+1) r _ d v hr
theorem nN{L b:Nat→Bool}:∀{k:Nat} {c:List (Option hZ×eD)} {a:hX},(∀j,k≤j→L j=b j)→Ln L k c a=Ln b k c a
 |_,[],_,_=>rfl
 |k,p::r,a,h=>by
  unfold Ln;rw[h k (Nat.le_refl _)];exact nN fun j hj=>h j (by omega)
theorem xu{L:Nat→Bool}:∀{k i:Nat} {vs:List (Option hZ×eD)} {a:hX} {d:Option hZ} {v:eD},i<vs.length→(vs.map (·.1))[i]? =some d→Kz (vs.map (·.1))=true→L (k+i)=false→
 (Ln L k vs a).put d v=Ln (JW L (k+i)) k (vs.set i (d,v)) a
 |k,0,p::r,a,d,v,_,c,b,e=>by
  simp at c;subst c;rw[Nat.add_zero]at e⊢;simp only[ej,Kz,ek]at b;rw[List.set_cons_zero];unfold Ln;have f:JW L k k=true:=by simp[JW]
  rw[e,f];simp only[if_true,fo,if_false];rw[←nM L (k+1) r a p.1 v b.1];exact nN fun j hj=>by simp[JW];omega
 |k,i+1,p::r,a,d,v,g,c,b,e=>by
  simp only[ej,Kz,ek]at b;rw[List.set_cons_succ];unfold Ln;have f:JW L (k+(i+1)) k=L k:=by simp[JW]
  rw[f];have:=xu (L:=L) (k:=k+1) (i:=i) (vs:=r) (a:=if L k then a.put p.1 p.2 else a) (d:=d) (v:=v) (by simp_all) (by simp_all) b.2 (by grind);grind
theorem tf{L:Nat→Bool}:∀{k:Nat} {b:List (Option hZ×eD)} {a:hX},(∀j,k≤j→j<k+b.length→L j=true)→Ln L k b a=b.foldl (fun a p=>a.put p.1 p.2) a
 |_,[],_,_=>rfl
 |k,p::r,a,h=>by
  unfold Ln;rw[h k (Nat.le_refl _) (by simp),List.foldl_cons];exact tf fun j c e=>h j (by omega) (by grind)
theorem pX{L:Nat→Bool}:∀{k:Nat} {b:List (Option hZ×eD)} {a:hX},(∀j,L j=false)→Ln L k b a=a
 |_,[],_,_=>rfl
 |k,p::r,a,h=>by
  unfold Ln;rw[h k];exact pX h
theorem cL{L:Nat→Bool}{t:hZ}:∀{k:Nat} {b:List (Option hZ×eD)} {a:hX},(b.map (·.1)).contains (some t)=false→(Ln L k b a).eval (.tmp t)=a.eval (.tmp t)
 |_,[],_,_=>rfl
 |k,p::r,a,h=>by
  simp only[ej,fj,eX]at h;unfold Ln;rw[cL h.2];split
  · exact Act.eval_put fun d c e=>by simp_all
  · rfl
theorem aY{L:Nat→Bool}{t:hZ}{v:eD}:∀{k i:Nat} {c:List (Option hZ×eD)} {a:hX},c[i]? =some (some t,v)→L (k+i)=true→t<a.tmps.size→Kz (c.map (·.1))=true→(Ln L k c a).eval (.tmp t)=v
 |_,i,[],_,h,_,_,_=>by grind
 |k,0,p::r,a,h,e,f,b=>by
  simp at h;subst h;simp only[ej,Kz,ek]at b;unfold Ln;rw[Nat.add_zero]at e;rw[e,cL (by simp_all)];simp[Act.eval,Act.put,f]
 |k,i+1,p::r,a,h,e,f,b=>by
  simp only[ej,Kz,ek]at b;unfold Ln;refine aY (i:=i) (by simp_all) (by grind) ?_ b.2;split
  · cases p.1<;>simp[Act.put,f]
  omega
section
variable {P:Program}{o:hO}{a:hX}{w:hG}{K:hX→hG→Prop}{Q:Exit→hX→hG→Prop}
theorem aP{R:hX→hG→Prop}(h:∀K,Hid (∀a w,R a w→K a w)→o.wp P a w K Q):o.wp P a w R Q:=h R (qZ fun _ _ h=>h)
theorem cZ(x:jd)(b:o.op=.move x∨o.op=.assign x)(v:eD)(c:a.eval x=v)(h:K (a.put o.dst v) w):o.wp P a w K Q:=by
 unfold Oper.wp execOp;rcases b with b|b<;>(simp only[b,Sem.run_pure,c];exact h)
theorem lG(x:jd)(i:Nat)(c:o.op=.extract x i)(b:Array eD)(e:a.eval x=.tuple b)(v:eD)(f:b[i]? =some v)(h:K (a.put o.dst v) w):o.wp P a w K Q:=by
 unfold Oper.wp execOp;simp only[c,e,Instr.extract,f,Sem.run_bind,Sem.run_pure,Result.andThen_ok];exact h
theorem yi(e:TypeId)(f:o.op=.alloc e)(z:eD)(s b:Nat)(c:(P.info? e).map (fun i=>(i.zero,i.size,i.bytes))=some (some z,s,b))(h:K (a.put o.dst (.pointer (some ⟨w.heap.size,0,none⟩))) (w.alloc (.cells z.cells e))):o.wp P a w K Q:=by
 obtain⟨i,c,g,-,-⟩:=info_parts c;unfold Oper.wp execOp;have j:(zeroValue e).run P w=.ok z w:=by simp[zeroValue,typeInfo,c,g]
 simp[f,Instr.alloc,j,newVar,newRow,Sem.run_bind];exact h
theorem lE(b:TypeId)(x y:jd)(f:o.op=.store b x y)(g:Nat)(new:List eD)(i:a.eval x=.pointer (some ⟨g,0,none⟩))(j:a.eval y=.agg new.toArray)(t:TypeId)(old:Array eD)(c:w.heap[g]? =some (.cells old t (0,0)))(l:(P.info? b).map (·.size)=some new.length)(hold:old.size=new.length)(k:∀v∈new,v.oneCell'=true)(h:∀e,Upd g (.cells new.toArray t (0,0)) w e→K (a.put o.dst undef) e):o.wp P a w K Q:=
 wp_store_row b x y f g new.toArray i j t old c (by omega) (by omega) (all_oneCell_toArray k) (h _ (iQ c))
end
end
section
theorem sz{o:hO}{y:Nat→Option Bool}(h:o.guard=none):ed o y=true:=by simp[ed,h]
theorem ni{c:Array hO}{a:hX}{g t:Nat}{b:Bool}(e:(c[g]?).bind (·.dst)=some t)(h:a.eval (.tmp t)=.bool b):gg c a.tmps g=some b:=by
 unfold gg;rw[e];simp only[Act.eval,Option.bind_some]at h⊢;cases f:a.tmps[t]? with
 |none=>simp[f]at h;cases h
 |some v=>
  simp_all
theorem uN{c:Array hO}{o:hO}{a:hX}{g t:Nat}{b:Bool}(h:o.guard=some (g,b))(e:(c[g]?).bind (·.dst)=some t)(f:a.eval (.tmp t)=.bool b):ed o (gg c a.tmps)=true:=by
 simp[ed,h,ni e f]
theorem yl{c:Array hO}{o:hO}{a:hX}{g t:Nat}{b:Bool}(h:o.guard=some (g,b))(e:(c[g]?).bind (·.dst)=some t)(f:a.eval (.tmp t)=.bool (!b)):ed o (gg c a.tmps)=false:=by
 simp[ed,h,ni e f]
theorem dq{P:Program}{b:Array hO}{Q:Exit→hX→hG→Prop}{id:Nat}{g:hX}{w:hG}(D:P.follows .mixedOrders=true)(E:Qs b=true){X:Type}(c:X→List (Option hZ×eD))(J:X→(Nat→Bool)→hG→Prop)(n:∀x,(c x).map (·.1)=b.toList.map (·.dst))(T:Kz (b.toList.map (·.dst))=true)(G:∃x,∀L:Nat→Bool,(∀i,L i=false)→J x L w.drew)(H:NR (fun i o=>∀(x:X) (L:Nat→Bool) (w:hG),L i=false→(∀e∈o.after.toList,Region.binds .any e=true→L e.on=true)→J x L w→∀a,a=Ln L 0 (c x) g→
  (ed o (gg b a.tmps)=true∧o.wp P a w (fun q r=>∃f v,q=a.put o.dst v∧c f=(c x).set i (o.dst,v)∧J f (JW L i) r) Q)∨
  (ed o (gg b a.tmps)=false∧∃f,c f=(c x).set i (o.dst,undef)∧J f (JW L i) w)) 0 b.toList)(I:∀x (L:Nat→Bool) (w:hG),(∀i,i<b.size→L i=true)→J x L w→Q .normal ((c x).foldl (fun a p=>a.put p.1 p.2) g) w):(Code.region id b true).wp P Q g w:=by
 refine wp_region_any D ?_;refine yj (fun L a w=>∃x,a=Ln L 0 (c x) g∧J x L w) (wu E) (fun i o t L a w K M l=> ?_) (fun L a w N l=> ?_) b.size (Array.replicate b.size false) g _ (by simp) (Nat.le_trans List.countP_le_length (by simp)) ?_
 · obtain⟨x,rfl,u⟩:=l
   have z:b.toList[i]? =some o:=by simpa using t
   have O:(c x).length=b.toList.length:=by have:=congrArg iP (n x);simpa using this
   have U:i<b.toList.length:=(List.getElem?_eq_some_iff.1 z).1
   have done:∀(f:X) (v:eD),c f=(c x).set i (o.dst,v)→(Ln L 0 (c x) g).put o.dst v=Ln (JW L i) 0 (c f) g:=by
    intro f v A;rw[A];have:=xu (L:=L) (k:=0) (i:=i) (vs:=c x) (a:=g) (d:=o.dst) (v:=v) (by omega) (by simp_all) (by simp_all) (by simp_all);rw[Nat.zero_add]at this;exact this
   have B:=H.get (i:=i) (o:=o) z;rw[Nat.zero_add]at B;unfold wpOp;rw[t];rcases B x L w K (fun e I R=>M e (by simp_all) R) u _ rfl with⟨m,h⟩|⟨m,f,A,V⟩
   · simp only[m,if_true]
     refine .inl (Oper.wp_mono (fun q r W=> ?_) h);grind
   · simp only[m,fo,if_false]
     grind
 · obtain⟨x,rfl,u⟩:=l
   have O:(c x).length=b.size:=by have:=congrArg iP (n x);simpa using this
   rw[tf fun j _ Y=>N j (by omega)];grind
 · obtain⟨x,S⟩:=G
   have C:∀i,Nh (Array.replicate b.size false) i=false:=by
    intro i;unfold Nh;by_cases h:i<b.size
    · simp[h]
    · simp[h]
   exact⟨x,(pX C).symm,S _ C⟩
end
section
theorem aZ(i:Nat){L:Nat→Bool}{t:Tmp}{v:Value}{vs:List (Option Tmp×Value)}{a a0:Act}(h1:a=Ln L 0 vs a0:=by exact ha)(h2:vs[i]? =some (some t,v):=by rfl)(h3:L i=true:=by simp[hpre])(h4:t<a0.tmps.size:=by first|exact Nat.le_of_ble_eq_true rfl|simp)(h5:Kz (vs.map (·.1))=true:=by kernel_rfl):a.eval (.tmp t)=v:=by
 rw[h1];exact aY (i:=i) h2 (by rw[Nat.zero_add];exact h3) h4 h5
theorem I1{A:Prop}(h:A:=by rw[ha,cL rfl];rfl):A:=h
theorem Wn{o:Oper}{y:Nat→Option Bool}{A B:Prop}(x:A)(h:o.guard=none:=by rfl):(Region.wanted o y=true∧A)∨B:=.inl ⟨sz h,x⟩
theorem Wy{ops:Array Oper}{o:Oper}{L:Nat→Bool}{a a0:Act}{vs:List (Option Tmp×Value)}{g t:Nat}{b:Bool}{A B:Prop}(x:A)(h:o.guard=some (g,b):=by rfl)(h':(ops[g]?).bind (·.dst)=some t:=by rfl)(h1:a=Ln L 0 vs a0:=by exact ha)(h2:vs[g]? =some (some t,.bool b):=by rfl)(h3:L g=true:=by simp[hpre])(h4:t<a0.tmps.size:=by first|exact Nat.le_of_ble_eq_true rfl|simp)(h5:Kz (vs.map (·.1))=true:=by kernel_rfl):(Region.wanted o (yielded ops a.tmps)=true∧A)∨B:=.inl ⟨uN h h' (aZ g h1 h2 h3 h4 h5),x⟩
theorem I3{ops:Array Oper}{o:Oper}{L:Nat→Bool}{a a0:Act}{vs:List (Option Tmp×Value)}{g t:Nat}{b:Bool}{A B:Prop}(x:B)(h:o.guard=some (g,b):=by rfl)(h':(ops[g]?).bind (·.dst)=some t:=by rfl)(h1:a=Ln L 0 vs a0:=by exact ha)(h2:vs[g]? =some (some t,.bool (!b)):=by rfl)(h3:L g=true:=by simp[hpre])(h4:t<a0.tmps.size:=by first|exact Nat.le_of_ble_eq_true rfl|simp)(h5:Kz (vs.map (·.1))=true:=by kernel_rfl):(Region.wanted o (yielded ops a.tmps)=true∧A)∨(Region.wanted o (yielded ops a.tmps)=false∧B):=.inr ⟨yl h h' (aZ g h1 h2 h3 h4 h5),x⟩
theorem pu1{A:Prop}(h:A:=by
 clear ha;refine aP fun K HK=> ?_;unfold Oper.wp;simp only[execOp,x1];go_simp;first|exact HK.out _ _ ⟨ux,_,rfl,rfl,by first|exact hJ|exact hJ.JW rfl|exact hJ.JW rfl rfl|exact hJ.JW rfl rfl rfl|exact hJ.JW rfl rfl rfl rfl|exact hJ.JW rfl rfl rfl rfl rfl|exact hJ.JW rfl rfl rfl rfl rfl rfl|exact hJ.JW rfl rfl rfl rfl rfl rfl rfl|simpa[JW]using hJ⟩):A:=h
theorem pu2{A:Prop}(h:A:=by
 clear ha;refine aP fun K HK=> ?_;unfold Oper.wp;simp only[execOp,x1,x2];go_simp;first|exact HK.out _ _ ⟨ux,_,rfl,rfl,by first|exact hJ|exact hJ.JW rfl|exact hJ.JW rfl rfl|exact hJ.JW rfl rfl rfl|exact hJ.JW rfl rfl rfl rfl|exact hJ.JW rfl rfl rfl rfl rfl|exact hJ.JW rfl rfl rfl rfl rfl rfl|exact hJ.JW rfl rfl rfl rfl rfl rfl rfl|simpa[JW]using hJ⟩):A:=h
theorem Jd{A:Prop}(h:A:=by
 exact cZ _ (by first|exact .inl rfl|exact .inr rfl) _ x1 ⟨ux,_,rfl,rfl,by first|exact hJ|exact hJ.JW rfl|exact hJ.JW rfl rfl|exact hJ.JW rfl rfl rfl|exact hJ.JW rfl rfl rfl rfl|exact hJ.JW rfl rfl rfl rfl rfl|exact hJ.JW rfl rfl rfl rfl rfl rfl|exact hJ.JW rfl rfl rfl rfl rfl rfl rfl|simpa[JW]using hJ⟩):A:=h
theorem pc1{A C:Prop}(c:C)(h:C→A:=by
 intro c;refine aP fun K HK=> ?_;unfold Oper.wp;simp only[execOp,resolve,List.map_toArray,List.map_cons,List.map_nil,x1];go_simp;revert K HK;exact c):A:=h c
theorem pc2{A C:Prop}(c:C)(h:C→A:=by
 intro c;refine aP fun K HK=> ?_;unfold Oper.wp;simp only[execOp,resolve,List.map_toArray,List.map_cons,List.map_nil,x1,x2];go_simp;revert K HK;exact c):A:=h c
theorem pc3{A C:Prop}(c:C)(h:C→A:=by
 intro c;refine aP fun K HK=> ?_;unfold Oper.wp;simp only[execOp,resolve,List.map_toArray,List.map_cons,List.map_nil,x1,x2,x3];go_simp;revert K HK;exact c):A:=h c
theorem pc4{A C:Prop}(c:C)(h:C→A:=by
 intro c;refine aP fun K HK=> ?_;unfold Oper.wp;simp only[execOp,resolve,List.map_toArray,List.map_cons,List.map_nil,x1,x2,x3,x4];go_simp;revert K HK;exact c):A:=h c
theorem pc5{A C:Prop}(c:C)(h:C→A:=by
 intro c;refine aP fun K HK=> ?_;unfold Oper.wp;simp only[execOp,resolve,List.map_toArray,List.map_cons,List.map_nil,x1,x2,x3,x4,x5];go_simp;revert K HK;exact c):A:=h c
end
def evP(L:Nat→Bool)(t:hZ)(d:eD):Nat→List (Option hZ×eD)→eD
  |_,[]=>d
  |k,p::r=>if p.1=some t then(if L k=true then p.2 else d)else evP L t d (k+1) r
theorem uj{L:Nat→Bool}{t:hZ}:∀{k:Nat} {c:List (Option hZ×eD)} {a:hX},Kz (c.map (·.1))=true→(∀p∈c,p.1=some t→t<a.tmps.size)→(Ln L k c a).eval (.tmp t)=evP L t (a.eval (.tmp t)) k c
  |_,[],_,_,_=>rfl
  |k,p::r,a,b,g=>by
    simp only[ej,Kz,ek]at b;unfold Ln evP;by_cases e:p.1=some t
    · have i:=g p (by simp) e
      rw[if_pos e,cL (by rw[e]at b;simpa using b.1),e];split
      · rename_i h;simp[Act.eval,Act.put,i]
      · rfl
    · rw[if_neg e,uj b.2]
      · congr 1
        split
        · exact Act.eval_put fun d b f=>e (by injection f with f;subst f;exact b)
        · rfl
      · intro q j l
        have:=g q (by simp[j]) l;split
        · cases p.1<;>simpa[Act.put]using this
        · exact this
theorem evQ{L:Nat→Bool}{t:Tmp}{vs:List (Option Tmp×Value)}{a a0:Act}(h1:a=Ln L 0 vs a0)(hz:(vs.all fun p=>match p.1 with|some t=>Nat.blt t a0.tmps.size|none=>true)=true)(hd:Kz (vs.map (·.1))=true:=by kernel_rfl):a.eval (.tmp t)=evP L t (a0.eval (.tmp t)) 0 vs:=by
  rw[h1];refine uj hd fun p hp e=> ?_;have:=List.all_eq_true.1 hz p hp;rw[e]at this;exact Nat.le_of_ble_eq_true this
theorem NR.imp{R T:Nat→hO→Prop}(h:∀i o,R i o→T i o):∀{k:Nat} {b:List hO},NR R k b→NR T k b
  |_,[],_=>trivial
  |_,_::_,c=>⟨h _ _ c.1,c.2.imp h⟩
/-- The law for drawn regions: what each slot has stands by itself; the frame is hidden. -/
theorem dz{P:Program}{ops:Array Oper}{Q:Exit→Act→World→Prop}{id:Nat}{a0:Act}{w:World}{X:Type}(VS:X→List (Option Tmp×Value))(J:X→(Nat→Bool)→World→Prop)(h0:∃x,∀L:Nat→Bool,(∀i,L i=false)→J x L w.drew)(hs:NR (fun i o=>∀(x:X) (L:Nat→Bool) (w:World),L i=false→(∀e∈o.after.toList,Region.binds .any e=true→L e.on=true)→Hid (J x L w)→∀a,Hid (a=Ln L 0 (VS x) a0)→(∀t,a.eval (.tmp t)=evP L t (a0.eval (.tmp t)) 0 (VS x))→
      (Region.wanted o (yielded ops a.tmps)=true∧o.wp P a w (fun a' w'=>∃x' v,a'=a.put o.dst v∧VS x'=(VS x).set i (o.dst,v)∧J x' (JW L i) w') Q)∨
      (Region.wanted o (yielded ops a.tmps)=false∧∃x',VS x'=(VS x).set i (o.dst,undef)∧J x' (JW L i) w)) 0 ops.toList)(he:∀x (L:Nat→Bool) (w:World),(∀i,i<ops.size→L i=true)→J x L w→Q .normal ((VS x).foldl (fun a p=>a.put p.1 p.2) a0) w)(hdst:∀x,(VS x).map (·.1)=ops.toList.map (·.dst):=by exact fun _=>rfl)(hm:P.follows .mixedOrders=true:=by kernel_rfl)(hd:Qs ops=true:=by kernel_rfl)(hdis:Kz (ops.toList.map (·.dst))=true:=by kernel_rfl)(hz:((ops.toList.map (·.dst)).all fun p=>match p with|some t=>Nat.blt t a0.tmps.size|none=>true)=true:=by first|kernel_rfl|rfl):(Code.region id ops true).wp P Q a0 w:=
  dq hm hd VS J hdst hdis h0 (hs.imp fun i o h x L w hL hp hJ a ha=>h x L w hL hp hJ a ha fun t=>evQ ha (by
    have:=hz;rw[←hdst x,List.all_map]at this;exact this) (by rw[hdst];exact hdis)) he
/-- What a slot has. -/
theorem ev{A:Prop}(h:A:=by
  rw[he];first|rfl|(simp only[evP,Option.some.injEq,reduceIte,reduceCtorEq,Nat.reduceEqDiff,hpre];done)|(simp only[evP,Option.some.injEq,reduceIte,reduceCtorEq,Nat.reduceEqDiff,hpre];rfl)|(simp only[evP,Option.some.injEq,reduceIte,reduceCtorEq,Nat.reduceEqDiff];rfl)):A:=h
/-- What held ahead of an operation that leaves memory alone holds behind it. -/
theorem hj{A:Prop}(h:A:=by
  first|exact hJ|exact hJ.JW rfl|exact hJ.JW rfl rfl|exact hJ.JW rfl rfl rfl|exact hJ.JW rfl rfl rfl rfl|exact hJ.JW rfl rfl rfl rfl rfl|exact hJ.JW rfl rfl rfl rfl rfl rfl|exact hJ.JW rfl rfl rfl rfl rfl rfl rfl|exact hJ.same rfl rfl rfl id rfl rfl|simpa[JW]using hJ):A:=h
/-- An operation that leaves memory alone. -/
theorem cH{A:Prop}(h:A:=by
  first|refine Wn ?_|refine Wy ?_
  refine aP fun K HK=> ?_;unfold Oper.wp;first|simp only[execOp,resolve,List.map_toArray,List.map_cons,List.map_nil,he,evP,Option.some.injEq,reduceIte,reduceCtorEq,Nat.reduceEqDiff,hpre]|simp only[execOp,resolve,List.map_toArray,List.map_cons,List.map_nil,he,evP,Option.some.injEq,reduceIte,reduceCtorEq,Nat.reduceEqDiff]
  clear he;go_simp;have hJ:=hJ.out;exact HK.out _ _ ⟨ux,_,rfl,rfl,hj⟩):A:=h
/-- The same, from the law's own goal. -/
theorem rr{A:Prop}(h:A:=by intro ux L w' hL hpre hJ a ha he;(try simp[Region.binds]at hpre);exact cH):A:=h
/-- An operation that turns memory. -/
theorem dM{A C:Prop}(c:C)(h:C→A:=by
  intro c;first|refine Wn ?_|refine Wy ?_
  refine aP fun K HK=> ?_;unfold Oper.wp;first|simp only[execOp,resolve,List.map_toArray,List.map_cons,List.map_nil,he,evP,Option.some.injEq,reduceIte,reduceCtorEq,Nat.reduceEqDiff,hpre]|simp only[execOp,resolve,List.map_toArray,List.map_cons,List.map_nil,he,evP,Option.some.injEq,reduceIte,reduceCtorEq,Nat.reduceEqDiff]
  go_simp;revert K HK
  exact c):A:=h c
end Go.Proofs.YtlkpfnjdbgeifaaGreat
