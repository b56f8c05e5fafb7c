import Derived.Lib.SlicesCompact
import Derived.Test.YtlkpfnjdbgeifaaGreatFFlt
set_option linter.unusedSimpArgs false
set_option linter.unusedVariables false
set_option maxRecDepth 10000
open List renaming range→ed,getElem?_eq_getElem→ej,getElem?_eq_some_iff→ek,mem_filter→eD,replicate→fj,mem_range→gg,range_succ→hG,getElem?_eraseIdx→hO,filter_append→hX,mem_of_getElem?→jg,length_append→jm,filter_congr→js,replicate_succ→jt,exists_mem_of_ne_nil→jI,filterMap_eq_nil_iff→kb,getElem?_map→kd,foldl_append→kk,filter_eq_nil_iff→kn,filter_eq_self→l5,length_range→nr,ext_getElem?→o4,length_cons→pn,all_eq_true→ps,getElem_mem→px,nil_append→py,mem_cons→qc,mem_map→sT
open Int renaming eq_ofNat_of_zero_le→eX,toNat_natCast→hZ,toNat_of_nonneg→l4,le_refl→tr
open Bool renaming and_eq_true→fo,false_eq_true→l8,true_and→qa
open Go.Lib renaming compact→iP
open Nat renaming le_refl→jd,lt_of_lt_of_le→jw,le_succ→kr,zero_le→lx,mul_le_mul_left→ly,mul_le_mul→pz,le_trans→r2,sub_zero→r4,mul_add→tl,mul_one→tm
namespace Go.Proofs.YtlkpfnjdbgeifaaGreat
open Go.RowKit
namespace dev
open JT (Nd)
open tal (Ty)
open tab (Tb At6)
open pick (LJ Lx M8 LI Ly LO LQ)
def zE:En:=⟨0,0,0,an⟩
def fits(s:Sh)(a:Ad):Bool:=s.b==a.b&&(s.o==a.p&&(hasB s.m a.d&&((Ka s.m s.b s.o==a.d)==(s.k==2))))
def look(N:Nd)(a:Ad):Sh×Int:=
 if N.K9 a=0 then(if NV (N.KC a)&&fits (Nf (N.KC a)) a then(Nf (N.KC a),1)else(zS,3))
 else if N.K9 a=5 then(zS,2)
 else if N.K9 a=8∨N.K9 a=9∨N.K9 a=3∨N.K9 a=12 then(zS,4)else(zS,3)
def Lw(N:Nd)(b r:Int)(k:Nat):List (Sh×Int):=(ed k).map fun d:Nat=>look N ⟨d,b,r⟩
def Ps(x:Int):List Int→List Int
 |[]=> [x]
 |y::l=>if x≤y then x::y::l else y::Ps x l
def MF:List Int→List Int
 |[]=> []
 |x::l=>Ps x (MF l)
def Ma(l:List (Sh×Int)):List Int:=l.filterMap fun x=>if x.2=1 then some x.1.m else none
def Nx(N:Nd)(b r:Int):List Int:=iP (MF (Ma (Lw N b r N.D)))
structure Fo where
 (sl:List (Sh×Bool)) (par:Sh) (whole:Bool)
def one(N:Nd)(b r m d:Int):Sh×Bool:=((look N ⟨d,b,r⟩).1,(look N ⟨d,b,r⟩).2==1&&(look N ⟨d,b,r⟩).1.m==m)
def ME(N:Nd)(b r m:Int)(k:Nat):List (Sh×Bool):=(ed k).map fun s:Nat=>one N b r m (Le m b r s)
def Lf(N:Nd)(b r m:Int):Fo:=⟨ME N b r m (JV m).toNat,(one N b r m (Ka m b r)).1,(one N b r m (Ka m b r)).2⟩
def Mf(s:Sh):En:=⟨s.l,s.s,s.r,s.d⟩
def others:List (Sh×Bool)→Nat→Nat→Option (List Sh)
 |[],_,_=>some []
 |x::l,i,slot=>if i=slot then others l (i+1) slot else if x.2 then(others l (i+1) slot).map (x.1::·)else none
def Fo.MK(f:Fo)(slot:Nat):Option En:=
 match others f.sl 0 slot with
 |none=>none
 |some l=>if f.whole&&MD f.par l then some (OP f.par l)else none
def Km(N:Nd)(b r s m:Int):En×Int:=
 if Le m b r s<0∨N.inG ⟨0,b,r⟩=false then(zE,3)
 else if N.off then(zE,9)
 else match(Lf N b r m).sl[s.toNat]? with
  |some (x,true)=>(Mf x,0)
  |_=>match(Lf N b r m).MK s.toNat with
   |some e=>(e,0)
   |none=>(zE,10)
structure Fd where
 (e:En) (b r s m:Int) (whole mended:Bool)
def KV(f:Fo)(b r m:Int)(slot:Nat):Option Fd:=
 match f.sl[slot]? with
 |none=>none
 |some x=>match(if x.2 then some (Mf x.1)else f.MK slot)with
  |none=>none
  |some e=>if e.r=3 then none else some ⟨e,b,r,slot,m,f.whole,!x.2⟩
def allM(N:Nd)(b r m:Int):List Fd:=(ed (Lf N b r m).sl.length).filterMap (KV (Lf N b r m) b r m)
def KK(N:Nd)(b r:Int):List Fd:=(Nx N b r).flatMap (allM N b r)
def Ls(b r m:Int)(l:List En):List (Int×List Nat):=
 (l.zipIdx.map fun x=>(Le m b r (x.2:Int),Om x.1.d x.1.r x.1.l x.1.s 1 b r m))++
  [(Ka m b r,Om (KY l b r m).d (KY l b r m).r (KY l b r m).l (KY l b r m).s 2 b r m)]
def Me(b r:Int):Nd→Int→List (Int×List Nat)→Nd×Int×Int
 |N,f,[]=>(N,f,if f=0 then 0 else 7)
 |N,f,x::l=>
  if N.Kv ⟨x.1,b,r⟩ x.2=0 then Me b r (N.Kq ⟨x.1,b,r⟩ x.2) f l
  else if N.Kv ⟨x.1,b,r⟩ x.2=9 then(N.Kq ⟨x.1,b,r⟩ x.2,f,9)
  else Me b r (N.Kq ⟨x.1,b,r⟩ x.2) (Mz f x.1) l
def Kl(N:Nd)(b r m:Int)(l:List En):Nd×Int×Int:=
 if No l b r m then Me b r N 0 (Ls b r m l)else(N,0,1)
structure Pn where
 (op row:Int) (mask:Int) (next:Int)
structure Dv where
 (N:Nd) (Y:Ty) (T:Tb) (p:Pn)
def Dv.left(D:Dv):Bool:=decide (0≤D.p.op)&&(decide (D.p.row<D.N.P)&&decide (0<JV D.p.mask))
def Dv.KO(D:Dv):Int:=Ly (LO D.Y) (LJ D.Y D.T D.p.op)
def Dv.Ld(D:Dv):Int:=if D.left then JV D.p.mask else JV (D.Y.mask D.KO:Int)
def Dv.opens(D:Dv):Dv×Int:=
 if D.KO<0 then(D,11)
 else({D with Y:=D.Y.clean D.KO false,p:={D.p with op:=D.KO,row:=0,mask:=((D.Y.clean D.KO false).mask D.KO:Int)}},0)
def M6(N:Nd)(b dies:Int)(k:Nat)(Y:Ty):Ty:=
 (ed k).foldl (fun Y (d:Nat)=>if hasB dies d then(if N.dies d then Y.Mu d else Y.Ov d b)else Y) Y
def Mh(dies:Int)(k:Nat)(m:Int):Int:=(ed k).foldl (fun m (d:Nat)=>if hasB dies d then KW m d else m) m
def Dv.OQ(D:Dv)(dies:Int):Dv:={D with Y:=M6 D.N D.p.op dies D.N.D D.Y,p:={D.p with mask:=Mh dies D.N.D D.p.mask}}
def pad:En:=⟨0,0,3,an⟩
def LL(l:List En)(next:Int)(k:Nat):List En:=
 (ed k).map fun i=>match l[i]? with
  |some e=>{e with s:=next+i}
  |none=>pad
def Ln(T:Tb)(b r m:Int):List (En×Nat)→Tb
 |[]=>T
 |x::l=>Ln (T.MH x.1.l x.1.s x.1.r b r (x.2:Int) m) b r m l
def Dv.write:Nat→Dv→List En→Option (Dv×Int×Int)
 |0,_,_=>none
 |k+1,D,l=>
  if l=[]then some (D,0,0)else
  let o:=if D.left then(D,0)else D.opens
  if o.2≠0 then some (o.1,0,o.2)else
  let E:=o.1
  let sl:=(JV E.p.mask).toNat
  let n:=min l.length sl
  if E.p.next>1099511627775-(n:Int)+1 then some (E,0,11)else
  let e:=LL l E.p.next sl
  let b:={E with p:={E.p with next:=E.p.next+n}}
  let w:=Kl b.N b.p.op b.p.row b.p.mask e
  if w.2.2=1 then some ({b with N:=w.1},0,1)else
  let c:={b with N:=w.1,p:={b.p with row:=b.p.row+1}}
  if w.2.2=0 then some ({c with T:=Ln c.T c.p.op (c.p.row-1) c.p.mask ((e.take n).zipIdx)},n,0)else
  if w.2.2=9 then some (c,0,9)else
  (c.OQ w.2.1).write k l
def LP(b mask:Int):List Nat→Nd→Ty→Nd×Ty×Int
 |[],N,Y=>(N,Y,0)
 |d::l,N,Y=>
  if hasB mask d=false then LP b mask l N Y
  else if N.L6 d b=0 then LP b mask l (N.Lh d b) Y
  else if N.L6 d b=9 then(N.Lh d b,Y,9)
  else if N.L6 d b=8 then LP b mask l (N.Lh d b) (Y.Mu d)
  else LP b mask l (N.Lh d b) (Y.Ov d b)
def Pj(N:Nd)(b:Nat)(k:Nat)(Y:Ty):Ty:=(ed k).foldl (fun Y (d:Nat)=>Y.OI b ((N.blk d b).KP:Int)) Y
def Dv.erase(D:Dv)(b:Nat):Dv×Int:=
 let x:=LP b (D.Y.mask b:Int) (ed D.N.D) D.N D.Y
 if x.2.2≠0 then({D with N:=x.1,Y:=x.2.1},x.2.2)
 else
  let Y2:=Pj x.1 b D.N.D x.2.1
  ({D with N:=x.1,Y:=if Y2.usable b then Y2.clean b true else Y2},0)
def Dv.LF:List Nat→Dv→Dv×Int
 |[],D=>(D,0)
 |b::l,D=>if(D.erase b).2≠0 then D.erase b else Dv.LF l (D.erase b).1
def Dv.clear(D:Dv):Dv×Int:=D.LF (Lx D.Y D.T D.p.op)
def reads(N:Nd)(T:Tb)(b:Nat):En×Int:=
 let at_:=At6.of (tab.Kh T.f b)
 let x:=Km N at_.b at_.r at_.s at_.m
 if x.2=9 then(zE,9)
 else if x.2≠0∨x.1.l≠b∨x.1.s≠at_.q then(⟨b,0,4,an⟩,0)
 else(x.1,0)
def LV(N:Nd)(T:Tb):List Nat→List En×Int
 |[]=>([],0)
 |a::l=>if(reads N T a).2≠0 then([],(reads N T a).2)else((reads N T a).1::(LV N T l).1,(LV N T l).2)
def Dv.tries:Nat:=200
def Dv.Kf(D:Dv)(l:List En):Dv×Int×Int:=(D.write Dv.tries l).getD (D,0,0)
def Dv.LU:Nat→Dv→List Nat→Int→Dv×Int×Int
 |0,D,_,n=>(D,n,0)
 |k+1,D,l,n=>
  if l=[]then(D,n,0)else
  let x:=LV D.N D.T (l.take (max D.Ld 1).toNat)
  if x.2≠0 then(D,n,x.2)else
  let y:=D.Kf x.1
  if y.2.2≠0 then(y.1,n+y.2.1,y.2.2)else Dv.LU k y.1 (l.drop y.2.1.toNat) (n+y.2.1)
def Dv.carry(D:Dv)(b:Nat)(c:Int):Dv×Int×Int:=Dv.LU (D.T.inL b).length D ((D.T.inL b).take (max c 0).toNat) 0
def Dv.Lr(D:Dv):Int:=Ly (LQ D.Y D.T) (M8 D.Y D.T D.p.op)
def Dv.On(D:Dv):Nat:=(LJ D.Y D.T D.p.op).length
def Dv.MO:Nat→Dv→Dv×Int
 |0,D=>(D,0)
 |k+1,D=>
  if 4<D.On then(D,0)
  else if D.Lr<0∨(D.Y.P:Int)*JV (D.Y.mask D.Lr)≤tab.Kw D.T.f D.Lr then(D,0)
  else
   let x:=D.carry D.Lr.toNat (tab.Kw D.T.f D.Lr)
   if x.2.2≠0 then(x.1,x.2.2)else
   let y:=x.1.clear
   if y.2≠0 then y else Dv.MO k y.1
def Dv.room(D:Dv):Dv×Int:=if D.clear.2≠0 then D.clear else D.clear.1.MO D.Y.B
def LN(N:Nd)(k:Nat)(Y:Ty):Ty:=(ed k).foldl (fun Y (d:Nat)=>if N.dies d then Y.Mu d else Y) Y
def Dv.KJ(D:Dv):Dv:={D with Y:=LN D.N D.Y.D D.Y}
def Dv.Ok(D:Dv):Nat:=((LI D.Y D.T).map fun b:Nat=>tab.Kw D.T.f (b:Int)).sum
def Dv.step(D:Dv)(c:Int):Dv×Int×Int:=
 let x:=D.KJ.room
 if x.2≠0 then(x.1,0,x.2)else
 match LI x.1.Y x.1.T with
 |[]=>(x.1,0,0)
 |b::_=>x.1.carry b c
def Dv.NC:Nat→Dv→List En→Dv×Int
 |0,D,_=>(D,0)
 |k+1,D,l=>
  if l=[]then(D,0)else
  let x:=D.room
  if x.2≠0 then x else
  let y:=x.1.Kf l
  if y.2.2≠0 then(y.1,y.2.2)else Dv.NC k y.1 (l.drop y.2.1.toNat)
def Dv.Mm(D:Dv)(l:List En):Dv×Int:=D.NC l.length l
open JT (Nd JS Fr Kn Ko)
open tal (Ty Kb L1)
open tab (Tb JZ LS)
def Kx(t:TypeId):Bool:=Ko t ||(t== 188 ||(t== 196 ||(t== 154 ||t== 192)))
structure Pl where
 (base g tg tlb lg mb cb pg:Nat)
def Pn.v(p:Pn)(L:Pl):List Value:=[.pointer (some ⟨L.g,0,none⟩),.pointer (some ⟨L.tg,0,none⟩),.pointer (some ⟨L.lg,0,none⟩),.int .i64 p.op,.int .i64 p.row,.int .i64 p.mask,.int .i64 p.next]
structure DFr (base:Nat) (w w':World):Prop where
 os:w'.os=w.os
 tape:w'.tape=w.tape
 output:w'.output=w.output
 size:w.heap.size≤w'.heap.size
 block:∀k,k<w.heap.size→(k<base∨∃cs t fr,w.heap[k]? =some (.cells cs t fr)∧Kx t=false)→w'.heap[k]? =w.heap[k]?
section
variable {base:Nat}{w w' w'':World}
theorem DFr.refl(base:Nat)(w:World):DFr base w w:=⟨rfl,rfl,rfl,jd _,fun _ _ _=>rfl⟩
theorem DFr.trans(h:DFr base w w')(b:DFr base w' w''):DFr base w w'':=
 ⟨b.os.trans h.os,b.tape.trans h.tape,b.output.trans h.output,r2 h.size b.size,fun k c f=>by
  have e:=h.block k c f;refine(b.block k (jw c h.size) ?_).trans e;simp_all⟩
theorem DFr.KZ(h:Below w.heap.size w w'):DFr base w w':=⟨h.os,h.tape,h.output,h.size,fun k b _=>h.block k b⟩
theorem DFr.drew(h:DFr base w w'):DFr base w w'.drew:=⟨h.os,h.tape,h.output,h.size,h.block⟩
theorem DFr.drewN(h:DFr base w w')(n:Nat):DFr base w (w'.drewN n):=⟨h.os,h.tape,h.output,h.size,h.block⟩
theorem DFr.blk{k:Nat}{b:Array Value}{t:TypeId}{fr:Nat×Nat}(h:DFr base w w')(c:w.heap[k]? =some (.cells b t fr))(e:Kx t=false):w'.heap[k]? =some (.cells b t fr):=
 (h.block k (af c) (.inr ⟨b,t,fr,c,e⟩)).trans c
theorem DFr.low{k:Nat}{o:Obj}(h:DFr base w w')(b:w.heap[k]? =some o)(c:k<base):w'.heap[k]? =some o:=
 (h.block k (Array.getElem?_eq_some_iff.1 b).1 (.inl c)).trans b
theorem DFr.below{D:Nat}{w0:World}(h:DFr base w w')(hb:Below D w0 w)(hD:D≤base)(hs:D≤w0.heap.size):Below D w0 w':=
 hb.trans ⟨h.os,h.tape,h.output,h.size,fun k hk=>h.block k (by have:=hb.size;omega) (.inl (by omega))⟩
end
structure Kk (w:World) (L:Pl) (m c:Nat) (D:Dv):Prop where
 JT:JS w L.base L.g m D.N
 tal:Kb w L.tg L.tlb D.Y
 tab:∃n,n≤c+3*D.N.ops∧JZ w L.lg L.mb L.cb n D.T
 pen:w.heap[L.pg]? =some (.cells (D.p.v L).toArray 192 (0,0))
 low:L.base≤L.tg∧L.base≤L.tlb∧L.base≤L.lg∧L.base≤L.mb∧L.base≤L.cb∧L.base≤L.pg
 maps:L.g<L.mb∧L.g<L.cb
 same:D.Y.D=D.N.D∧D.Y.B=D.N.B∧D.Y.P=D.N.P
 KP:∀d b,(D.N.blk d b).KP≤D.N.ops
section
variable {w w':World}{L:Pl}{m c:Nat}{D:Dv}
theorem Kk.below(h:Kk w L m c D)(hb:Below w.heap.size w w'):Kk w' L m c D:=
 {h with
  JT:=h.JT.below hb
  tal:=h.tal.below hb
  tab:=by obtain⟨n,h1,h2⟩:=h.tab;exact⟨n,h1,h2.below hb⟩
  pen:=aa h.pen hb}
theorem Kk.drew(h:Kk w L m c D):Kk w.drew L m c D:=h.below (Below.refl _ w).drew
theorem Kk.drewN(h:Kk w L m c D)(n:Nat):Kk (w.drewN n) L m c D:=h.below (aF (Below.refl _ w) n)
theorem Kk.lt(h:Kk w L m c D):L.g<w.heap.size∧L.tg<w.heap.size∧L.tlb<w.heap.size∧L.lg<w.heap.size∧L.mb<w.heap.size∧L.cb<w.heap.size∧L.pg<w.heap.size:=by
 obtain⟨n,-,b⟩:=h.tab;exact⟨h.JT.lt,h.tal.lt.1,h.tal.lt.2,b.lt.1,b.lt.2.1,b.lt.2.2,af h.pen⟩
theorem Kk.QP(h:Kk w L m c D):L.base≤w.heap.size:=by have:=h.low;have:=h.lt;omega
end
open JT (Nd)
open tal (Ty)
open tab (Tb At6)
def Pg(l:List En)(e:En):List En:=(l.filter fun x=>x.l !=e.l)++[e]
def OA(l:List En)(b:Int):Option En:=l.find? fun x=>x.l==b
def MN(l m:List En):List En:=l.filter fun x=> !(m.any fun e=>e.l==x.l&&e.s==x.s)
def behind(a b:Fd):Bool:=if a.e.s≠b.e.s then decide (a.e.s<b.e.s)else b.whole&& !a.whole
def MI(out:List Fd)(f:Fd):List Fd:=
 match out with
 |[]=> [f]
 |o::_=>if behind o f then [f]else if behind f o then out else out++[f]
def ON(l:List Fd):List Fd:=l.foldl MI []
def Lk(N:Nd)(b:Nat)(k:Nat):List Fd:=(ed k).flatMap fun r:Nat=>KK N b r
def KA(N:Nd)(k:Nat):List Fd:=(ed k).flatMap fun b:Nat=>Lk N b N.P
def Kc(N:Nd):List Fd:=KA N N.B
def Lc(l:List Fd)(x:Int):Int:=l.foldl (fun x f=>max x (f.e.s+1)) x
def K4(l:List Fd)(b:Nat):Option Fd:=(ON (l.filter fun f=>f.e.l==(b:Int))).head?
def Lm(l:List Fd)(n k:Nat):Tb:=
 (ed k).foldl (fun T b=>match K4 l b with|some f=>T.MH f.e.l f.e.s f.e.r f.b f.r f.s f.m|none=>T) ⟨n,[],1⟩
structure Fv where
 (D:Dv) (JX:List En) (next:Int) (off:Bool)
def Fv.logical(F:Fv):Nat:=(O8 F.D.N.D F.D.N.B F.D.N.P).toNat
def Fv.ref(F:Fv):Fv:={F with off:=F.off ||F.D.N.off}
def Fv.KR(F:Fv):Int:=if F.off ||F.D.N.off then 9 else 0
def Fv.read(F:Fv)(b:Int):List Nat×Int:=
 if F.KR≠0 then(an,F.KR)
 else if b<0∨F.logical≤b then(an,3)
 else match OA F.JX b with
  |some e=>(e.d,0)
  |none=>match tab.Kh F.D.T.f b with
   |none=>(an,0)
   |some a=>
    if a.o=2 then(an,0)else if a.o=4 then(an,10)else
    let x:=Km F.D.N a.b a.r a.s a.m
    if x.2≠0∨x.1.l≠b∨x.1.s≠a.q then(an,10)else(x.1.d,0)
def Fv.told(F:Fv)(e:Int):Fv:={F with off:=F.off ||e==9}
def Fv.writes(F:Fv):Fv×Int:=
 let x:=F.D.room
 if x.2≠0 then({F with D:=x.1}.told x.2,x.2)else
 let y:=x.1.Kf F.JX
 ({F with D:=y.1,JX:=MN F.JX (F.JX.take y.2.1.toNat)}.told y.2.2,y.2.2)
def Fv.wait(F:Fv)(e:En):Fv:=
 {F with JX:=Pg F.JX {e with s:=F.next},next:=F.next+1}
def Fv.waits(F:Fv)(e:En):Fv×Int:=
 if F.KR≠0 then(F.ref,F.KR)
 else if e.l<0∨F.logical≤e.l then(F.ref,3)
 else if F.D.Ld≤F.JX.length then
  (if F.ref.writes.2≠0 then F.ref.writes else(F.ref.writes.1.wait e,0))
 else(F.ref.wait e,0)
def Fv.write(F:Fv)(b:Int)(d:List Nat):Fv×Int:=F.waits ⟨b,0,1,d⟩
def Fv.trim(F:Fv)(b:Int):Fv×Int:=F.waits ⟨b,0,2,an⟩
def Fv.NU:Nat→Fv→Fv×Int
 |0,F=>(F,0)
 |k+1,F=>if F.JX=[]then(F,0)else if F.writes.2≠0 then F.writes else Fv.NU k F.writes.1
def Fv.flush(F:Fv):Fv×Int:=if F.KR≠0 then(F.ref,F.KR)else F.ref.NU F.JX.length
def Fv.tick(F:Fv):Fv×Int:=
 if F.KR≠0 then(F.ref,F.KR)else
 ({F.ref with D:=(F.D.step 4).1}.told (F.D.step 4).2.2,(F.D.step 4).2.2)
def Fv.KJ(F:Fv):Fv:={F with D:={F.D with Y:=LN F.D.N F.D.N.D F.D.Y}}
def Fv.whole(F:Fv):Fv×Bool:=if F.KR≠0 then(F.ref,false)else(F.ref.KJ,F.ref.KJ.D.Ok==0)
open JT (Nd)
open tal (Ty)
open tab (Tb At6)
def QA(N:Nd)(f:Fd):Bool:=
 ((ed N.P).all fun r:Nat=>decide ((r:Int)≤f.r) ||(Lw N f.b r N.D).all fun x=>x.2==2 ||x.2==4)&&(look N ⟨Ka f.m f.b f.r,f.b,f.r⟩).2 !=4
def ofL(l:List Fd)(b:Nat):List Fd:=l.filter fun f=>f.e.l==(b:Int)
def Rc(l:List Fd)(c:Nat):List Int:=(ON ((ofL l c).filter (·.whole))).map (·.b)
structure Sv where
 (T:Tb) (Mm:List En) (first:Nat) (held:List Int) (next:Int) (pages:Nat)
def KU(N:Nd)(l:List Fd)(k:Nat):List En:=(ed k).filterMap fun b=>(K4 l b).bind fun f=>if !f.whole&&QA N f then some f.e else none
def OG(N:Nd)(l:List Fd)(k:Nat):List Int:=(ed k).flatMap fun b=>match K4 l b with|some f=>if !f.whole&&QA N f then Rc l b else []|none=> []
def Nq(N:Nd)(l:List Fd)(k:Nat):List En:=(ed k).filterMap fun b=>(K4 l b).bind fun f=>if !f.whole&& !QA N f then some f.e else none
def NY(N:Nd)(k:Nat):Sv:=
 ⟨Lm (Kc N) k k,KU N (Kc N) k++Nq N (Kc N) k,(KU N (Kc N) k).length,iP (MF (OG N (Kc N) k)),Lc (Kc N) 1,(Kc N).length⟩
def QI(l:List Int)(on:Bool)(Y:Ty):Ty:=l.foldl (fun Y b=>Y.hold b on) Y
def Lj(N:Nd):Nat:=(O8 N.D N.B N.P).toNat
def KD(N:Nd):Dv:=
 ⟨N,QI (NY N (Lj N)).held true (KH N),(NY N (Lj N)).T,⟨-1,0,0,max (NY N (Lj N)).next 1⟩⟩
def Dv.Qg(D:Dv)(l:List Int):Dv:={D with Y:=QI l false D.Y}
def Qe(N:Nd)(s:Sv):Dv×Int:=
 let x:=(KD N).Mm (s.Mm.take s.first)
 if x.2≠0 then x else
 let y:=(x.1.Qg s.held).clear
 if y.2≠0 then y else
 let z:=y.1.Mm (s.Mm.drop s.first)
 if z.2≠0 then z else z.1.room
def Mo(N:Nd):Dv×Int:=if N.off then(KD N,9)else Qe N (NY N (Lj N))
def Ki(D:Dv):Fv:=⟨D,[],0,false⟩
end dev
theorem yd7{A:Prop}(h:A:=by
 unfold LN;refine dK _ (fun Y (a:Nat)=> ?_) _ _;show Dim (if _ then _ else _) _;split
 · exact fK _ _
 · exact Dim.refl _):A:=h
namespace dev
open JT (Nd Blk)
open tal (Ty)
open tab (Tb At6)
def tot(N:Nd):Nat:=N.ops+N.broken
def Wo(N:Nd):Prop:=∀d b,(N.blk d b).KP≤N.ops
structure Lt (N M:Nd) (k:Nat):Prop where
 geo:M.D=N.D∧M.B=N.B∧M.P=N.P
 tot:tot M≤tot N+k
 ops:N.ops≤M.ops
 wo:Wo N→Wo M
section
variable {N M L:Nd}
theorem Lt.refl(N:Nd):Lt N N 0:=⟨⟨rfl,rfl,rfl⟩,jd _,jd _,id⟩
theorem Lt.trans{k c:Nat}(h:Lt N M k)(b:Lt M L c):Lt N L (k+c):=
 ⟨⟨b.geo.1.trans h.geo.1,b.geo.2.1.trans h.geo.2.1,b.geo.2.2.trans h.geo.2.2⟩,by have:=h.tot;have:=b.tot;omega,r2 h.ops b.ops,fun w=>b.wo (h.wo w)⟩
theorem Lt.mono{k b:Nat}(h:Lt N M k)(c:k≤b):Lt N M b:=⟨h.geo,by have:=h.tot;omega,h.ops,h.wo⟩
theorem pc(N:Nd):N.La.D=N.D∧N.La.B=N.B∧N.La.P=N.P∧N.La.blk=N.blk∧N.La.ops=N.ops+1∧N.La.broken=N.broken:=by
 unfold Nd.La;grind
theorem ow(N:Nd)(a:Ad)(x:Blk)(i:x.KP≤(N.at a).KP+1)(pl:List (Ad×Value)):Lt N {N.La.put a x with Kt:=pl} 1:=by
 obtain⟨c,e,f,g,h,j⟩:=pc N;refine⟨⟨c,e,f⟩,?_,?_,fun w d b=> ?_⟩
 · show N.La.ops+N.La.broken≤N.ops+N.broken+1
   omega
 · show N.ops≤N.La.ops
   omega
 · show(if d=a.d.toNat∧b=a.b.toNat then x else N.La.blk d b).KP≤N.La.ops
   rw[g,h];split
   · have:=w a.d.toNat a.b.toNat
     have:(N.at a).KP≤N.ops:=this
     omega
   · have:=w d b
     omega
theorem eG(N:Nd)(a:Ad)(p:List Nat):Lt N (N.Kq a p) 1:=by
 unfold Nd.Kq;split
 · exact(Lt.refl N).mono (by omega)
 · split
   · exact⟨⟨rfl,rfl,rfl⟩,by show N.ops+(N.broken+1)≤N.ops+N.broken+1;omega,jd _,id⟩
   · split
     · exact ow N a {N.at a with cells:=(N.at a).cells++[⟨JT.Mm p N.keep,false,true⟩]} (kr _) N.La.Kt
     · exact ow N a {N.at a with cells:=(N.at a).cells++[⟨p,N.O5 a,false⟩]} (kr _) _
theorem oy(N:Nd)(d b:Int):Lt N (N.Lh d b) 1:=by
 unfold Nd.Lh;split
 · exact(Lt.refl N).mono (by omega)
 · split
   · exact ow N (JT.key d b) ((N.at (JT.key d b)).cut N.P) (kr _) N.La.Kt
   · split
     · exact ow N (JT.key d b) {N.at (JT.key d b)with met:=true} (kr _) N.La.Kt
     · exact ow N (JT.key d b) {N.at (JT.key d b)with cells:=[],KP:=(N.at (JT.key d b)).KP+1} (jd _) _
theorem ox(b r:Int):∀(L:List (Int×List Nat)) (N:Nd) (f:Int),Lt N (Me b r N f L).1 L.length
 |[],N,f=>Lt.refl N
 |x::L,N,f=>by
  unfold Me;have h:=eG N ⟨x.1,b,r⟩ x.2;split
  · exact(h.trans (ox b r L _ f)).mono (by grind)
  · split
    · exact h.mono (by simp)
    · exact(h.trans (ox b r L _ _)).mono (by grind)
theorem ou(N:Nd)(b r m:Int)(l:List En):Lt N (Kl N b r m l).1 (l.length+1):=by
 unfold Kl;split
 · have:=ox b r (Ls b r m l) N 0
   refine this.mono ?_;unfold Ls;simp
 · exact(Lt.refl N).mono (by omega)
end
theorem nB(m:Int):(JV m).toNat≤7:=by
 have:=aI m;unfold JV;omega
structure Dl (D E:Dv) (k:Nat):Prop where
 n:Lt D.N E.N k
 y:Dim E.Y D.Y
 t:E.T.logical=D.T.logical
theorem Dl.refl(D:Dv):Dl D D 0:=⟨Lt.refl _,Dim.refl _,rfl⟩
theorem Dl.trans{D E F:Dv}{k c:Nat}(h:Dl D E k)(b:Dl E F c):Dl D F (k+c):=⟨h.n.trans b.n,b.y.trans h.y,b.t.trans h.t⟩
theorem Dl.mono{D E:Dv}{k b:Nat}(h:Dl D E k)(c:k≤b):Dl D E b:=⟨h.n.mono c,h.y,h.t⟩
theorem te(b r m:Int):∀(l:List (En×Nat)) (T:Tb),(Ln T b r m l).logical=T.logical
 |[],T=>rfl
 |x::l,T=>by
  show(Ln (T.MH x.1.l x.1.s x.1.r b r (x.2:Int) m) b r m l).logical=_;rw[te b r m l];unfold Tb.MH;grind
theorem Dm(D:Dv):Dl D D.opens.1 0:=by
 unfold Dv.opens;split
 · exact Dl.refl _
 · exact⟨Lt.refl _,cD _ _ _,rfl⟩
theorem gV(D:Dv)(d:Int):Dl D (D.OQ d) 0:=by
 refine⟨Lt.refl _,?_,rfl⟩;show Dim (M6 D.N D.p.op d D.N.D D.Y) D.Y;unfold M6;refine dK _ (fun Y (a:Nat)=> ?_) _ _;show Dim (if _ then(if _ then _ else _)else _) _;split
 · split
   · exact fK _ _
   · exact r9 _ _ _
 · exact Dim.refl _
theorem uw:∀(k:Nat) (D:Dv) (l:List En) (r:Dv×Int×Int),D.write k l=some r→Dl D r.1 (8*k)
 |0,D,l,r,h=>by cases h
 |k+1,D,l,r,h=>by
  unfold Dv.write at h;by_cases e:l=[]
  · rw[if_pos e]at h
    cases h
    exact(Dl.refl _).mono (by omega)
  rw[if_neg e]at h
  have b:Dl D (if D.left=true then(D,(0:Int))else D.opens).1 0:=by
   split
   · exact Dl.refl _
   · exact Dm D
  dsimp only at h;generalize (if D.left=true then(D,(0:Int))else D.opens)=o at h b;by_cases f:o.2≠0
  · rw[if_pos f]at h
    cases h
    exact b.mono (by omega)
  rw[if_neg f]at h;have z:=nB o.1.p.mask;have n:=ou o.1.N o.1.p.op o.1.p.row o.1.p.mask (LL l o.1.p.next (JV o.1.p.mask).toNat);have A:(LL l o.1.p.next (JV o.1.p.mask).toNat).length=(JV o.1.p.mask).toNat:=by simp[LL]
  have c:=n.mono (show _≤8 by omega);by_cases g:o.1.p.next>1099511627775-((min l.length (JV o.1.p.mask).toNat:Nat):Int)+1
  · rw[if_pos g]at h
    cases h
    exact b.mono (by omega)
  rw[if_neg g]at h;generalize LL l o.1.p.next (JV o.1.p.mask).toNat=q at h c;generalize Kl o.1.N o.1.p.op o.1.p.row o.1.p.mask q=w at h c;by_cases i:w.2.2=1
  · rw[if_pos i]at h
    cases h
    exact Dl.mono (k:=0+8) ⟨b.n.trans c,b.y,b.t⟩ (by omega)
  rw[if_neg i]at h;by_cases j:w.2.2=0
  · rw[if_pos j]at h
    cases h
    exact Dl.mono (k:=0+8) ⟨b.n.trans c,b.y,(te _ _ _ _ _).trans b.t⟩ (by omega)
  rw[if_neg j]at h;by_cases m:w.2.2=9
  · rw[if_pos m]at h
    cases h
    exact Dl.mono (k:=0+8) ⟨b.n.trans c,b.y,b.t⟩ (by omega)
  rw[if_neg m]at h;have t:=uw k _ _ _ h;have u:Dl D {o.1 with N:=w.1,p:={{o.1.p with next:=o.1.p.next+((min l.length (JV o.1.p.mask).toNat:Nat):Int)}with row:=o.1.p.row+1}} (0+8):=b.trans ⟨c,Dim.refl _,rfl⟩;exact((u.trans (gV _ _)).trans t).mono (by omega)
theorem iA(D:Dv)(l:List En):Dl D (D.Kf l).1 1600:=by
 unfold Dv.Kf Dv.tries;cases h:D.write 200 l with
 |none=>exact(Dl.refl _).mono (by omega)
 |some r=>exact uw 200 D l r h
theorem f5(b m:Int):∀(l:List Nat) (N:Nd) (Y:Ty),Lt N (LP b m l N Y).1 l.length∧Dim (LP b m l N Y).2.1 Y
 |[],N,Y=>⟨Lt.refl _,Dim.refl _⟩
 |d::l,N,Y=>by
  have h:=oy N d b;unfold LP;split
  · have c:=f5 b m l N Y
    exact⟨c.1.mono (by simp),c.2⟩
  · split
    · have c:=f5 b m l (N.Lh d b) Y
      exact⟨(h.trans c.1).mono (by grind),c.2⟩
    · split
      · exact⟨h.mono (by simp),Dim.refl _⟩
      · split
        · have c:=f5 b m l (N.Lh d b) (Y.Mu d)
          exact⟨(h.trans c.1).mono (by grind),c.2.trans (fK _ _)⟩
        · have c:=f5 b m l (N.Lh d b) (Y.Ov d b)
          exact⟨(h.trans c.1).mono (by grind),c.2.trans (r9 _ _ _)⟩
theorem qy(N:Nd)(b k:Nat)(Y:Ty):Dim (Pj N b k Y) Y:=dK _ (fun Y a=>cD _ _ _) _ _
theorem kD(D:Dv)(b:Nat):Dl D (D.erase b).1 D.N.D:=by
 obtain⟨c,e⟩:=f5 b (D.Y.mask b:Int) (ed D.N.D) D.N D.Y;rw[nr]at c;unfold Dv.erase;simp only;split
 · exact⟨c,e,rfl⟩
 · refine⟨c,?_,rfl⟩
   dsimp only;have f:=(qy (LP b (D.Y.mask b:Int) (ed D.N.D) D.N D.Y).1 b D.N.D (LP b (D.Y.mask b:Int) (ed D.N.D) D.N D.Y).2.1).trans e;split
   · exact(cD _ _ _).trans f
   omega
theorem mz:∀(l:List Nat) (D:Dv),Dl D (D.LF l).1 (D.N.D*l.length)
 |[],D=>(Dl.refl D).mono (by simp)
 |b::l,D=>by
  have h:=kD D b;unfold Dv.LF;split
  · exact h.mono (by rw[pn,tl,tm];omega)
  · have c:=mz l (D.erase b).1
    rw[h.n.geo.1]at c;exact(h.trans c).mono (by rw[pn,tl,tm];omega)
theorem qx:∀(k:Nat) (D:Dv) (l:List Nat) (n:Int),Dl D (D.LU k l n).1 (1600*k)
 |0,D,l,n=>Dl.refl D
 |k+1,D,l,n=>by
  unfold Dv.LU;split
  · exact(Dl.refl D).mono (by omega)
  · simp only
    split
    · exact(Dl.refl D).mono (by omega)
    · have h:=iA D (LV D.N D.T (l.take (max D.Ld 1).toNat)).1
      split
      · exact h.mono (by omega)
      · exact(h.trans (qx k _ _ _)).mono (by omega)
theorem C6(T:Tb)(b:Int):(T.inL b).length≤T.logical:=tab.C5 _ _ _
theorem pM(Y:Ty)(T:Tb)(b:Int):(pick.Lx Y T b).length≤Y.B:=pick.kN _ _ _
theorem oW(D:Dv)(b:Nat)(c:Int):Dl D (D.carry b c).1 (1600*D.T.logical):=
 (qx _ _ _ _).mono (ly _ (C6 _ _))
theorem fJ(D:Dv):Dl D D.clear.1 (D.N.D*D.Y.B):=(mz _ _).mono (ly _ (pM _ _ _))
theorem uy:∀(k:Nat) (D:Dv),Dl D (D.MO k).1 ((1600*D.T.logical+D.N.D*D.Y.B)*k)
 |0,D=>Dl.refl D
 |k+1,D=>by
  have e:(1600*D.T.logical+D.N.D*D.Y.B)*(k+1)=(1600*D.T.logical+D.N.D*D.Y.B)*k+(1600*D.T.logical+D.N.D*D.Y.B):=rfl;unfold Dv.MO;split
  · exact(Dl.refl D).mono (by omega)
  · split
    · exact(Dl.refl D).mono (by omega)
    · have c:=oW D D.Lr.toNat (tab.Kw D.T.f D.Lr)
      simp only;split
      · exact c.mono (by omega)
      · have f:=fJ (D.carry D.Lr.toNat (tab.Kw D.T.f D.Lr)).1
        rw[c.n.geo.1,c.y.2.1]at f;have b:=c.trans f;split
        · exact b.mono (by omega)
        · have g:=uy k (D.carry D.Lr.toNat (tab.Kw D.T.f D.Lr)).1.clear.1
          rw[b.t,b.n.geo.1,b.y.2.1]at g;exact(b.trans g).mono (by omega)
def Oq(D:Dv):Nat:=(1600*D.T.logical+D.N.D*D.Y.B)*D.Y.B+D.N.D*D.Y.B
theorem iB(D:Dv):Dl D D.room.1 (Oq D):=by
 have h:=fJ D;unfold Dv.room Oq;split
 · exact h.mono (by omega)
 · have b:=uy D.Y.B D.clear.1
   rw[h.t,h.n.geo.1,h.y.2.1]at b;exact(h.trans b).mono (by omega)
theorem kE(D:Dv):Dl D D.KJ 0:=by
 refine⟨Lt.refl _,?_,rfl⟩;show Dim (LN D.N D.Y.D D.Y) D.Y;exact yd7
theorem Bm{D E:Dv}{k:Nat}(h:Dl D E k):Oq E=Oq D:=by
 unfold Oq;rw[h.t,h.n.geo.1,h.y.2.1]
theorem FE(D:Dv)(c:Int):Dl D (D.step c).1 (Oq D+1600*D.T.logical):=by
 have f:=kE D;have g:=iB D.KJ;rw[Bm f]at g;have h:=f.trans g;unfold Dv.step;simp only;split
 · exact h.mono (by omega)
 · split
   · exact h.mono (by omega)
   · rename_i b l e
     have i:=oW D.KJ.room.1 b c;rw[h.t]at i;exact(h.trans i).mono (by omega)
open JT (Nd Blk Cel)
structure Calm (N:Nd):Prop where
 on:N.off=false
 Oy:N.Oy=false
 Kt:N.Kt=[]
 fine:∀d b,(N.blk d b).fails=false∧(N.blk d b).met=false
def K8(N:Nd)(d:Nat):Bool:=N.dead.getD d false
end dev
theorem yd2{A:Prop}(h:A:=by
 show(ME N b r x.m (JV x.m).toNat).length=_;rw[eh];omega):A:=h
namespace dev
open JT (Nd)
structure RR where
 (m:Int) (es:List En)
def RR.ok(x:RR)(b r:Int):Prop:=No x.es b r x.m=true∧∀e∈x.es,e.ok
def RR.sh(x:RR)(b r:Int)(d:Int):Sh:=if Ka x.m b r=d then KY x.es b r x.m else((x.es[(OB x.m b r d).toNat]?).getD pad).sh b r x.m
structure Snd (N:Nd) (R:Int→Int→Option RR):Prop where
 ok:∀b r x,R b r=some x→x.ok b r
 MV:∀d b r,(look N ⟨d,b,r⟩).2=1→∃x,R b r=some x∧hasB x.m d=true∧(look N ⟨d,b,r⟩).1=x.sh b r d
theorem RR.ok.bounds{x:RR}{b r:Int}(h:x.ok b r):(0≤b∧b<16)∧(0≤r∧r<8)∧(0≤x.m∧x.m<256)∧(x.es.length:Int)=JV x.m∧0<x.es.length∧∀e∈x.es,e.may b r x.m=true:=by
 have c:=h.1;unfold No at c;simp only[fo,beq_iff_eq,bne_iff_ne,ps]at c;obtain⟨c,f,g⟩:=c;obtain⟨e,i⟩:=jI x.es (fun e=>f (by grind));obtain⟨-,-,-,-,-,-,-,-,j,k,l,m,m0,m1⟩:=jj (g e i);grind
theorem Dh{x y:En}(h:x.v=y.v):x=y:=by
 obtain⟨l,s,r,d⟩:=x;obtain⟨b,s2,c,d2⟩:=y;simp only[En.v,enV,List.cons_append,py,List.cons.injEq,Value.int.injEq,kh]at h;simp_all
theorem bX{m b r:Int}{s:Nat}(n:0≤m∧m<256)(o:0≤b)(p:0≤r)(t:(s:Int)<JV m):
 0≤Le m b r s∧Le m b r s<8∧hasB m (Le m b r s)=true∧Le m b r s≠Ka m b r∧OB m b r (Le m b r s)=s∧0≤Ka m b r∧Ka m b r<8∧hasB m (Ka m b r)=true:=by
 obtain⟨b,rfl⟩:=eX o;obtain⟨r,rfl⟩:=eX p;obtain⟨M,rfl⟩:=eX n.1;have f:M<256:=by omega
 have z:=dy f
 have u:2≤cnt M 8:=by
  unfold JV at t;omega
 have A:JV (M:Int)=(cnt M 8:Int)-1:=by unfold JV;omega
 rcases ir (M:Int) b r with h|⟨c,P,e1,-,-,g,j,k⟩
 · exfalso
   rw[iZ f u]at h;omega
 · have e1:c=M:=by omega
   subst e1;obtain⟨a1,a2,B,a4⟩:=BE f g j (show s<cnt c 8-1 by omega);obtain⟨c1,c2⟩:=xY f g k a4;rw[c1,k]
   have i:(KS c P).getD s 0∈KS c P:=by
    rw[List.getD_eq_getElem?_getD,ej a4];exact px _
   have w:(KS c P).getD s 0≠P∧c.testBit ((KS c P).getD s 0)=true:=by
    have e:=nW ⟨c,f⟩ ⟨P,g⟩;unfold KS at i⊢;rw[e]at i⊢;rw[eD]at i;refine⟨by simp_all,?_⟩;have:=i.1;unfold M9 at this;exact(eD.1 this).2
   have C:Mq (c:Int)=true:=by unfold Mq;simp;omega
   have l:∀q:Nat,q<8→c.testBit q=true→hasB (c:Int) (q:Int)=true:=fun q D E=>by
    unfold hasB;grind
   exact⟨by omega,by omega,l _ a1 w.2,by omega,c2,by omega,by omega,l _ g j⟩
theorem nU:∀M:Fin 256,∀P:Fin 8,M.val.testBit P.val=true→(KS M.val P.val).length=cnt M.val 8-1:=by decide+kernel
theorem nV{M P:Nat}(b:M<256)(c:P<8)(h:M.testBit P=true):(KS M P).length=cnt M 8-1:=nU ⟨M,b⟩ ⟨P,c⟩ h
theorem Do{m b r:Int}{d:Nat}(A:0≤m∧m<256)(j:0≤b)(k:0≤r)(l:0<JV m)(n:hasB m d=true)(o:Ka m b r≠d):∃s:Nat,(s:Int)<JV m∧Le m b r s=d:=by
 obtain⟨b,rfl⟩:=eX j;obtain⟨r,rfl⟩:=eX k;obtain⟨M,D,rfl,e2,c,B,p⟩:=tY.1 n;have e2:d=D:=by omega
 subst e2;have C:=dy c
 have t:2≤cnt M 8:=by
  unfold JV at l;omega
 have E:JV (M:Int)=(cnt M 8:Int)-1:=by unfold JV;omega
 rcases ir (M:Int) b r with h|⟨f,P,e1,-,-,g,u,i⟩
 · exfalso
   rw[iZ c t]at h;omega
 · have e1:f=M:=by omega
   subst e1;have e:=nW ⟨f,c⟩ ⟨P,g⟩
   have w:d∈KS f P:=by
    unfold KS;rw[e,eD];refine⟨eD.2 ⟨by simp_all,p⟩,?_⟩;simp only[Bool.not_eq_true',beq_eq_false_iff_ne];intro q;exact o (by rw[i,q])
   obtain⟨s,z,G⟩:=List.mem_iff_getElem.1 w;obtain⟨c1,-⟩:=xY c g i z;have H:(KS f P).length=cnt f 8-1:=nV c g u;grind
section
variable {N:Nd}{R:Int→Int→Option RR}{b r:Int}{x:RR}
theorem Snd.one(h:Snd N R){m d:Int}(c:(one N b r m d).2=true):∃x,R b r=some x∧x.m=m∧hasB x.m d=true∧(one N b r m d).1=x.sh b r d:=by
 unfold dev.one at c⊢;simp only[fo,beq_iff_eq]at c;obtain⟨x,f,g,e⟩:=h.MV d b r c.1;refine⟨x,f,?_,g,e⟩;have:=c.2;rw[e]at this;rw[←this];unfold RR.sh;split<;>rfl
theorem pP{m:Int}{k s:Nat}:(ME N b r m k)[s]? =if s<k then some (dev.one N b r m (Le m b r s))else none:=by
 unfold ME;grind
theorem eh(N:Nd)(b r m:Int)(k:Nat):(ME N b r m k).length=k:=by simp[ME]
theorem Snd.slot(h:Snd N R){m:Int}{s:Nat}{y:Sh}(c:(Lf N b r m).sl[s]? =some (y,true)):∃x e,R b r=some x∧x.m=m∧x.es[s]? =some e∧y=e.sh b r m:=by
 unfold Lf at c;rw[pP]at c;split at c
 · rename_i p
   have c:=Option.some.inj c;obtain⟨x,g,i,q,f⟩:=h.one (m:=m) (d:=Le m b r s) (by rw[c]);rw[c]at f;obtain⟨j,k,l,t,u,w⟩:=(h.ok b r x g).bounds;subst i;have n:(s:Int)<JV x.m:=by omega
   obtain⟨-,-,-,d1,d2,-⟩:=bX l j.1 k.1 n;have o:s<x.es.length:=by omega
   refine⟨x,x.es[s],g,rfl,ej o,?_⟩;simp only at f;rw[f];unfold RR.sh;grind
 simp_all
theorem lW:∀(l:List (Sh×Bool)) (i slot:Nat) (o:List Sh),i≤slot→others l i slot=some o→
 o=(l.map (·.1)).eraseIdx (slot-i)∧∀(j:Nat) (y:Sh×Bool),l[j]? =some y→i+j≠slot→y.2=true
 |[],i,slot,o,g,h=>by
  simp[others]at h;simp_all
 |x::l,i,slot,o,g,h=>by
  unfold others at h;by_cases e:i=slot
  · subst e
    rw[if_pos rfl]at h
    have p:∀(l:List (Sh×Bool)) (k s:Nat) (o:List Sh),s<k→others l k s=some o→o=l.map (·.1)∧∀(j:Nat) (y:Sh×Bool),l[j]? =some y→y.2=true:=by
     intro l;induction l with
     |nil=>intro k s o _ h;simp[others]at h;simp_all
     |cons x l q=>
      intro k s o t h;unfold others at h;rw[if_neg (by omega)]at h;split at h
      · rename_i m
        obtain⟨c,f,rfl⟩:=Option.map_eq_some_iff.1 h;grind
      simp_all
    grind
  · rw[if_neg e]at h
    split at h
    · rename_i m
      obtain⟨c,f,rfl⟩:=Option.map_eq_some_iff.1 h;obtain⟨n,u⟩:=lW l (i+1) slot c (by omega) f;refine⟨?_,fun j y hj w=> ?_⟩
      · rw[n,show slot-i=(slot-(i+1))+1 by omega];rfl
      grind
    simp_all
theorem kA{c:Type}(l:List c)(k:Nat):l.eraseIdx k=l.take k++l.drop (k+1):=List.eraseIdx_eq_take_drop_succ l k
theorem Snd.MK(h:Snd N R){m:Int}{s:Nat}{e:En}(C:(s:Int)<JV m)(c:(Lf N b r m).MK s=some e):∃x,R b r=some x∧x.m=m∧x.es[s]? =some e:=by
 unfold Fo.MK at c;split at c
 · cases c
 · rename_i o p
   split at c
   · rename_i g
     simp only[fo]at g;obtain⟨q,t⟩:=lW _ 0 s o (lx _) p;obtain⟨x,f,u,D,w⟩:=h.one (m:=m) (d:=Ka m b r) g.1;obtain⟨E,G,H,I,J,K⟩:=(h.ok b r x f).bounds;subst u
     have z:(Lf N b r x.m).par=KY x.es b r x.m:=by
      show(dev.one N b r x.m (Ka x.m b r)).1=_;rw[w];unfold RR.sh;simp
     have k:s<x.es.length:=by omega
     have L:∀j,j≠s→∀y,(Lf N b r x.m).sl[j]? =some y→∃e,x.es[j]? =some e∧y.1=e.sh b r x.m:=fun j hj y l=>by
      have n:=t j y l (by omega);obtain⟨M,O⟩:=y;simp only at n;subst n;obtain⟨P,e,Q,S,T,U⟩:=h.slot l;simp_all
     have V:(Lf N b r x.m).sl.length=x.es.length:=by
      exact yd2
     have B:o=(owns x.es b r x.m).take s++(owns x.es b r x.m).drop (s+1):=by
      rw[q,r4,←kA];apply o4;intro j;rw[hO,hO]
      have key:∀i,i≠s→((Lf N b r x.m).sl.map (·.1))[i]? =(owns x.es b r x.m)[i]? :=fun i W=>by
       rw[kd];unfold owns;grind
      split
      · grind
      · grind
     obtain⟨c1,c2⟩:=uE x.es b r x.m (h.ok b r x f).2 (h.ok b r x f).1 s _ (ej k);rw[←B]at c1 c2;rw[z]at c;have c:=Option.some.inj c;refine⟨x,f,rfl,?_⟩;rw[ej k,←c];congr 1;unfold M1 at c2;rw[c1,if_pos rfl]at c2;exact(Dh c2).symm
   simp_all
end
end dev
theorem ye3{A:Prop}(h:A:=by
 unfold Nd.Kg;rw[hon,hg',show N.dead.getD (Ad.mk (d:Int) b r).d.toNat false=false from hdead];rfl):A:=h
namespace dev
open JT (Nd Blk Cel)
def _root_.Go.Proofs.YtlkpfnjdbgeifaaGreat.Sh.pg(x:Sh):List Nat:=Om x.d x.r x.l x.s x.k x.b x.o x.m
theorem Bz{c:List En}(h:∀e∈c,e.ok)(b r m:Int):(KY c b r m).ok:=by
 have i:∀x∈owns c b r m,x.d.length=16:=fun x f=>by
  obtain⟨e,g,rfl⟩:=sT.1 f;exact(h e g).1
 have j:∀x∈owns c b r m,∀y∈x.d,y<256:=fun x f=>by
  obtain⟨e,g,rfl⟩:=sT.1 f;exact(h e g).2
 exact⟨be i,jZ i j⟩
theorem EL{c:List En}{b r m:Int}(h:No c b r m=true):(KY c b r m).may=true:=by
 have k:=h;unfold No at h;simp only[fo,beq_iff_eq,bne_iff_ne,ps]at h;obtain⟨l,g,i⟩:=h;obtain⟨e,j⟩:=jI c (fun e=>g (by grind));have f:=i e j;unfold En.may K0 at f;simp only[fo]at f;have n:=gH (owns c b r m);unfold Sh.may K0;simp only[fo,Bool.or_eq_true];refine⟨⟨f.1.1,?_⟩,.inl rfl⟩;unfold MW KY;simp only[fo,xR,KQ,LB,LC];omega
theorem RR.ok.sh{x:RR}{b r:Int}(h:x.ok b r){d:Nat}(p:hasB x.m d=true):(x.sh b r d).ok∧(x.sh b r d).may=true∧(x.sh b r d).b=b∧(x.sh b r d).o=r∧(x.sh b r d).m=x.m∧((Ka x.m b r==(d:Int))==((x.sh b r d).k==2))=true:=by
 obtain⟨f,g,i,u,w,q⟩:=h.bounds;unfold RR.sh;by_cases c:Ka x.m b r=d
 · rw[if_pos c]
   refine⟨Bz h.2 b r x.m,EL h.1,rfl,rfl,rfl,?_⟩;rw[c];simp[KY]
 · rw[if_neg c]
   obtain⟨s,t,j⟩:=Do i f.1 g.1 (by omega) p c;obtain⟨-,-,-,-,e,-⟩:=bX i f.1 g.1 t;rw[←j,e,hZ];have l:s<x.es.length:=by omega
   rw[ej l,Option.getD_some];have n:=px l;refine⟨h.2 _ n,q _ n,rfl,rfl,rfl,?_⟩;rw[j];have:(Ka x.m b r==(d:Int))=false:=by simpa using c
   rw[this];rfl
theorem Cj{N:Nd}{x:RR}{d b r:Nat}(hon:N.off=false)(t:d<N.D∧b<N.B∧r<N.P)(hdead:K8 N d=false)(g:x.ok b r)(c:hasB x.m d=true)(i:(N.blk d b).cells[r]? =some ⟨(x.sh b r d).pg,false,false⟩):look N ⟨d,b,r⟩=(x.sh b r d,1):=by
 obtain⟨j,k,l,m,n,o⟩:=g.sh c;have hg':N.inG ⟨d,b,r⟩=true:=by simp[Nd.inG];omega
 have e:N.Kg ⟨d,b,r⟩=0:=by
  exact ye3
 have f:(N.at ⟨d,b,r⟩).cells[(Ad.mk (d:Int) b r).p.toNat]? =some ⟨(x.sh b r d).pg,false,false⟩:=i;obtain⟨g1,g2⟩:=Fu j k;have p:N.K9 ⟨d,b,r⟩=0:=by unfold Nd.K9;rw[e,f];rfl
 have q:N.KC ⟨d,b,r⟩=(x.sh b r d).pg:=by unfold Nd.KC;rw[e,f];rfl
 unfold look;rw[p,q,if_pos rfl,show NV (x.sh b r d).pg=true from g1,show Nf (x.sh b r d).pg=x.sh b r d from g2]
 have u:fits (x.sh b r d) ⟨d,b,r⟩=true:=by
  unfold fits;rw[l,m,n];simp only[beq_self_eq_true,qa,c];exact o
 simp_all
theorem vI{N:Nd}{d b r:Nat}(hon:N.off=false)(g:d<N.D∧b<N.B∧r<N.P)(hdead:K8 N d=false)(c:(N.blk d b).cells[r]? =none):look N ⟨d,b,r⟩=(zS,2):=by
 have hg':N.inG ⟨d,b,r⟩=true:=by simp[Nd.inG];omega
 have e:N.Kg ⟨d,b,r⟩=0:=by
  exact ye3
 have f:(N.at ⟨d,b,r⟩).cells[(Ad.mk (d:Int) b r).p.toNat]? =none:=c;have i:N.K9 ⟨d,b,r⟩=5:=by unfold Nd.K9;rw[e,f];rfl
 unfold look;simp_all
theorem zo{N:Nd}{d b r:Nat}(c:N.off=false)(h:d<N.D∧b<N.B∧r<N.P)(e:K8 N d=true):look N ⟨d,b,r⟩=(zS,4):=by
 have f:N.inG ⟨d,b,r⟩=true:=by simp[Nd.inG];omega
 have g:N.Kg ⟨d,b,r⟩=8:=by
  unfold Nd.Kg;rw[c,f,show N.dead.getD (Ad.mk (d:Int) b r).d.toNat false=true from e];rfl
 have i:N.K9 ⟨d,b,r⟩=8:=by unfold Nd.K9;rw[g];rfl
 unfold look;simp_all
open JT (Nd Blk Cel)
def pgs(b d:Nat)(l:List RR):List Cel:=l.zipIdx.map fun x=>⟨(x.1.sh b (x.2:Int) d).pg,false,false⟩
structure Lg (N:Nd) (R:Nat→List RR):Prop where
 ok:N.ok
 calm:Calm N
 row:∀b,b<N.B→∀(r:Nat) (x:RR),(R b)[r]? =some x→x.ok b r∧(∀d,d<N.D→K8 N d=false→hasB x.m d=true)∧∀d:Nat,hasB x.m d=true→d<N.D
 len:∀b,(R b).length≤N.P
 cells:∀d,d<N.D→K8 N d=false→∀b,b<N.B→(N.blk d b).cells=pgs b d (R b)
theorem EI(b d:Nat)(l:List RR)(r:Nat):(pgs b d l)[r]? =(l[r]?).map fun x=>⟨(x.sh b (r:Int) d).pg,false,false⟩:=by
 unfold pgs;grind
section
variable {N:Nd}{R:Nat→List RR}
theorem xI(h:Lg N R){d b r:Nat}(c:d<N.D∧b<N.B∧r<N.P):look N ⟨d,b,r⟩=if K8 N d then(zS,(4:Int))else match(R b)[r]? with|some x=>(x.sh b r d,(1:Int))|none=>(zS,(2:Int)):=by
 cases e:K8 N d with
 |true=>exact zo h.calm.on c e
 |false=>
  have f:=EI b d (R b) r;rw[←h.cells d c.1 e b c.2.1]at f;cases g:(R b)[r]? with
  |none=>
   rw[g]at f;exact vI h.calm.on c e f
  |some x=>
   rw[g]at f;obtain⟨i,j,k⟩:=h.row b c.2.1 r x g;exact Cj h.calm.on c e i (j d c.1 e) f
theorem C0(m:Int)(k:Nat):Ps m (fj k m)=fj (k+1) m:=by
 cases k with
 |zero=>rfl
 |succ k=>simp[Ps,jt]
theorem pN(m:Int):∀k,MF (fj k m)=fj k m
 |0=>rfl
 |k+1=>by
  rw[jt];show Ps m (MF (fj k m))=_;rw[pN m k,C0,jt]
theorem pJ(d:Array Int)(x:Int):∀m,(∀j,j<m→d[j]! =x)→Go.Lib.compactUpTo d m=if m=0 then []else [x]
 |0,_=>rfl
 |m+1,h=>by
  have c:=h m (by omega);rw[Go.Lib.compactUpTo_succ,pJ d x m fun j hj=>h j (by omega),if_neg (by omega:¬m+1=0)];by_cases b:m=0
  · subst b
    rw[Go.Lib.keeps_lt_one d 0 (by omega),if_pos rfl,if_pos rfl,c];rfl
  · rw[Go.Lib.keeps_neg (by omega) (by grind),if_neg b];rfl
theorem rC(m:Int)(k:Nat):iP (fj (k+1) m)=[m]:=by
 unfold iP;rw[pJ _ m _ fun j hj=>by simp at hj;simp[hj],List.length_replicate,if_neg (by omega)]
def O6(N:Nd):Nat:=((ed N.D).filter fun d=> !K8 N d).length
theorem Fq(h:Lg N R){b r:Nat}(c:b<N.B∧r<N.P)(k:Nat)(j:k≤N.D):Ma (Lw N b r k)=match(R b)[r]? with|some x=>fj ((ed k).filter fun d=> !K8 N d).length x.m|none=> []:=by
 induction k with
 |zero=>cases(R b)[r]? <;>rfl
 |succ k e=>
  have f:Lw N b r (k+1)=Lw N b r k++[look N ⟨k,b,r⟩]:=by
   unfold Lw;rw[hG,List.map_append];rfl
  rw[f];unfold Ma at e⊢;rw[List.filterMap_append,e (by omega),xI h ⟨by omega,c.1,c.2⟩,hG,hX];cases g:K8 N k with
  |true=>
   simp_all
  |false=>
   cases l:(R b)[r]? with
   |none=>simp
   |some x=>
    have i:(x.sh b r k).m=x.m:=by unfold RR.sh;split<;>rfl
    simp[g,i,List.replicate_succ']
theorem Cf(h:Lg N R){b r:Nat}(c:b<N.B∧r<N.P)(f:0<O6 N):Nx N b r=match(R b)[r]? with|some x=> [x.m]|none=> []:=by
 unfold Nx;rw[Fq h c N.D (jd _)];cases g:(R b)[r]? with
 |none=>rfl
 |some x=>
  show iP (MF (fj (O6 N) x.m))=[x.m];rw[pN];obtain⟨k,e⟩:∃k,O6 N=k+1:=⟨O6 N-1,by omega⟩;rw[e];exact rC x.m k
theorem BQ(h:Lg N R){b r:Nat}(c:b<N.B∧r<N.P){x:RR}(e:(R b)[r]? =some x){d:Nat}(f:d<N.D):one N b r x.m d=if K8 N d then(zS,false)else(x.sh b r d,true):=by
 unfold one;rw[xI h ⟨f,c.1,c.2⟩,e];cases K8 N d with
 |true=>rfl
 |false=>
  have g:(x.sh b r d).m=x.m:=by unfold RR.sh;split<;>rfl
  simp[g]
end
open JT (Nd Blk Cel)
theorem nX:∀(l:List (Sh×Bool)) (i slot:Nat),i≤slot→(∀(j:Nat) (y:Sh×Bool),l[j]? =some y→i+j≠slot→y.2=true)→others l i slot=some ((l.map (·.1)).eraseIdx (slot-i))
 |[],i,slot,_,_=>by rfl
 |x::l,i,slot,f,h=>by
  unfold others
  have b:∀(l:List (Sh×Bool)) (k s:Nat),s<k→(∀(j:Nat) (y:Sh×Bool),l[j]? =some y→y.2=true)→others l k s=some (l.map (·.1)):=by
   intro l;induction l with
   |nil=>intro k s _ _;rfl
   |cons x l c=>
    intro k s g h;unfold others;rw[if_neg (by omega),if_pos (h 0 x rfl),c (k+1) s (by omega) fun j y hj=>h (j+1) y (by simp_all)];rfl
  by_cases e:i=slot
  · subst e
    rw[if_pos rfl,b l (i+1) i (by omega) fun j y hj=>h (j+1) y (by simp_all) (by omega)];simp
  · rw[if_neg e,if_pos (h 0 x rfl (by omega)),nX l (i+1) slot (by omega) fun j y hj m=>h (j+1) y (by simp_all) (by omega)]
    rw[show slot-i=(slot-(i+1))+1 by omega];rfl
section
variable {N:Nd}{R:Nat→List RR}
theorem qO(h:Lg N R){b r:Nat}(c:b<N.B∧r<N.P){x:RR}(f:(R b)[r]? =some x){s:Nat}{e:En}(g:x.es[s]? =some e):
 (Lf N b r x.m).sl[s]? =some (if K8 N (Le x.m b r s).toNat then(zS,false)else(e.sh b r x.m,true)):=by
 obtain⟨i,p,j⟩:=h.row b c.1 r x f;obtain⟨k,l,m,t,u,w⟩:=i.bounds;have z:=(ek.1 g).1;have n:(s:Int)<JV x.m:=by omega
 obtain⟨d0,d1,d2,d3,d4,-⟩:=bX m k.1 l.1 n;show(ME N b r x.m (JV x.m).toNat)[s]? =_;rw[pP,if_pos (by omega)];obtain⟨d,o⟩:=eX d0;rw[o]at d2 d3 d4⊢;rw[BQ h c f (j d d2),hZ]
 have:x.sh b r d=e.sh b r x.m:=by
  unfold RR.sh;rw[if_neg (fun q=>d3 q.symm),d4,hZ,g];rfl
 rw[this]
theorem BA(h:Lg N R){b r:Nat}(c:b<N.B∧r<N.P){x:RR}(f:(R b)[r]? =some x):(Lf N b r x.m).whole= !K8 N (Ka x.m b r).toNat∧(K8 N (Ka x.m b r).toNat=false→(Lf N b r x.m).par=KY x.es b r x.m):=by
 obtain⟨i,n,j⟩:=h.row b c.1 r x f;obtain⟨k,l,m,o,p,q⟩:=i.bounds;obtain⟨-,-,-,-,-,d0,d1,d2⟩:=bX m k.1 l.1 (show((0:Nat):Int)<JV x.m by omega);obtain⟨d,g⟩:=eX d0;have e:=BQ h c f (j d (g▸d2));rw[←g]at e;have e2:x.sh b r d=KY x.es b r x.m:=by unfold RR.sh;simp_all
 show(one N b r x.m (Ka x.m b r)).2=_∧(_→(one N b r x.m (Ka x.m b r)).1=_);grind
def Two(N:Nd)(m:Int):Prop:=∀d b:Nat,hasB m d=true→hasB m b=true→K8 N d=true→K8 N b=true→d=b
theorem EV(h:Lg N R){b r:Nat}(c:b<N.B∧r<N.P){x:RR}(f:(R b)[r]? =some x)(C:Two N x.m){s:Nat}{e:En}(l:x.es[s]? =some e)(D:K8 N (Le x.m b r s).toNat=true):(Lf N b r x.m).MK s=some e:=by
 obtain⟨g,P,Q⟩:=h.row b c.1 r x f;obtain⟨m,n,o,S,T,U⟩:=g.bounds;have V:=(ek.1 l).1;have E:(s:Int)<JV x.m:=by omega
 obtain⟨d0,d1,d2,d3,d4,G,W,H⟩:=bX o m.1 n.1 E
 have alive:∀q:Int,0≤q→hasB x.m q=true→q≠Le x.m b r s→K8 N q.toNat=false:=fun q p I t=>by
  cases u:K8 N q.toNat with
  |false=>rfl
  |true=>
   have:=C q.toNat (Le x.m b r s).toNat (by grind) (by grind) u D;omega
 have w:=alive (Ka x.m b r) G H (fun q=>d3 q.symm);obtain⟨z,J⟩:=BA h c f;rw[w]at z
 have K:∀j,j≠s→∀k,x.es[j]? =some k→(Lf N b r x.m).sl[j]? =some (k.sh b r x.m,true):=fun j hj k B=>by
  have L:=(ek.1 B).1;obtain⟨p,I,t,X,Y,-⟩:=bX o m.1 n.1 (show(j:Int)<JV x.m by omega);have:=alive (Le x.m b r j) p t (fun q=>by grind);rw[qO h c f B,this];rfl
 have Z:(Lf N b r x.m).sl.length=x.es.length:=by
  exact yd2
 have M:=nX (Lf N b r x.m).sl 0 s (lx _) fun j y hj aa=>by
  have L:=(ek.1 hj).1;rw[K j (by omega) _ (ej (by omega))]at hj;grind
 have O:((Lf N b r x.m).sl.map (·.1)).eraseIdx s=(owns x.es b r x.m).take s++(owns x.es b r x.m).drop (s+1):=by
  rw[←kA];apply o4;intro j;rw[hO,hO]
  have key:∀i,i≠s→((Lf N b r x.m).sl.map (·.1))[i]? =(owns x.es b r x.m)[i]? :=fun i hi=>by
   unfold owns;rw[kd,kd];cases u:x.es[i]? with
   |none=>
    simp_all
   |some y=>simp_all
  split
  · grind
  · grind
 obtain⟨c1,c2⟩:=uE x.es b r x.m g.2 g.1 s e l;unfold Fo.MK;rw[M,r4,O,z,J w];simp only[Bool.not_false,qa,c1,if_true];unfold M1 at c2;rw[c1,if_pos rfl]at c2;rw[Dh c2]
theorem CO(h:Lg N R){b r:Nat}(c:b<N.B∧r<N.P){x:RR}(f:(R b)[r]? =some x)(i:Two N x.m){s:Nat}{e:En}(g:x.es[s]? =some e):
 KV (Lf N b r x.m) b r x.m s=if e.r=3 then none else some ⟨e,b,r,s,x.m,!K8 N (Ka x.m b r).toNat,K8 N (Le x.m b r s).toNat⟩:=by
 unfold KV;rw[qO h c f g,(BA h c f).1];cases j:K8 N (Le x.m b r s).toNat with
 |true=>
  simp only[if_true,l8,if_false,EV h c f i g j];rfl
 |false=>rfl
end
open JT (Nd Blk Cel)
open tal (Ty ML)
open tab (Tb At6 Kh M3)
def MJ(D:Nat):Nat:=ML (ML (2^D-1) 0) 0
theorem vS:∀D:Nat,D≤6→3≤D→JV (MJ D:Int)=(D:Int)-1:=by decide+kernel
theorem zA:∀D:Fin 7,∀d:Fin 8,hasB (MJ D.val:Int) (d.val:Int)=decide (d.val<D.val):=by decide+kernel
theorem CJ{D:Nat}(b:D≤6)(d:Nat):hasB (MJ D:Int) (d:Int)=decide (d<D):=by
 by_cases h:d<8
 · exact zA ⟨D,by omega⟩ ⟨d,h⟩
 · have e:decide (d<D)=false:=by simp;omega
   rw[e];unfold hasB;have:decide ((d:Int)<8)=false:=by simp;omega
   rw[this];simp
def Oh(R:Nat→List RR)(e:En)(b r s:Nat):Prop:=∃x,(R b)[r]? =some x∧x.es[s]? =some e∧e.r≠3
section
variable {N:Nd}{R:Nat→List RR}
end
open JT (Nd Blk Cel)
open tal (Ty ML)
open tab (Tb At6 M3 MQ MP)
theorem bw{x:Int}(b: -1000000000000000≤x)(c:x≤1000000000000000):wfI x:=by unfold wfI;simp[Lit.wf,IntKind.min,IntKind.max,IntKind.bits,IntKind.signed];omega
theorem Cv(f:tab.Mg)(k:Int):(MQ f k).map (·.1)=(f.map (·.1)).filter fun x=>decide (x≠k):=by
 unfold MQ;rw[List.filter_map];rfl
theorem Em{T:Tb}(h:T.ok)(l s r:Int){b:Int}(row slot m:Int)(e:wfI b):(T.MH l s r b row slot m).ok∧(T.MH l s r b row slot m).logical=T.logical:=by
 unfold Tb.MH;split
 · rename_i f
   refine⟨⟨h.log,fun p c=> ?_,?_,fun p c=> ?_⟩,rfl⟩
   · rcases qc.1 c with rfl|c
     · unfold Tb.NN at f
       simp_all
     · exact h.keys p (tab.ot.1 c).1
   · show((M3 T.f l ⟨b,row,slot,m,s,r⟩).map (·.1)).Nodup
     unfold M3;rw[List.map_cons,Cv,List.nodup_cons];exact⟨by simp,h.nodup.filter _⟩
   · rcases qc.1 c with rfl|c
     · exact e
     · exact h.bwf p (tab.ot.1 c).1
 simp_all
theorem EF{T:Tb}{l s r b row slot m:Int}(c:0≤l∧l<(T.logical:Int))(g:MP r=true)(i:∀a,tab.Kh T.f l=some a→a.q≤s)(j:Int):tab.Kh (T.MH l s r b row slot m).f j=if j=l then some ⟨b,row,slot,m,s,r⟩else tab.Kh T.f j:=by
 have h:T.NN l s r=true:=by
  unfold Tb.NN;rw[g];cases e:tab.Kh T.f l with
  |none=>simp[c]
  |some a=>simp_all
 unfold Tb.MH;rw[if_pos h];split
 · rename_i e;subst e;exact tab.Ft _ _ _
 · rename_i e;exact tab.DS e _
section
variable (l:List En)(next:Int)(k:Nat)
theorem BW:(LL l next k).length=k:=by simp[LL]
theorem tx(i:Nat):(LL l next k)[i]? =if i<k then some (match l[i]? with|some e=>{e with s:=next+i}|none=>pad)else none:=by
 unfold LL;grind
end
structure Fit (e:En) (n:Nat):Prop where
 ok:e.ok
 role:MP e.r=true
 MV:0≤e.l∧e.l<(n:Int)
 none:e.r≠1→e.d=an
theorem aM:an.length=16∧∀y∈an,y<256:=by decide+kernel
theorem GI:pad.ok:=aM
open JT (Nd Blk Cel)
open tal (Ty Sb ML)
open tab (Tb At6 M3 MQ MP)
structure Fl (D:Dv) (R:Nat→List RR):Prop where
 lg:Lg D.N R
 alive:∀d,K8 D.N d=false
 dim:D.Y.D=D.N.D∧D.Y.B=D.N.B∧D.Y.P=D.N.P
 dead:D.Y.dead=0
 sbl:D.Y.sb.length=D.N.B
 sb:∀(b:Nat) (s:Sb),D.Y.sb[b]? =some s→s.bad=0∧s.held=false∧(s.used=false→R b=[])
 mask:∀b,b<D.N.B→∀x∈R b,x.m=(MJ D.N.D:Int)
 pen:D.p.op= -1∨∃b:Nat,b<D.N.B∧D.p.op=(b:Int)∧D.p.row=((R b).length:Int)∧D.p.mask=(MJ D.N.D:Int)∧D.Y.blank b=false
 next:1≤D.p.next
 ents:∀b,b<D.N.B→∀e r s,Oh R e b r s→1≤e.s∧e.s<D.p.next∧Fit e D.T.logical
 uniq:∀b b',b<D.N.B→b'<D.N.B→∀e e' r r' s s',Oh R e b r s→Oh R e' b' r' s'→e.s=e'.s→b=b'∧r=r'∧s=s'
 tok:D.T.ok
 tb:∀j a,tab.Kh D.T.f j=some a→∃b e r s,b<D.N.B∧Oh R e b r s∧e.l=j∧a=⟨(b:Int),(r:Int),(s:Int),(MJ D.N.D:Int),e.s,e.r⟩∧∀b',b'<D.N.B→∀e' r' s',Oh R e' b' r' s'→e'.l=j→e'.s≤e.s
 tbn:∀j,tab.Kh D.T.f j=none→∀b,b<D.N.B→∀e r s,Oh R e b r s→e.l≠j
section
variable {D:Dv}{R:Nat→List RR}
theorem Fl.geo(h:Fl D R):3≤D.N.D∧D.N.D≤6∧8≤D.N.B∧D.N.B≤16∧2≤D.N.P∧D.N.P≤8:=h.lg.ok.geo
theorem Fl.Ld(h:Fl D R):JV (MJ D.N.D:Int)=((D.N.D-1:Nat):Int):=by
 have:=h.geo;rw[vS _ (by omega) (by omega)];omega
theorem Fl.QW(h:Fl D R){b:Nat}(e:b<D.N.B):D.Y.mask (b:Int)=MJ D.N.D:=by
 have c:=ej (l:=D.Y.sb) (i:=b) (by rw[h.sbl];exact e);obtain⟨f,-,-⟩:=h.sb b _ c;unfold Ty.mask;rw[tal.ru c];simp only;rw[f];unfold Ty.alive MJ;rw[h.dead,h.dim.1]
theorem Fl.usable(h:Fl D R){b:Nat}(c:b<D.N.B):D.Y.usable (b:Int)=true:=by
 have:=h.geo;unfold Ty.usable;rw[h.QW c,h.Ld];grind
end
open JT (Nd Blk Cel)
open tal (Ty Sb ML)
open tab (Tb At6 M3 MQ MP Kw)
open pick (LJ Lx M8 LI Ly LO LQ KN NM M4 OD Mx)
theorem xd{Y:Ty}{b:Nat}(f:Sb→Sb)(j:Nat):(Y.upd (b:Int) f).sb[j]? =if j=b then(Y.sb[j]?).map f else Y.sb[j]? :=by
 unfold Ty.upd;grind
theorem Eg(Y:Ty)(b:Int)(f:Sb→Sb):(Y.upd b f).sb.length=Y.sb.length:=by
 unfold Ty.upd;grind
theorem AE(Y:Ty)(b:Int)(f:Sb→Sb):(Y.upd b f).dead=Y.dead:=by
 unfold Ty.upd;grind
structure Wr (b:Nat) (Y Z:Ty):Prop where
 dim:Dim Z Y
 dead:Z.dead=Y.dead
 len:Z.sb.length=Y.sb.length
 other:∀j,j≠b→Z.sb[j]? =Y.sb[j]?
 this:∀s,Y.sb[b]? =some s→∃x,Z.sb[b]? =some ⟨x,s.bad,s.used,s.held⟩
theorem Wr.refl(b:Nat)(Y:Ty):Wr b Y Y:=⟨Dim.refl _,rfl,rfl,fun _ _=>rfl,fun s h=>⟨s.Lp,h⟩⟩
theorem Wr.OI{b:Nat}{Y Z:Ty}(h:Wr b Y Z)(n:Int):Wr b Y (Z.OI (b:Int) n):=by
 unfold Ty.OI;refine⟨(cD _ _ _).trans h.dim,(AE _ _ _).trans h.dead,(Eg _ _ _).trans h.len,fun j hj=> ?_,fun s c=> ?_⟩
 · rw[xd,if_neg hj];exact h.other j hj
 · obtain⟨x,e⟩:=h.this s c
   rw[xd,if_pos rfl,e];simp
section
variable {D:Dv}{R:Nat→List RR}
theorem Fl.Q4(h:Fl D R){b:Nat}(e:b<D.N.B):∃w u,D.Y.sb[b]? =some ⟨w,0,u,false⟩∧D.Y.blank (b:Int)= !u∧(u=false→R b=[]):=by
 have f:b<D.Y.sb.length:=by rw[h.sbl];exact e
 have c:=ej (l:=D.Y.sb) (i:=b) f;obtain⟨g,j,k⟩:=h.sb b _ c;refine⟨D.Y.sb[b].Lp,D.Y.sb[b].used,?_,?_,k⟩
 · rw[c,←g,←j]
 · unfold Ty.blank
   rw[tal.ru c]
theorem Fl.O3(h:Fl D R){b:Nat}(c:b<D.N.B)(e:D.Y.blank (b:Int)=true):R b=[]:=by
 obtain⟨w,u,f,g,i⟩:=h.Q4 c;simp_all
theorem Fl.QY(h:Fl D R){b:Nat}(f:Kw D.T.f (b:Int)≠0):b<D.N.B∧R b≠ []∧∃j a,tab.Kh D.T.f j=some a∧a.b=(b:Int):=by
 have:∃p,p∈D.T.f∧p.2.b=(b:Int):=by
  unfold Kw at f;cases e:D.T.f.filter (fun p=>decide (p.2.b=(b:Int)))with
  |nil=>simp_all
  |cons p l=>
   have c:p∈D.T.f.filter (fun p=>decide (p.2.b=(b:Int))):=by rw[e];simp
   grind
 obtain⟨p,c,i⟩:=this;have g:tab.Kh D.T.f p.1=some p.2:=tab.vR h.tok.nodup c;obtain⟨k,e,r,s,m,⟨x,n,-⟩,-,o,-⟩:=h.tb p.1 p.2 g;grind
theorem Fl.QF(h:Fl D R){b:Nat}(c:b<D.N.B):NM D.Y D.T b=D.Y.blank (b:Int):=by
 unfold NM;rw[h.usable c];cases e:D.Y.blank (b:Int)with
 |false=>rfl
 |true=>
  have:Kw D.T.f (b:Int)=0:=Classical.byContradiction fun f=>(h.QY f).2.1 (h.O3 c e)
  unfold Mx;simp_all
theorem Fl.Pt(h:Fl D R){b:Nat}(c:b<D.N.B):M4 D.Y D.T b=(!D.Y.blank (b:Int)&&decide (Kw D.T.f (b:Int)=0)):=by
 obtain⟨w,u,e,g,i⟩:=h.Q4 c
 have f:D.Y.held (b:Int)=false:=by
  unfold Ty.held;rw[tal.ru e]
 unfold M4 Mx;rw[h.usable c,f];simp
def Dv.F(D:Dv):Nat:=((ed D.N.B).filter fun b:Nat=>D.Y.blank (b:Int)).length
theorem Fl.Q2(h:Fl D R){b:Nat}(c:D.p.op=(b:Int)):D.Y.blank (b:Int)=false:=by
 rcases h.pen with e|⟨f,g,i,j,k,l⟩
 · omega
 simp_all
theorem Fl.QH(h:Fl D R):LJ D.Y D.T D.p.op=(ed D.N.B).filter fun b:Nat=>D.Y.blank (b:Int):=by
 unfold LJ KN;rw[h.dim.2.1];refine js fun b c=> ?_;rw[gg]at c;rw[h.QF c];cases f:D.Y.blank (b:Int)with
 |false=>simp
 |true=>
  have:(b:Int)≠D.p.op:=fun e=>by
   have:=h.Q2 e.symm;simp_all
  simp_all
theorem Fl.QB(h:Fl D R):D.On=D.F:=by
 unfold Dv.On Dv.F;rw[h.QH]
end
open JT (Nd Blk Cel)
open tal (Ty Sb ML)
open tab (Tb At6 M3 MQ MP Kw)
open pick (LJ Lx M8 LI Ly LO LQ KN NM M4 OD Mx)
def cv(D:Dv)(j:Int):Option (Int×List Nat):=(tab.Kh D.T.f j).map fun a=>((Km D.N a.b a.r a.s a.m).1.r,(Km D.N a.b a.r a.s a.m).1.d)
section
variable {D D':Dv}{R R':Nat→List RR}
theorem Fl.Qo(h:Fl D R){b r s:Nat}{e:En}(f:b<D.N.B)(k:Oh R e b r s):Km D.N b r s (MJ D.N.D)=(e,0):=by
 obtain⟨g1,g2,g3,g4,g5,g6⟩:=h.geo;obtain⟨x,c,g,q⟩:=k;have i:=h.mask b f x (jg c);have l:r<D.N.P:=jw (ek.1 c).1 (h.lg.len b);have j:=qO h.lg ⟨f,l⟩ c g;rw[h.alive,if_neg (by simp),i]at j;obtain⟨n,o,t,u,w,z⟩:=(h.lg.row b f r x c).1.bounds
 have p:(s:Int)<JV (MJ D.N.D:Int):=by
  have:=(ek.1 g).1;rw[←i];omega
 obtain⟨d0,-⟩:=bX (m:=(MJ D.N.D:Int)) (by omega) n.1 o.1 p;have A:D.N.inG ⟨0,b,r⟩=true:=by simp[Nd.inG];omega
 unfold Km;rw[if_neg (by simp_all),h.lg.calm.on,if_neg (by simp),hZ,j];rfl
theorem Fl.top(h:Fl D R){j:Int}{a:At6}(g:tab.Kh D.T.f j=some a):∃b e r s,b<D.N.B∧Oh R e b r s∧e.l=j∧a=⟨(b:Int),(r:Int),(s:Int),(MJ D.N.D:Int),e.s,e.r⟩∧cv D j=some (e.r,e.d)∧Km D.N a.b a.r a.s a.m=(e,0):=by
 obtain⟨b,e,r,s,c,f,i,k,l⟩:=h.tb j a g;have m:=h.Qo c f;refine⟨b,e,r,s,c,f,i,k,?_,by simp_all⟩;unfold cv;simp_all
theorem ya{j:Int}:cv D j=none↔tab.Kh D.T.f j=none:=by
 unfold cv;simp
theorem Fl.QO(h:Fl D R)(f:Fl D' R')(n:D'.T.f=D.T.f)(o:D'.N.D=D.N.D∧D'.N.B=D.N.B)(g:∀j a,tab.Kh D.T.f j=some a→∀(b:Nat) e r s,a.b=(b:Int)→Oh R e b r s→Oh R' e b r s)(j:Int):cv D' j=cv D j:=by
 cases c:tab.Kh D.T.f j with
 |none=>rw[ya.2 c,ya.2 (by simp_all)]
 |some a=>
  obtain⟨b,e,r,s,p,i,q,k,l,t⟩:=h.top c;have m:=g j a c b e r s (by rw[k]) i;have u:=f.Qo (by omega) m;rw[l];unfold cv;simp_all
structure Cl (D:Dv) (R:Nat→List RR) (l:List Nat) (D':Dv) (R':Nat→List RR):Prop where
 fl:Fl D' R'
 t:D'.T=D.T
 p:D'.p=D.p
 nd:D'.N.D=D.N.D∧D'.N.B=D.N.B∧D'.N.P=D.N.P
 rows:∀b,R' b=if b∈l then []else R b
 blank:∀b:Nat,D'.Y.blank (b:Int)=if b∈l then true else D.Y.blank (b:Int)
 ops:D'.N.ops=D.N.ops+D.N.D*l.length
 broken:D'.N.broken=D.N.broken
theorem Fl.Qi(h:Fl D R){b:Nat}:b∈Lx D.Y D.T D.p.op↔b<D.N.B∧D.p.op≠(b:Int)∧D.Y.blank (b:Int)=false∧Kw D.T.f (b:Int)=0:=by
 unfold Lx KN;rw[eD,gg,h.dim.2.1];constructor
 · rintro ⟨c,e⟩
   rw[h.Pt c]at e;grind
 · rintro ⟨c,e,f,g⟩
   rw[h.Pt c,f,g];grind
theorem Cl.cv{l:List Nat}(c:Cl D R l D' R')(h:Fl D R)(f:∀b∈l,Kw D.T.f (b:Int)=0)(j:Int):dev.cv D' j=dev.cv D j:=by
 refine h.QO c.fl (by rw[c.t]) ⟨c.nd.1,c.nd.2.1⟩ (fun j a g b e r s q i=> ?_) j;obtain⟨x,k,m⟩:=i;refine⟨x,?_,m⟩;rw[c.rows b,if_neg]
 · exact k
 · intro n
   have:=f b n;have o:=tab.xT g;have t:(j,a)∈D.T.f.filter (fun p=>decide (p.2.b=(b:Int))):=eD.2 ⟨o,by simp_all⟩;unfold Kw at this;grind
theorem Cl.F{l:List Nat}(c:Cl D R l D' R')(f:∀b∈l,b<D.N.B∧D.Y.blank (b:Int)=false)(e:l.Nodup):D'.F=D.F+l.length:=by
 have key:∀n (l:List Nat),l.Nodup→(∀b∈l,b<n∧D.Y.blank (b:Int)=false)→((ed n).filter fun b:Nat=>if b∈l then true else D.Y.blank (b:Int)).length=((ed n).filter fun b:Nat=>D.Y.blank (b:Int)).length+l.length:=by
  intro n;induction n with
  |zero=>
   intro l e f
   have:l=[]:=by
    cases l with
    |nil=>rfl
    |cons a l=>have:=(f a (by simp)).1;omega
   simp_all
  |succ n h=>
   intro l e f;rw[hG,hX,hX,jm,jm];by_cases q:n∈l
   · have e1:((ed n).filter fun b:Nat=>if b∈l then true else D.Y.blank (b:Int))=(ed n).filter fun b:Nat=>if b∈l.erase n then true else D.Y.blank (b:Int):=by
      refine js fun b g=> ?_;rw[gg]at g
      have:b∈l.erase n↔b∈l:=by
       rw[e.mem_erase_iff];exact⟨fun z=>z.2,fun z=>⟨by omega,z⟩⟩
      by_cases z:b∈l
      · simp_all
      · simp_all
     rw[e1,h (l.erase n) (e.erase n) fun b g=> ?_]
     · grind
     grind
   · rw[h l e fun b g=> ?_]
     · have i:([n].filter fun b:Nat=>if b∈l then true else D.Y.blank (b:Int))=[n].filter fun b:Nat=>D.Y.blank (b:Int):=js fun b g=>by simp_all
       grind
     grind
 unfold Dv.F;rw[c.nd.2.1,←key D.N.B l e f];congr 1;exact js fun b _=>c.blank b
end
open JT (Nd Blk Cel)
open tal (Ty Sb ML)
open tab (Tb At6 M3 MQ MP Kw)
open pick (LJ Lx M8 LI Ly LO LQ KN NM M4 OD Mx)
def Dv.Ph(D:Dv):Nat:=D.F*D.N.P+(if D.p.op= -1 then 0 else D.N.P-D.p.row.toNat)
structure Wr1 (D:Dv) (D':Dv) (R':Nat→List RR) (k:Nat):Prop where
 fl:Fl D' R'
 nd:D'.N.D=D.N.D∧D'.N.B=D.N.B∧D'.N.P=D.N.P
 log:D'.T.logical=D.T.logical
 ph:D'.Ph+k=D.Ph
 next:D'.p.next≤D.p.next+5*k
 ops:D'.N.ops≤D.N.ops+6*k
 broken:D'.N.broken=D.N.broken
 used:∀v:Nat,D.Y.blank (v:Int)=false→D'.Y.blank (v:Int)=false
 op:∀v:Nat,v<D.N.B→D.Y.blank (v:Int)=false→D.p.op≠(v:Int)→D'.p.op≠(v:Int)
 free:D.F≤D'.F+k
theorem Wr1.refl{D:Dv}{R:Nat→List RR}(h:Fl D R):Wr1 D D R 0:=⟨h,⟨rfl,rfl,rfl⟩,rfl,rfl,by omega,by omega,rfl,fun _ h=>h,fun _ _ _ h=>h,by omega⟩
theorem Wr1.trans{D c e:Dv}{i f:Nat→List RR}{k g:Nat}(h:Wr1 D c i k)(b:Wr1 c e f g):Wr1 D e f (k+g)where
 fl:=b.fl
 nd:=⟨b.nd.1.trans h.nd.1,b.nd.2.1.trans h.nd.2.1,b.nd.2.2.trans h.nd.2.2⟩
 log:=b.log.trans h.log
 ph:=by have:=h.ph;have:=b.ph;omega
 next:=by have:=h.next;have:=b.next;omega
 ops:=by have:=h.ops;have:=b.ops;omega
 broken:=b.broken.trans h.broken
 used v hv:=b.used v (h.used v hv)
 op v hb hv ho:=b.op v (by rw[h.nd.2.1];exact hb) (h.used v hv) (h.op v hb hv ho)
 free:=by have:=h.free;have:=b.free;omega
section
variable {D:Dv}{R:Nat→List RR}
end
open JT (Nd Blk Cel)
open tal (Ty Sb ML)
open tab (Tb At6 M3 MQ MP Kw)
open pick (LJ Lx M8 LI Ly N9 LO LQ KN NM M4 OD Mx)
theorem vM{N:Nd}(h:3≤N.D∧N.D≤6∧8≤N.B∧N.B≤16∧2≤N.P∧N.P≤8):2*Lj N≤(N.B-5)*(N.P*(N.D-2))+1:=by
 obtain⟨g1,g2,g3,g4,g5,g6⟩:=h
 have c:Oc (N.D:Int) N.B N.P=true:=by
  unfold Oc wiB;simp only[fo,decide_eq_true_eq];omega
 unfold Lj O8;rw[if_pos c];obtain⟨b,e⟩:∃b,N.B=b+5:=⟨N.B-5,by omega⟩;obtain⟨d,f⟩:∃d,N.D=d+2:=⟨N.D-2,by omega⟩;rw[e,f];grind
section
variable {D:Dv}{R:Nat→List RR}
structure Rm (D:Dv) (D':Dv) (R':Nat→List RR) (k:Nat):Prop where
 fl:Fl D' R'
 nd:D'.N.D=D.N.D∧D'.N.B=D.N.B∧D'.N.P=D.N.P
 log:D'.T.logical=D.T.logical
 cv:∀j,cv D' j=cv D j
 next:D'.p.next≤D.p.next+25*k
 ops:D'.N.ops≤D.N.ops+130*k
 broken:D'.N.broken=D.N.broken
theorem Rm.refl(h:Fl D R):Rm D D R 0:=⟨h,⟨rfl,rfl,rfl⟩,rfl,fun _=>rfl,by omega,by omega,rfl⟩
theorem Rm.trans{D c e:Dv}{i f:Nat→List RR}{k g:Nat}(h:Rm D c i k)(b:Rm c e f g):Rm D e f (k+g)where
 fl:=b.fl
 nd:=⟨b.nd.1.trans h.nd.1,b.nd.2.1.trans h.nd.2.1,b.nd.2.2.trans h.nd.2.2⟩
 log:=b.log.trans h.log
 cv j:=(b.cv j).trans (h.cv j)
 next:=by have:=h.next;have:=b.next;omega
 ops:=by have:=h.ops;have:=b.ops;omega
 broken:=b.broken.trans h.broken
theorem Rm.mono{b:Dv}{c:Nat→List RR}{k e:Nat}(h:Rm D b c k)(f:k≤e):Rm D b c e:=⟨h.fl,h.nd,h.log,h.cv,by have:=h.next;omega,by have:=h.ops;omega,h.broken⟩
end
open JT (Nd Blk Cel)
open tal (Ty Sb ML)
open tab (Tb At6 M3 MQ MP Kw)
theorem yu(l:List Fd)(g:∀f∈l,f.whole=true):(l=[]∧ON l=[])∨∃m r,ON l=m::r∧m∈l∧∀f∈l,f.e.s≤m.e.s:=by
 have i:∀a b:Fd,a.whole=true→b.whole=true→behind a b=decide (a.e.s<b.e.s):=fun a b o i=>by
  unfold behind;grind
 have key:∀(l out:List Fd) (seen:List Fd),(∀f∈l,f.whole=true)→(∀f∈seen,f.whole=true)→((seen=[]∧out=[])∨∃m r,out=m::r∧m∈seen∧∀f∈seen,f.e.s≤m.e.s)→((seen++l=[]∧l.foldl MI out=[])∨∃m r,l.foldl MI out=m::r∧m∈seen++l∧∀f∈seen++l,f.e.s≤m.e.s):=by
  intro l;induction l with
  |nil=>simp
  |cons f l j=>
   intro out seen c k h;rw[List.foldl_cons,show seen++f::l=(seen++[f])++l by simp];refine j (MI out f) (seen++[f]) (fun x e=>c x (by simp[e])) (fun x e=> ?_) ?_
   · grind
   right;rcases h with⟨rfl,rfl⟩|⟨m,r,rfl,n,p⟩
   · exact⟨f,[],rfl,by simp,by simp⟩
   · have q:=k m n
     have t:=c f (by simp);unfold MI;grind
 have:=key l [] [] g (by simp) (.inl ⟨rfl,rfl⟩);rwa [py]at this
section
variable {N:Nd}{R:Nat→List RR}
theorem oH(h:Lg N R)(j:∀d,K8 N d=false){f:Fd}:f∈Kc N↔∃(b:Nat) (e:En) (r s:Nat) (x:RR),b<N.B∧(R b)[r]? =some x∧x.es[s]? =some e∧e.r≠3∧f=⟨e,(b:Int),(r:Int),(s:Int),x.m,true,false⟩:=by
 obtain⟨g1,g2,g3,g4,g5,g6⟩:=h.ok.geo
 have o:0<O6 N:=by
  have p:0∈(ed N.D).filter fun d=> !K8 N d:=eD.2 ⟨gg.2 (by omega),by simp_all⟩
  exact List.length_pos_of_mem p
 have B:∀b r,b<N.B→r<N.P→(f∈KK N b r↔∃(e:En) (s:Nat) (x:RR),(R b)[r]? =some x∧x.es[s]? =some e∧e.r≠3∧f=⟨e,(b:Int),(r:Int),(s:Int),x.m,true,false⟩):=fun b r c g=>by
  unfold KK;rw[Cf h ⟨c,g⟩ o];cases k:(R b)[r]? with
  |none=>simp
  |some x=>
   obtain⟨i,t,u⟩:=h.row b c r x k;obtain⟨C,D,E,G,H,I⟩:=i.bounds;have w:Two N x.m:=fun d J _ _ q=>by simp_all
   have z:(Lf N b r x.m).sl.length=x.es.length:=by
    exact yd2
   have K:∀s e,x.es[s]? =some e→KV (Lf N b r x.m) b r x.m s=if e.r=3 then none else some ⟨e,(b:Int),(r:Int),(s:Int),x.m,true,false⟩:=fun s e m=>by
    rw[CO h ⟨c,g⟩ k w m,j,j];rfl
   simp only[List.flatMap_cons,List.flatMap_nil,List.append_nil];unfold allM;rw[List.mem_filterMap,z];constructor
   · rintro ⟨s,n,q⟩
     rw[gg]at n;have m:=ej (l:=x.es) n;grind
   grind
 unfold Kc KA;rw[List.mem_flatMap];constructor
 · rintro ⟨b,c,q⟩
   rw[gg]at c;unfold Lk at q;grind
 · rintro ⟨b,e,r,s,x,c,i,t,u,L⟩
   refine⟨b,gg.2 c,?_⟩;unfold Lk;have g:r<N.P:=jw (ek.1 i).1 (h.len b);grind
end
theorem pL(l:List Fd)(n:Nat)(e:n≤65536)(g:∀f∈l,MP f.e.r=true∧wfI f.b):∀k,k≤n→(Lm l n k).ok∧(Lm l n k).logical=n∧∀j:Int,tab.Kh (Lm l n k).f j=if 0≤j∧j<(k:Int)then(K4 l j.toNat).map fun f=>⟨f.b,f.r,f.s,f.m,f.e.s,f.e.r⟩else none
 |0,_=>⟨⟨e,by simp[Lm],by simp[Lm],by simp[Lm]⟩,rfl,fun j=>by rw[if_neg (by omega)];rfl⟩
 |k+1,A=>by
  obtain⟨i,B,C⟩:=pL l n e g k (by omega)
  have o:Lm l n (k+1)=match K4 l k with|some f=>(Lm l n k).MH f.e.l f.e.s f.e.r f.b f.r f.s f.m|none=>Lm l n k:=by
   unfold Lm;rw[hG,kk];rfl
  rw[o];cases h:K4 l k with
  |none=>
   grind
  |some f=>
   have p:f∈l∧f.e.l=(k:Int):=by
    unfold K4 at h
    have t:∀(l:List Fd),∀x∈ON l,x∈l:=by
     intro l
     have key:∀(l out:List Fd),∀x∈l.foldl MI out,x∈out∨x∈l:=by
      intro l;induction l with
      |nil=>simp
      |cons a l u=>
       intro out x c;rcases u (MI out a) x c with q|q
       · unfold MI at q
         grind
       simp_all
     intro x c;rcases key l [] x c with q|q
     · grind
     · exact q
    have:=t _ f (List.mem_of_head? h);rw[eD]at this;exact⟨this.1,by simp_all⟩
   obtain⟨w,z⟩:=g f p.1;simp only;obtain⟨t1,t2⟩:=Em i f.e.l f.e.s f.e.r f.r f.s f.m z
   have D:=EF (T:=Lm l n k) (b:=f.b) (row:=f.r) (slot:=f.s) (m:=f.m) (l:=f.e.l) (s:=f.e.s) (r:=f.e.r) (by omega) w (fun a E=>by
    simp_all)
   grind
theorem oi:∀(l:List Fd) (x:Int),x≤Lc l x∧(∀f∈l,f.e.s<Lc l x)∧∀y,x≤y→(∀f∈l,f.e.s<y)→Lc l x≤y
 |[],x=>⟨tr _,by simp,fun y h _=>h⟩
 |f::l,x=>by
  obtain⟨i,j,c⟩:=oi l (max x (f.e.s+1));refine⟨?_,fun g b=> ?_,fun y k e=>c y ?_ fun g b=>e g (by simp[b])⟩
  · show x≤Lc l (max x (f.e.s+1));omega
  · show g.e.s<Lc l (max x (f.e.s+1))
    grind
  grind
open JT (Nd Blk Cel)
open tal (Ty Sb ML)
open tab (Tb At6 M3 MQ MP Kw)
section
variable {D:Dv}{R:Nat→List RR}{N:Nd}
theorem oZ(l:List Bool)(h:∀d,l.getD d false=false)(k:Nat):Pe l k=0:=by
 unfold Pe;induction k with
 |zero=>rfl
 |succ k b=>
  rw[hG,kk,b];simp_all
theorem nA(c:Lg N R)(f:∀d,K8 N d=false){b:Nat}(g:b<N.B):∃w,(KH N).sb[b]? =some ⟨w,0,decide (R b≠ []),false⟩:=by
 obtain⟨g1,g2,g3,g4,g5,g6⟩:=c.ok.geo;obtain⟨t1,t2,t3,t4,t5⟩:=cV N g2;obtain⟨i,j⟩:=nF N b (MB N) Sb.none N.D;have k:=pQ N b (MB N) N.D
 have l:MB N=MJ N.D:=by
  unfold MB MJ;rw[oZ _ f];refine(qC _ ?_).symm;exact tal.yf _ (tal.uH _ g2).2 _ (by omega)
 refine⟨(NS N b (MB N) Sb.none N.D).Lp,?_⟩;rw[t5 b g]
 have e3:(NS N b (MB N) Sb.none N.D).used=decide (R b≠ []):=by
  have o:(NS N b (MB N) Sb.none N.D).used=true↔R b≠ []:=by
   rw[k];constructor
   · rintro ⟨d,m,p,h⟩ e
     rw[c.cells d m (f d) b g,e]at h;exact Nat.lt_irrefl _ h
   · intro n
     refine⟨0,by omega,?_,?_⟩
     · rw[l,CJ g2 0]
       grind
     · rw[c.cells 0 (by omega) (f 0) b g]
       have:0<(R b).length:=List.length_pos_iff.2 n
       simp only[pgs,List.length_map,List.length_zipIdx];omega
  by_cases q:R b=[]
  · grind
  · simp_all
 show some (NS N b (MB N) Sb.none N.D)=_;congr 1;have e1:(NS N b (MB N) Sb.none N.D).bad=0:=i;have e2:(NS N b (MB N) Sb.none N.D).held=false:=j;cases r:NS N b (MB N) Sb.none N.D with
 |mk w bd t u=>
  simp_all
theorem Fl.Ro(h:Fl D R)(C:Lg N R)(ha:∀d,K8 N d=false)(l:N.D=D.N.D∧N.B=D.N.B∧N.P=D.N.P)(aa:D.T.logical=Lj N):
 Fl (KD N) R∧(∀j,tab.Kh (KD N).T.f j=tab.Kh D.T.f j)∧(KD N).T.logical=Lj N∧(KD N).p.next≤D.p.next∧D.F≤(KD N).F∧(NY N (Lj N)).Mm=[]∧(NY N (Lj N)).held=[]:=by
 obtain⟨g1,g2,g3,g4,g5,g6⟩:=C.ok.geo;have ab:∀f,f∈Kc N↔∃(b:Nat) (e:En) (r s:Nat) (x:RR),b<N.B∧(R b)[r]? =some x∧x.es[s]? =some e∧e.r≠3∧f=⟨e,(b:Int),(r:Int),(s:Int),x.m,true,false⟩:=fun f=>oH C ha
 have U:∀f∈Kc N,∃b e r s,b<N.B∧Oh R e b r s∧f=⟨e,(b:Int),(r:Int),(s:Int),(MJ N.D:Int),true,false⟩:=fun f p=>by
  obtain⟨b,e,r,s,x,h1,h2,h3,h4,h5⟩:=(ab f).1 p;have:=h.mask b (by omega) x (jg h2);refine⟨b,e,r,s,h1,⟨x,h2,h3,h4⟩,?_⟩;simp_all
 have ad:∀f∈Kc N,f.whole=true:=fun f p=>by
  grind
 have M:∀b e r s,b<N.B→Oh R e b r s→(⟨e,(b:Int),(r:Int),(s:Int),(MJ N.D:Int),true,false⟩:Fd)∈Kc N:=fun b e r s c i=>by
  obtain⟨x,h2,h3,h4⟩:=i;have:=h.mask b (by omega) x (jg h2);grind
 have O:∀b e r s,b<N.B→Oh R e b r s→1≤e.s∧e.s<D.p.next∧Fit e (Lj N):=fun b e r s c i=>by
  have:=h.ents b (by omega) e r s i;grind
 have P:∀j:Nat,(K4 (Kc N) j=none∧∀b e r s,b<N.B→Oh R e b r s→e.l≠(j:Int))∨∃b e r s,b<N.B∧Oh R e b r s∧e.l=(j:Int)∧K4 (Kc N) j=some ⟨e,(b:Int),(r:Int),(s:Int),(MJ N.D:Int),true,false⟩∧∀k m u w,k<N.B→Oh R m k u w→m.l=(j:Int)→m.s≤e.s:=fun j=>by
  have ae:∀f∈(Kc N).filter (fun f=>f.e.l==(j:Int)),f.whole=true:=fun f p=>ad f (eD.1 p).1
  rcases yu _ ae with⟨h1,h2⟩|⟨af,rr,h1,h2,h3⟩
  · left
    refine⟨by unfold K4;grind,fun b e r s c i q=> ?_⟩;have:=M b e r s c i;have hm:(⟨e,(b:Int),(r:Int),(s:Int),(MJ N.D:Int),true,false⟩:Fd)∈(Kc N).filter (fun f=>f.e.l==(j:Int)):=eD.2 ⟨this,by grind⟩;grind
  · right
    rw[eD]at h2;obtain⟨b,e,r,s,H,z,I⟩:=U af h2.1
    have ag:e.l=(j:Int):=by
     have:=h2.2;rw[I]at this;simpa using this
    refine⟨b,e,r,s,H,z,ag,?_,fun k m u w E ah av=> ?_⟩
    · unfold K4
      grind
    · have:=M k m u w E ah
      have hm:=h3 _ (eD.2 ⟨this,by grind⟩);grind
 have ai:∀f∈Kc N,MP f.e.r=true∧wfI f.b:=fun f p=>by
  obtain⟨b,e,r,s,h1,h2,rfl⟩:=U f p;exact⟨(O b e r s h1 h2).2.2.role,bw (by simp) (by grind)⟩
 have aj:Lj N≤65536:=by rw[←aa];exact h.tok.log
 obtain⟨t1,t2,t3⟩:=pL (Kc N) (Lj N) aj ai (Lj N) (jd _)
 have ak:OG N (Kc N) (Lj N)=[]:=by
  unfold OG;rw[List.flatMap_eq_nil_iff];intro j _;rcases P j with⟨e,-⟩|⟨b,e,r,s,-,-,-,e,-⟩<;>rw[e]
  simp
 have al:KU N (Kc N) (Lj N)=[]:=by
  unfold KU;rw[kb];intro j _;grind
 have an:Nq N (Kc N) (Lj N)=[]:=by
  unfold Nq;rw[kb];intro j _;grind
 have V:(NY N (Lj N)).held=[]:=by
  show iP (MF (OG N (Kc N) (Lj N)))=[];rw[ak];rfl
 have ao:(NY N (Lj N)).Mm=[]:=by
  show KU N (Kc N) (Lj N)++Nq N (Kc N) (Lj N)=[];rw[al,an];rfl
 have G:(KD N).Y=KH N:=by
  unfold KD;rw[V];rfl
 have hT:(KD N).T=Lm (Kc N) (Lj N) (Lj N):=rfl
 have Q:∀j:Int,tab.Kh (KD N).T.f j=tab.Kh D.T.f j:=fun j=>by
  rw[hT,t3 j];cases W:tab.Kh D.T.f j with
  |none=>
   split
   · rename_i q
     have J:((j.toNat:Nat):Int)=j:=l4 q.1;rcases P j.toNat with⟨e,-⟩|⟨b,e,r,s,h1,h2,h3,-,-⟩
     · grind
     · exact absurd (h3.trans J) (h.tbn j W b (by omega) e r s h2)
   · rfl
  |some a=>
   obtain⟨b,e,r,s,h1,h2,h3,h4,h5⟩:=h.tb j a W;have c:b<N.B:=by rw[l.2.1];exact h1
   have S:=(O b e r s c h2).2.2.MV;rw[h3]at S;rw[if_pos S];have J:((j.toNat:Nat):Int)=j:=l4 S.1;rcases P j.toNat with⟨-,q⟩|⟨k,m,u,w,H,z,I,q4,q5⟩
   · grind
   · rw[q4]
     have u1:=q5 b e r s c h2 (h3.trans J.symm);have u2:=h5 k (by omega) m u w z (I.trans J);obtain⟨v1,v2,v3⟩:=h.uniq b k h1 (by omega) e m r u s w h2 z (by omega);subst v1 v2 v3;obtain⟨x,x1,x2,-⟩:=h2;obtain⟨y,y1,y2,-⟩:=z;grind
 obtain⟨n1,n2,n3⟩:=oi (Kc N) 1
 have X:(KD N).p.next=Lc (Kc N) 1:=by
  show max (Lc (Kc N) 1) 1=_;omega
 obtain⟨c1,c2,c3,c4,c5⟩:=cV N g2
 have aw:∀b,b<N.B→(KD N).Y.blank (b:Int)=decide (R b=[]):=fun b c=>by
  obtain⟨aq,Z⟩:=nA C ha c;rw[G];unfold Ty.blank;rw[tal.ru Z];simp
 have ar:Fl (KD N) R:=by
  refine⟨C,ha,?_,?_,?_,fun b s hs=> ?_,fun b c x i=> ?_,.inl rfl,?_,fun b c e r s i=> ?_,fun b k c E=>h.uniq b k (by rw[←l.2.1];exact c) (by rw[←l.2.1];exact E),?_,fun j a hj=> ?_,fun j hj b c e r s i=> ?_⟩
  · rw[G];exact c1
  · rw[G,c2,oZ _ ha]
  · rw[G];exact c4
  · rw[G]at hs
    have c:b<N.B:=by
     have:=(ek.1 hs).1;rw[c4]at this;exact this
    obtain⟨aq,Z⟩:=nA C ha c;grind
  · have:=h.mask b (by rw[←l.2.1];exact c) x i
    rw[this,←l.1];rfl
  · omega
  · obtain⟨H,z,I⟩:=O b e r s c i
    refine⟨H,?_,?_⟩
    · rw[X]
      exact n2 _ (M b e r s c i)
    grind
  · grind
  · rw[Q j]at hj
    obtain⟨b,e,r,s,h1,h2,h3,h4,h5⟩:=h.tb j a hj;refine⟨b,e,r,s,by rw[l.2.1.symm]at h1;exact h1,h2,h3,?_,fun k E=>h5 k (by rw[←l.2.1];exact E)⟩;rw[h4,←l.1];rfl
  · rw[Q j]at hj
    exact h.tbn j hj b (by rw[←l.2.1];exact c) e r s i
 refine⟨ar,Q,by grind,?_,?_,ao,V⟩
 · rw[X]
   refine n3 _ h.next fun f p=> ?_;grind
 · have au:∀n,n≤N.B→((ed n).filter fun b:Nat=>D.Y.blank (b:Int)).length≤((ed n).filter fun b:Nat=>(KD N).Y.blank (b:Int)).length:=by
    intro n;induction n with
    |zero=>simp
    |succ n ih=>
     intro hn;have:=ih (by omega);rw[hG,hX,hX,jm,jm];cases hk:D.Y.blank (n:Int)with
     |false=>grind
     |true=>
      have hR:=h.O3 (by omega) hk;grind
   unfold Dv.F;rw[←l.2.1];exact au N.B (jd _)
end
open JT (Nd Blk Cel)
open tal (Ty Sb ML)
open tab (Tb At6 M3 MQ MP Kw)
structure Up (F:Fv) (R:Nat→List RR):Prop where
 fl:Fl F.D R
 log:F.D.T.logical=Lj F.D.N
 free:4≤F.D.F
 off:F.off=false
 fit:∀e∈F.JX,Fit e F.D.T.logical
 nd:(F.JX.map (·.l)).Nodup
 len:F.JX.length≤F.D.N.D-1
structure Few (F F':Fv) (k:Nat):Prop where
 next:F'.D.p.next≤F.D.p.next+1000*k
 ops:F'.D.N.ops≤F.D.N.ops+5000*k
 broken:F'.D.N.broken=F.D.N.broken
 geo:F'.D.N.D=F.D.N.D∧F'.D.N.B=F.D.N.B∧F'.D.N.P=F.D.N.P
theorem Few.refl(F:Fv):Few F F 0:=⟨by omega,by omega,rfl,rfl,rfl,rfl⟩
theorem Few.trans{F c e:Fv}{k f:Nat}(h:Few F c k)(b:Few c e f):Few F e (k+f):=
 ⟨by have:=h.next;have:=b.next;omega,by have:=h.ops;have:=b.ops;omega,b.broken.trans h.broken,b.geo.1.trans h.geo.1,b.geo.2.1.trans h.geo.2.1,b.geo.2.2.trans h.geo.2.2⟩
section
variable {F:Fv}{R:Nat→List RR}
theorem Up.on(h:Up F R):F.D.N.off=false:=h.fl.lg.calm.on
theorem Up.KR(h:Up F R):F.KR=0:=by
 unfold Fv.KR;rw[h.off,h.on];rfl
theorem Up.ref(h:Up F R):F.ref=F:=by
 unfold Fv.ref;rw[h.off,h.on];obtain⟨D,l,n,o⟩:=F;have:=h.off;simp_all
theorem Up.told(h:Up F R):F.told 0=F:=by
 unfold Fv.told;simp
theorem Up.logical(h:Up F R):F.logical=F.D.T.logical:=h.log.symm
theorem Cq{N:Nd}{R:Nat→List RR}(h:Lg N R):Lg (N.cutAt (-1) 0).on R∧(∀d,K8 (N.cutAt (-1) 0).on d=K8 N d)∧((N.cutAt (-1) 0).on.D=N.D∧(N.cutAt (-1) 0).on.B=N.B∧(N.cutAt (-1) 0).on.P=N.P)∧(N.cutAt (-1) 0).on.ops=N.ops∧(N.cutAt (-1) 0).on.broken=N.broken:=by
 have e:(N.cutAt (-1) 0).on={N with Oy:=false,off:=false,left:= -1,keep:=0}:=by
  unfold Nd.cutAt Nd.on;rw[h.calm.on,if_neg (by simp)];rfl
 rw[e];exact⟨⟨⟨h.ok.geo,h.ok.dead,h.ok.len,h.ok.MV,(fun q=>absurd q (by simp)),lx _,h.ok.Kt⟩,⟨rfl,rfl,h.calm.Kt,h.calm.fine⟩,h.row,h.len,h.cells⟩,fun d=>rfl,⟨rfl,rfl,rfl⟩,rfl,rfl⟩
theorem Cp{D B P:Nat}(h:3≤D∧D≤6∧8≤B∧B≤16∧2≤P∧P≤8):Lg (Nd.new D B P) (fun _=> [])∧∀d,K8 (Nd.new D B P) d=false:=by
 refine⟨⟨JT.Nd.PQ h,⟨rfl,rfl,rfl,fun _ _=>⟨rfl,rfl⟩⟩,fun b _ r x c=>by simp_all,fun _=>lx _,fun d _ _ b _=>rfl⟩,fun d=> ?_⟩;show(fj D false).getD d false=false;grind
end
open JT (Nd Blk Cel)
open tal (Ty Sb ML)
open tab (Tb At6 M3 MQ MP Kw)
open pick (LJ Lx M8 LI Ly LO LQ KN NM M4 OD Mx)
def Pk(N:Nd):Dv:=⟨N,Ty.new N.D N.B N.P,⟨Lj N,[],1⟩,⟨-1,0,0,1⟩⟩
theorem i4{N:Nd}(h:3≤N.D∧N.D≤6∧8≤N.B∧N.B≤16∧2≤N.P∧N.P≤8):Lj N≤200:=by
 have:=vM h;have b:(N.B-5)*(N.P*(N.D-2))≤11*(8*4):=pz (by omega) (pz (by omega) (by omega));omega
theorem ll{e:En}{b r s:Nat}:¬Oh (fun _=> []) e b r s:=by
 rintro ⟨x,h,-⟩;grind
theorem H4{N:Nd}(f:Lg N (fun _=> []))(g:∀d,K8 N d=false):Fl (Pk N) (fun _=> [])∧(Pk N).F=N.B:=by
 have e:∀b:Nat,b<N.B→(Ty.new N.D N.B N.P).sb[b]? =some ⟨0,0,false,false⟩:=fun b e=>by
  show(fj N.B Sb.none)[b]? =_;rw[List.getElem?_replicate,if_pos e];rfl
 refine⟨⟨f,g,⟨rfl,rfl,rfl⟩,rfl,by show(fj N.B Sb.none).length=N.B;simp,fun b s i=> ?_,fun _ _ x c=>by simp_all,.inl rfl,tr _,fun _ _ _ _ _ c=>absurd c ll,fun _ _ _ _ _ _ _ _ _ _ c=>absurd c ll,⟨?_,by simp[Pk],by simp[Pk],by simp[Pk]⟩,(fun j a hj=>by cases hj),fun _ _ _ _ _ _ _ c=>absurd c ll⟩,?_⟩
 · have:=jg i
   have:s=Sb.none:=List.eq_of_mem_replicate this
   subst this;exact⟨rfl,rfl,fun _=>rfl⟩
 · show Lj N≤65536
   have:=i4 f.ok.geo;omega
 · unfold Dv.F
   have:(ed N.B).filter (fun b:Nat=>(Ty.new N.D N.B N.P).blank (b:Int))=ed N.B:=by
    rw[l5];intro b h;rw[gg]at h;unfold Ty.blank;rw[tal.ru (e b h)];rfl
   show((ed N.B).filter (fun b:Nat=>(Ty.new N.D N.B N.P).blank (b:Int))).length=N.B;grind
section
variable {N:Nd}
theorem ur{D:Dv}{R:Nat→List RR}(h:Fl D R)(e:∀b,b<D.N.B→D.Y.blank (b:Int)=true):D.clear=(D,0)∧D.room=(D,0):=by
 obtain⟨g1,g2,g3,g4,g5,g6⟩:=h.geo
 have i:Lx D.Y D.T D.p.op=[]:=by
  rw[List.eq_nil_iff_forall_not_mem];intro b c;obtain⟨j,-,f,-⟩:=h.Qi.1 c;rw[e b j]at f;cases f
 have g:D.clear=(D,0):=by
  unfold Dv.clear;rw[i];rfl
 refine⟨g,?_⟩
 have l:D.On=D.N.B:=by
  rw[h.QB];unfold Dv.F;rw[l5.2 fun b c=>e b (gg.1 c),nr]
 unfold Dv.room;rw[g];simp only[ne_eq,not_true_eq_false,if_false];obtain⟨n,k⟩:∃n,D.Y.B=n+1:=⟨D.Y.B-1,by rw[h.dim.2.1];omega⟩;rw[k];unfold Dv.MO;grind
structure Emp (D:Dv):Prop where
 fl:Fl D (fun _=> [])
 nil:∀j,tab.Kh D.T.f j=none
 log:D.T.logical=Lj D.N
 blank:∀b,b<D.N.B→D.Y.blank (b:Int)=true
theorem eT(c:Lg N (fun _=> []))(e:∀d,K8 N d=false):Mo N=(KD N,0)∧Emp (KD N):=by
 obtain⟨f1,f2⟩:=H4 c e;obtain⟨m1,m2,m3,m4,m5,m6,m7⟩:=f1.Ro c e ⟨rfl,rfl,rfl⟩ rfl
 have g:(KD N).Y=KH N:=by
  unfold KD;rw[m7];rfl
 have f:∀b,b<(KD N).N.B→(KD N).Y.blank (b:Int)=true:=fun b h=>by
  obtain⟨w,i⟩:=nA c e h;rw[g];unfold Ty.blank;rw[tal.ru i];rfl
 obtain⟨c1,c2⟩:=ur m1 f;refine⟨?_,m1,fun j=>(m2 j).trans rfl,m3,f⟩;unfold Mo;rw[c.calm.on,if_neg (by simp)];unfold Qe;rw[m6,m7];have k:∀D:Dv,D.Mm []=(D,0):=fun _=>rfl
 rw[List.take_nil,List.drop_nil,k];simp only[ne_eq,not_true_eq_false,if_false];have l:(KD N).Qg []=KD N:=rfl;simp_all
theorem oY{N:Nd}(b:∀d,K8 N d=false)(k:Nat)(Y:Ty):LN N k Y=Y:=by
 unfold LN;induction k with
 |zero=>rfl
 |succ k c=>
  rw[hG,kk,c];show(if N.dies (k:Int)then Y.Mu k else Y)=Y
  have:N.dies (k:Int)=false:=by
   unfold Nd.dies;rw[hZ];have:N.dead.getD k false=false:=b k
   rw[this];simp
  simp_all
theorem Emp.hurt{D:Dv}(h:Emp D):LI D.Y D.T=[]:=by
 unfold LI KN;rw[kn];intro b _
 have:D.T.inL (b:Int)=[]:=by
  unfold Tb.inL tab.Nc;rw[kn];intro j _;rw[h.nil (j:Int)];simp
 unfold pick.Pu;simp_all
theorem Emp.read{D:Dv}(h:Emp D){j:Nat}(hj:j<Lj D.N):(Ki D).read j=(an,0):=by
 have b:=h.fl.lg.calm.on;unfold Fv.read Fv.KR Ki;simp only;rw[b];simp only[Bool.or_self,l8,if_false,ne_eq,not_true_eq_false];have c:(⟨D,[],0,false⟩:Fv).logical=Lj D.N:=rfl;rw[c,if_neg (by omega)];have e:OA ([]:List En) (j:Int)=none:=rfl;simp only[e,h.nil]
theorem Emp.tick{D:Dv}(h:Emp D):(Ki D).tick=(Ki D,0)∧(Ki D).flush=(Ki D,0)∧(Ki D).whole=(Ki D,true)∧(Ki D).KR=0∧(Ki D).ref=Ki D:=by
 have e:=h.fl.lg.calm.on
 have b:(Ki D).KR=0:=by
  unfold Fv.KR Ki;simp only;rw[e];rfl
 have c:(Ki D).ref=Ki D:=by
  unfold Fv.ref Ki;simp only;rw[e];rfl
 have f:D.KJ=D:=by
  unfold Dv.KJ;rw[oY h.fl.alive]
 obtain⟨-,g⟩:=ur h.fl h.blank
 have i:D.step 4=(D,0,0):=by
  unfold Dv.step;rw[f,g];simp only[ne_eq,not_true_eq_false,if_false];rw[h.hurt]
 refine⟨?_,?_,?_,b,c⟩
 · unfold Fv.tick
   rw[b,c];simp only[ne_eq,not_true_eq_false,if_false];show(Fv.told {Ki D with D:=(D.step 4).1} (D.step 4).2.2,(D.step 4).2.2)=_;rw[i];rfl
 · unfold Fv.flush
   rw[b,c];rfl
 · unfold Fv.whole
   rw[b,c];simp only[ne_eq,not_true_eq_false,if_false]
   have j:(Ki D).KJ=Ki D:=by
    unfold Fv.KJ Ki;simp only;rw[oY h.fl.alive]
   rw[j];show(Ki D,D.Ok==0)=_;unfold Dv.Ok;rw[h.hurt];rfl
end
end dev
namespace dev.b16
open dev
open JT (Nd)
open tab (Tb At6)
def X1:List Nat:=[1,0,0,0,0,0,0,0,0,0,0,0,0,0,0,0]
def X2:List Nat:=[2,0,0,0,0,0,0,0,0,0,0,0,0,0,0,0]
def ea:List En:=[⟨2,5,1,X1⟩,⟨0,0,3,an⟩]
def eb:List En:=[⟨2,4,1,X2⟩,⟨1,8,2,an⟩]
def Wa:=Kl (Nd.new 3 8 2) 1 0 7 ea
def Wb:=Kl Wa.1 2 0 7 eb
def Nb:Nd:=Wb.1
def T3:Tb:=Lm (Kc Nb) 3 3
theorem t1:tot Wa.1≤1000∧Nb.off=false:=by decide+kernel
theorem t2:(Kc Nb).all (·.whole)=true∧Lc (Kc Nb) 1=9∧(Kc Nb).length=3:=by decide+kernel
theorem t3:((At6.of (tab.Kh T3.f 2)).b,(tab.Kh T3.f 2).isSome,T3.f.length)=(1,true,2):=by decide+kernel
theorem wa:Kl (Nd.new 3 8 2) 1 0 7 ea=Wa:=rfl
theorem wb:Kl Wa.1 2 0 7 eb=Wb:=rfl
theorem nb:Wb.1=Nb:=rfl
theorem t3d:Lm (Kc Nb) 3 3=T3:=rfl
attribute [irreducible] Wa Wb Nb T3
end dev.b16
end Go.Proofs.YtlkpfnjdbgeifaaGreat
