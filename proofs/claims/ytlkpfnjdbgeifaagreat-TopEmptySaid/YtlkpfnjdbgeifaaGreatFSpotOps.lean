import Derived.Deep.Cut
import Derived.Deep.RegionLaw
import Derived.Laws.Pointers
import Derived.Test.YtlkpfnjdbgeifaaGreatFAd
set_option linter.unusedVariables false
open List renaming replicate→ed,mem_map→eX
open Go renaming Value→ej,World→ek,TypeId→eD,DataW→fj
namespace Go.Proofs.YtlkpfnjdbgeifaaGreat
open Go.Proofs.Tryz
open Go.RowKit
theorem ycz{A:Prop}(h:A:=by
 rw[List.map_cons,List.nodup_cons]at hn;rcases List.mem_cons.1 h with e|h
 · grind
 · have:p.1≠a:=fun e=>hn.1 (by simp_all)
   rw[List.find?_cons_of_neg (by simp_all)];exact i7 hn.2 h):A:=h
section
open Go.Maps (Keyed)
def LY(w:ek)(T:eD)(g b n:Nat)(f:List (Ad×ej)):Prop:=
 w.heap[g]? =some (.cells #[.map (some b)] T (0,0))∧∃D,w.ownsMap prog 52 Ks b n D∧Rel D f
theorem eF{w c:ek}{b n:Nat}{D:fj ej}(h:w.ownsMap prog 52 Ks b n D)(e:Below w.heap.size w c):c.ownsMap prog 52 Ks b n D:=by
 obtain⟨f,clock,g,i⟩:=h;exact⟨f,clock,aa g e,i⟩
theorem LY.below{w w':ek}{T:eD}{g b n:Nat}{f:List (Ad×ej)}(h:LY w T g b n f)(hb:Below w.heap.size w w'):LY w' T g b n f:=by
 obtain⟨h1,D,h2,h3⟩:=h;exact⟨aa h1 hb,D,eF h2 hb,h3⟩
theorem LY.lt{w:ek}{T:eD}{g b n:Nat}{f:List (Ad×ej)}(h:LY w T g b n f):g<w.heap.size∧b<w.heap.size:=by
 obtain⟨c,D,e,i⟩:=h;exact⟨af c,e.lt⟩
theorem LY.mono{w:ek}{T:eD}{g b n c:Nat}{f:List (Ad×ej)}(h:LY w T g b n f)(e:n≤c):LY w T g b c f:=by
 obtain⟨i,D,j,k⟩:=h;exact⟨i,D,j.mono e,k⟩
theorem cM{w:ek}{g:Nat}{a:Ad}{t:eD}{fr:Nat×Nat}(h:w.heap[g]? =some (.cells a.v.toArray t fr)):
 w.cell? ⟨g,0,none⟩=some (.int .i64 a.d)∧w.cell? ⟨g,1,none⟩=some (.int .i64 a.b)∧w.cell? ⟨g,2,none⟩=some (.int .i64 a.p):=by
 refine⟨by rw[ae h];rfl,by rw[ae h];rfl,by rw[ae h];rfl⟩
theorem mK{w:ek}{b n g:Nat}{D:fj ej}{c:Array ej}{t:eD}{fr:Nat×Nat}(h:w.ownsMap prog 52 Ks b n D)(e:w.heap[g]? =some (.cells c t fr)):g≠b:=by
 obtain⟨f,clock,i,-⟩:=h;grind
theorem cC{w b:ek}{row:Option Nat}(h:w.drew.grownBy b row):w.grownBy b row:=⟨h.os,h.tape,h.output,h.size,h.block⟩
def Lu(f:List (Ad×ej))(a:Ad)(z:ej):ej:=((f.find? fun p=>decide (p.1=a)).map (·.2)).getD z
theorem i7:∀{f:List (Ad×ej)} {a:Ad} {v:ej},(f.map (·.1)).Nodup→(a,v)∈f→f.find? (fun p=>decide (p.1=a))=some (a,v)
 |[],_,_,_,h=>by grind
 |p::f,a,v,hn,h=>by
  exact ycz
theorem tP{w:ek}{b n:Nat}{D:fj ej}{f:List (Ad×ej)}{t e:eD}(h:w.ownsMap prog 52 Ks b n D)(g:Rel D f){a:Ad}(j:a.wf)(u: prog.underlying t=some (.map 52 e)){z:ej}(A:(zeroValue e).run prog w=.ok z w):
 (Instr.lookup t (.map (some b)) (.agg #[.int .i64 a.d,.int .i64 a.b,.int .i64 a.p]) true).run prog w=.ok (.tuple #[Lu f a z,.bool (My f a)]) w:=by
 have B:keyOf prog 52 (.agg #[.int .i64 a.d,.int .i64 a.b,.int .i64 a.p])=some (klA a):=cy j;obtain⟨J,clock,C,F,K,rfl⟩:=h;rcases Maps.fit_look true dm u A C F B with⟨k,-,i⟩|⟨l,y,-,-,k,E,i,-⟩
 · have q:=Maps.has_false_of_atKey i
   have r:¬a∈f.map (·.1):=fun G=>by rw[(g.has a j).2 G]at q;cases q
   rw[k];have e1:My f a=false:=by unfold My;simpa using r
   have e2:f.find? (fun p=>decide (p.1=a))=none:=by
    rw[List.find?_eq_none];intro p c;simp;intro e;exact r (eX.2 ⟨p,c,e⟩)
   rw[e1];unfold Lu;rw[e2];rfl
 · have H:=Maps.has_true_of_atKey i
   obtain⟨p,c,e⟩:=eX.1 ((g.has a j).1 H);obtain⟨I,v⟩:=p;simp only at e;subst e;have m:=g.at_ _ v c (.held v);rw[i]at m;have o:y=(DataW.held l.val,[]):=(Option.some.inj (show some ((DataW.held l.val:fj ej),([]:List MemPlace))=some y from E)).symm;rw[o]at m;have o:l.val=v:=DataW.held.inj m;rw[k];have e1:My f I=true:=by unfold My;simpa using⟨v,c⟩
   rw[e1];unfold Lu;rw[i7 g.nodup c,o];rfl
theorem eZ{w b:ek}(h:Below w.heap.size w b)(row:Option Nat):w.grownBy b row:=⟨h.os,h.tape,h.output,h.size,fun i c _=>h.block i c⟩
theorem jN{w c:ek}{b:Nat}(h:w.mapTurned c b):w.grownBy c (some b):=by
 obtain⟨j,clock,k,l,f,rfl⟩:=h;exact⟨rfl,rfl,rfl,by simp[ChangeMaps.setBlock],fun i _ g=>ChangeMaps.heap_setBlock_other f _ (fun e=>g (by rw[e]))⟩
section
variable {P:Program}{ops:Array Oper}{o:Oper}{a:Act}{w:ek}{Q:Exit→Act→ek→Prop}
end
end
namespace JT
structure Cel where
 (p:List Nat) (lost turned:Bool)
def Cel.v(c:Cel):List ej:=An .u8 c.p++[.bool c.lost,.bool c.turned]
structure Blk where
 (cells:List Cel) (KP:Nat) (fails met:Bool)
def Blk.none:Blk:=⟨[],0,false,false⟩
structure Nd where
 (D B P:Nat) (blk:Nat→Nat→Blk) (Kt:List (Ad×ej)) (dead:List Bool) (off:Bool) (ops broken:Nat) (Oy:Bool) (left:Int) (keep:Nat)
def Nd.new(D B P:Nat):Nd:=⟨D,B,P,fun _ _=>Blk.none,[],ed D false,false,0,0,false,0,0⟩
def Nd.inG(N:Nd)(a:Ad):Bool:=decide ((0≤a.d∧a.d<N.D)∧(0≤a.b∧a.b<N.B)∧(0≤a.p∧a.p<N.P))
def Nd.dies(N:Nd)(d:Int):Bool:=decide (0≤d)&&N.dead.getD d.toNat false
def Nd.Kg(N:Nd)(a:Ad):Int:=if N.off then 9 else if N.inG a then(if N.dead.getD a.d.toNat false then 8 else 0)else 3
def Nd.upd(N:Nd)(d b:Nat)(x:Blk):Nd:={N with blk:=fun i j=>if i=d∧j=b then x else N.blk i j}
def Nd.at(N:Nd)(a:Ad):Blk:=N.blk a.d.toNat a.b.toNat
def Nd.put(N:Nd)(a:Ad)(x:Blk):Nd:=N.upd a.d.toNat a.b.toNat x
def Nd.Li(N:Nd):Bool:=N.Oy&&decide (N.left-1<0)
def Nd.La(N:Nd):Nd:=
 if N.Oy then(if N.left-1<0 then{N with ops:=N.ops+1,left:=N.left-1,Oy:=false,off:=true}else{N with ops:=N.ops+1,left:=N.left-1})
 else{N with ops:=N.ops+1}
def Mm(p:List Nat)(k:Nat):List Nat:=p.take k++ed (32-k) 255
def Nd.O5(N:Nd)(a:Ad):Bool:=My N.Kt a ||(N.at a).met
def Nd.Kv(N:Nd)(a:Ad)(p:List Nat):Int:=
 if N.Kg a≠0 then N.Kg a else if a.p≠(N.at a).cells.length then 4 else if N.Li then 9 else if N.O5 a then 7 else 0
def Nd.Kq(N:Nd)(a:Ad)(p:List Nat):Nd:=
 if N.Kg a≠0 then N else if a.p≠(N.at a).cells.length then{N with broken:=N.broken+1}
 else if N.Li then N.La.put a {N.at a with cells:=(N.at a).cells++[⟨Mm p N.keep,false,true⟩]}
 else{N.La.put a {N.at a with cells:=(N.at a).cells++[⟨p,N.O5 a,false⟩]}with Kt:=LX N.Kt a}
def Nd.K9(N:Nd)(a:Ad):Int:=
 if N.Kg a≠0 then N.Kg a else match(N.at a).cells[a.p.toNat]? with
  |none=>5
  |some c=>if c.lost then 6 else 0
def Nd.KC(N:Nd)(a:Ad):List Nat:=
 if N.Kg a≠0 then ed 32 0 else match(N.at a).cells[a.p.toNat]? with
  |none=>ed 32 0
  |some c=>if c.lost then ed 32 0 else c.p
def key(d b:Int):Ad:=⟨d,b,0⟩
def Blk.cut(x:Blk)(P:Nat):Blk:={x with cells:=(x.cells++ed (P-x.cells.length) (Cel.mk (ed 32 0) false false)).map fun c=>Cel.mk c.p true c.turned}
def Nd.L6(N:Nd)(d b:Int):Int:=
 if N.Kg (key d b)≠0 then N.Kg (key d b)else if N.Li then 9 else if(N.at (key d b)).fails then 7 else 0
def Nd.Lh(N:Nd)(d b:Int):Nd:=
 if N.Kg (key d b)≠0 then N else if N.Li then N.La.put (key d b) ((N.at (key d b)).cut N.P)
 else if(N.at (key d b)).fails then N.La.put (key d b) {N.at (key d b)with met:=true}
 else{N.La.put (key d b) {N.at (key d b)with cells:=[],KP:=(N.at (key d b)).KP+1}with Kt:=N.Kt.filter fun p=> !(decide (p.1.d=d)&&decide (p.1.b=b))}
structure Flt where
 (at_ k d b p n x:Int)
def Flt.v(f:Flt):List ej:=[.int .i64 f.at_,.int .i64 f.k,.int .i64 f.d,.int .i64 f.b,.int .i64 f.p,.int .i64 f.n,.int .i64 f.x]
def Flt.a(f:Flt):Ad:=⟨f.d,f.b,f.p⟩
def Blk.change(x:Blk)(i:Nat)(g:Cel→Cel):Blk:={x with cells:=x.cells.modify i g}
def Nd.cell?(N:Nd)(a:Ad):Option Cel:=(N.at a).cells[a.p.toNat]?
def flip(p:List Nat)(n:Nat)(x:Int):List Nat:=p.modify n fun y=>y^^^(x%256).toNat
def Nd.KB(N:Nd)(f:Flt):Bool:=
 N.inG f.a&&(f.k==1 ||f.k==2 ||f.k==3 ||f.k==4 ||(f.k==5&&decide (0≤f.n∧f.n<32)&& !((N.cell? f.a).map (·.turned)).getD false))
def Nd.KF(N:Nd)(f:Flt):Nd:=
 if !N.KB f then N
 else if f.k=1 then{N with Kt:=Oz N.Kt f.a (.bool true)}
 else if f.k=2 then N.put f.a {N.at f.a with fails:=true}
 else if f.k=3 then N.put f.a ((N.at f.a).change f.p.toNat fun c=>{c with lost:=true})
 else if f.k=4 then{N with dead:=N.dead.set f.d.toNat true}
 else N.put f.a ((N.at f.a).change f.p.toNat fun c=>if c.lost then c else{c with p:=flip c.p f.n.toNat f.x,turned:=true})
def Nd.cutAt(N:Nd)(b keep:Int):Nd:=
 if N.off then N else{N with Oy:=decide (0≤b),left:=b,keep:=(min (max keep 0) 32).toNat,off:=decide (b<0)}
def Nd.on(N:Nd):Nd:={N with off:=false,Oy:=false}
structure Nd.ok (N:Nd):Prop where
 geo:3≤N.D∧N.D≤6∧8≤N.B∧N.B≤16∧2≤N.P∧N.P≤8
 dead:N.dead.length=N.D
 len:∀d b,(N.blk d b).cells.length≤N.P
 MV:∀d b c,c∈(N.blk d b).cells→c.p.length=32∧∀y∈c.p,y<256
 left:N.Oy=true→0≤N.left∧N.left≤9223372036854775807
 keep:N.keep≤32
 Kt:∀p∈N.Kt,p.2=.bool true∧p.1.wf
theorem Nd.PQ{D B P:Nat}(h:3≤D∧D≤6∧8≤B∧B≤16∧2≤P∧P≤8):(Nd.new D B P).ok:=
 ⟨h,by simp[Nd.new],by simp[Nd.new,Blk.none],by simp[Nd.new,Blk.none],by simp[Nd.new],by simp[Nd.new],by simp[Nd.new]⟩
end JT
end Go.Proofs.YtlkpfnjdbgeifaaGreat
