import Derived.DeepKeys4
import Derived.Maps.RangeWalk
import Derived.Test.YtlkpfnjdbgeifaaGreatChecked
import Derived.Test.YtlkpfnjdbgeifaaGreatFFlat
import Derived.Test.YtlkpfnjdbgeifaaGreatFMem
set_option linter.unusedVariables false
set_option maxRecDepth 100000
open Go renaming Value→ed,DataW→eD,keyOf→hG
open List renaming mem_cons→ej,nodup_cons→ek,find?_cons_of_neg→eX,filter_map→fj,length_map→fo,mapM_cons→gg
namespace Go.Proofs.YtlkpfnjdbgeifaaGreat
open Go.Proofs.Tryz
open Go.RowKit
section
open Go.Maps (Keyed)
structure Ad where
 d:Int
 b:Int
 p:Int
deriving DecidableEq
def Ad.v(a:Ad):List ed:=[.int .i64 a.d,.int .i64 a.b,.int .i64 a.p]
def Ad.wf(a:Ad):Prop:=(Lit.int .i64 a.d).wf=true∧(Lit.int .i64 a.b).wf=true∧(Lit.int .i64 a.p).wf=true
theorem Ad.Rb{a c:Ad}(h:a.v=c.v):a=c:=by
 obtain⟨d,b,p⟩:=a;obtain⟨e,f,g⟩:=c;simp[Ad.v]at h;simp_all
theorem jH:laidOutB prog=true:=by kernel_rfl
theorem Io:(52 :TypeId)< prog.types.size:=of_decide_eq_true (by rfl)
theorem Gb:(match prog.underlying 52 with|some (.array _ _)|some (.struct _)=>true|_=>false)=true:=by rfl
theorem JP: prog.keyTypeAt 2 52 =true:=by kernel_rfl
theorem dm:Keyed prog 52 :=Keyed.of_law (deep_law_laid jH (m:=2) (by omega) Io JP Gb)
theorem yg: prog.keyType 52 =true:=by kernel_rfl
theorem DR: prog.cellsOf 52 =3:=by rfl
theorem qr: prog.cellsOf 3 =1:=by rfl
theorem iR:∃d, prog.types.size=d+1:=⟨prog.types.size-1,by rfl⟩
def klA(a:Ad):Lit:=.string (keyBytes [.int .i64 a.d,.int .i64 a.b,.int .i64 a.p])
theorem eV(d:Nat)(c:ed)(l:List Lit): prog.keyLits (d+1) 3 [c]=some l↔∃n,c=.int .i64 n∧(Lit.int .i64 n).wf=true∧l=[.int .i64 n]:=by
 unfold Program.keyLits;rw[underlying3];grind
theorem AN:∀{b:List ed},b.length=3→∃c0 c1 c2,b=[c0,c1,c2]
 |[c0,c1,c2],_=>⟨c0,c1,c2,rfl⟩
theorem oA(d:Nat)(f:List ed)(l:List Lit): prog.keyLits (d+1+1) 52 f=some l↔∃a:Ad,f=a.v∧a.wf∧l=[.int .i64 a.d,.int .i64 a.b,.int .i64 a.p]:=by
 unfold Program.keyLits;rw[underlying52];simp only[];rw[DR];constructor
 · intro h
   split at h
   · rename_i g
     obtain⟨i,-⟩:=g;obtain⟨c0,c1,c2,rfl⟩:=AN i;simp[gg,qr,Option.bind_eq_some_iff,eV]at h;obtain⟨o,⟨j,k,b,rfl⟩,GU,⟨p,⟨m,e1,c,rfl⟩,q,⟨r,⟨n,e2,e,rfl⟩,rfl⟩,rfl⟩,rfl⟩:=h;exact⟨⟨j,m,n⟩,by rw[k,e1,e2];rfl,⟨b,c,e⟩,rfl⟩
   simp_all
 · rintro ⟨a,rfl,⟨b,c,e⟩,rfl⟩
   rw[if_pos ⟨rfl,by simp⟩];have k0:=(eV d (.int .i64 a.d) _).2 ⟨_,rfl,b,rfl⟩;have k1:=(eV d (.int .i64 a.b) _).2 ⟨_,rfl,c,rfl⟩;have k2:=(eV d (.int .i64 a.p) _).2 ⟨_,rfl,e,rfl⟩;simp[gg,qr,Ad.v,k0,k1,k2]
theorem cy{a:Ad}(h:a.wf):hG prog 52 (.agg a.v.toArray)=some (klA a):=by
 obtain⟨d,b⟩:=iR;unfold hG;rw[underlying52];have c:(Value.agg a.v.toArray).formed prog 52 =true:=rfl;have e:=(oA d a.v [.int .i64 a.d,.int .i64 a.b,.int .i64 a.p]).2 ⟨a,rfl,h,rfl⟩;simp only[yg,c,Bool.and_self,if_true,b];rw[show(Value.agg a.v.toArray).cells.toList=a.v from rfl,e];rfl
theorem Cx{key:ed}{b:Lit}(h:hG prog 52 key=some b):∃a:Ad,key=.agg a.v.toArray∧a.wf∧b=klA a:=by
 obtain⟨d,f⟩:=iR;unfold hG at h;rw[underlying52]at h;simp only[yg,Bool.true_and,f]at h;split at h
 · rename_i k
   rw[Option.map_eq_some_iff]at h;obtain⟨g,i,rfl⟩:=h;obtain⟨a,c,j,rfl⟩:=(oA d _ g).1 i;refine⟨a,?_,j,rfl⟩;cases key<;>simp[Value.cells,Ad.v]at c
   rename_i e;rw[show e=e.toList.toArray by simp,c];rfl
 simp_all
theorem Fe{a b:Ad}(h:a.wf)(c:b.wf)(e:klA a=klA b):a=b:=by
 have:=dm.inj (cy h) (by rw[e];exact cy c);simp at this;exact Ad.Rb this
end
theorem ybp{A:Prop}(h:A:=by
 have h2:=h.Ot a;rw[h.size]at h1;by_cases e:a∈f.map (·.1)
 · rw[if_pos ((h.has a ha).2 e)]at h1;grind
 · rw[if_neg (fun h'=>e ((h.has a ha).1 h'))]at h1;simp_all):A:=h
theorem ycj{A:Prop}(h:A:=by
 by_cases e:a∈f.map (·.1)
 · rw[if_pos ((h.has a ha).2 e)];simp_all
 · rw[if_neg (fun h'=>e ((h.has a ha).1 h'))];simp_all):A:=h
theorem yez{A:Prop}(h:A:=by
 show(a::(LX f a).map (·.1)).Nodup;rw[List.nodup_cons,bR];exact⟨by simp,h.nodup.filter _⟩):A:=h
theorem yfq{A:Prop}(h:A:=by
 have:=fX a h.nodup;rw[←bR,List.length_map,List.length_map]at this;omega):A:=h
section
open Go.Maps (Keyed)
def Ks(v:ed):Option (eD ed×List MemPlace):=some (.held v,[])
structure Rel (D:eD ed) (f:List (Ad×ed)):Prop where
 tidy:Maps.Tidy D
 wf:∀p∈f,p.1.wf
 nodup:(f.map (·.1)).Nodup
 at_:∀a v,(a,v)∈f→∀z,D.atKey (klA a) z=.held v
 has:∀a:Ad,a.wf→(Maps.has D (klA a)=true↔a∈f.map (·.1))
 size:Maps.size D=f.length
theorem Rel.nil:Rel (.map []) []:=⟨Maps.tidy_empty,by simp,by simp,by simp,fun a _=>by rw[Maps.has_eq];simp,rfl⟩
theorem Rel.perm{D:eD ed}{f c:List (Ad×ed)}(h:Rel D f)(b:f.Perm c):Rel D c:=
 ⟨h.tidy,fun p e=>h.wf p (b.mem_iff.2 e),(b.map _).nodup_iff.1 h.nodup,fun a v g=>h.at_ a v (b.mem_iff.2 g),fun a i=>by rw[h.has a i];grind,by rw[h.size,b.length_eq]⟩
theorem mU(a:Ad):WideAt.IsKeyLit (klA a):=trivial
theorem o7{a b:Ad}(h:a.wf)(c:b.wf)(f:a≠b):klA a≠klA b:=fun e=>f (Fe h c e)
def LX(f:List (Ad×ed))(a:Ad):List (Ad×ed):=f.filter fun p=>decide (p.1≠a)
def Oz(f:List (Ad×ed))(a:Ad)(v:ed):List (Ad×ed):=(a,v)::LX f a
def My(f:List (Ad×ed))(a:Ad):Bool:=decide (a∈f.map (·.1))
theorem bj{f:List (Ad×ed)}{a:Ad}{p:Ad×ed}:p∈LX f a↔p∈f∧p.1≠a:=by simp[LX]
theorem bR(f:List (Ad×ed))(a:Ad):(LX f a).map (·.1)=(f.map (·.1)).filter fun b=>decide (b≠a):=by
 unfold LX;rw[fj];rfl
theorem fX:∀{l:List Ad} (a:Ad),l.Nodup→(l.filter fun b=>decide (b≠a)).length+(if a∈l then 1 else 0)=l.length
 |[],a,_=>by simp
 |b::l,a,h=>by
  have c:=(ek.1 h);have e:=fX a c.2;grind
theorem Rel.Ot{D:eD ed}{f:List (Ad×ed)}(h:Rel D f)(a:Ad):(LX f a).length+(if a∈f.map (·.1)then 1 else 0)=f.length:=by
 exact yfq
theorem Rel.del{D:eD ed}{f:List (Ad×ed)}(h:Rel D f){a:Ad}(ha:a.wf):Rel (D.del (klA a)) (LX f a)where
 tidy:=h.tidy.del _
 wf p hp:=h.wf p (bj.1 hp).1
 nodup:=by rw[bR];exact h.nodup.filter _
 at_ b v hb z:=by
  obtain⟨h1,h2⟩:=bj.1 hb;rw[Maps.atKey_del_other (o7 (h.wf _ h1) ha h2)];exact h.at_ b v h1 z
 has b hb:=by
  rw[bR];by_cases e:b=a
  · subst e
    rw[Maps.has_del_same];simp
  · rw[Maps.has_del_other (o7 hb ha e),h.has b hb];simp[e]
 size:=by
  have h1:=Maps.size_del h.tidy (k:=klA a);exact ybp
theorem Rel.put{D:eD ed}{f:List (Ad×ed)}(h:Rel D f){a:Ad}(ha:a.wf)(v:ed):Rel (D.put (klA a) (.held v)) (Oz f a v)where
 tidy:=h.tidy.put (mU a) _
 wf p g:=(ej.1 g).elim (fun e=>by simp_all) (fun g=>h.wf p (bj.1 g).1)
 nodup:=by
  exact yez
 at_ b u c z:=by
  rcases ej.1 c with e|c
  · simp at e
    obtain⟨rfl,rfl⟩:=e;exact Maps.atKey_put_same h.tidy.isMap (mU _) _ _
  · obtain⟨i,j⟩:=bj.1 c
    rw[Maps.atKey_put_other (o7 (h.wf _ i) ha j)];exact h.at_ b u i z
 has b c:=by
  show _↔b∈a::(LX f a).map (·.1);rw[bR];by_cases e:b=a
  · subst e
    rw[Maps.has_put_same h.tidy.isMap (mU _)];simp
  · rw[Maps.has_put_other (o7 c ha e),h.has b c];simp[e]
 size:=by
  rw[Maps.size_put h.tidy,h.size];have j:=h.Ot a;show _=(LX f a).length+1;exact ycj
theorem Rel.hasB{D:eD ed}{f:List (Ad×ed)}(h:Rel D f){a:Ad}(b:a.wf):Maps.has D (klA a)=My f a:=by
 unfold My;rw[Bool.eq_iff_iff,h.has a b];simp
end
section
open Go.Maps (Keyed)
def klI(a:Int):Lit:=.int .i64 a
def wfI(a:Int):Prop:=(Lit.int .i64 a).wf=true
theorem oB:Keyed prog 3 :=Maps.int_keyed underlying3
theorem lm{a:Int}(h:wfI a):hG prog 3 (.int .i64 a)=some (klI a):=Maps.keyOf_int_mk underlying3 h
structure NP (D:eD ed) (f:List (Int×ed)):Prop where
 tidy:Maps.Tidy D
 wf:∀p∈f,wfI p.1
 nodup:(f.map (·.1)).Nodup
 at_:∀a v,(a,v)∈f→∀z,D.atKey (klI a) z=.held v
 has:∀a:Int,wfI a→(Maps.has D (klI a)=true↔a∈f.map (·.1))
 size:Maps.size D=f.length
theorem NP.nil:NP (.map []) []:=⟨Maps.tidy_empty,by simp,by simp,by simp,fun a _=>by rw[Maps.has_eq];simp,rfl⟩
theorem rn(a:Int):WideAt.IsKeyLit (klI a):=trivial
theorem rm{a b:Int}(c:a≠b):klI a≠klI b:=fun e=>c (by unfold klI at e;simp_all)
def OU(f:List (Int×ed))(a:Int):List (Int×ed):=f.filter fun p=>decide (p.1≠a)
def Ql(f:List (Int×ed))(a:Int)(v:ed):List (Int×ed):=(a,v)::OU f a
def Pf(f:List (Int×ed))(a:Int):Bool:=decide (a∈f.map (·.1))
def Nt(f:List (Int×ed))(a:Int)(z:ed):ed:=((f.find? fun p=>decide (p.1=a)).map (·.2)).getD z
theorem ko{f:List (Int×ed)}{a:Int}{p:Int×ed}:p∈OU f a↔p∈f∧p.1≠a:=by simp[OU]
theorem fM(f:List (Int×ed))(a:Int):(OU f a).map (·.1)=(f.map (·.1)).filter fun b=>decide (b≠a):=by
 unfold OU;rw[fj];rfl
theorem mr:∀{l:List Int} (a:Int),l.Nodup→(l.filter fun b=>decide (b≠a)).length+(if a∈l then 1 else 0)=l.length
 |[],a,_=>by simp
 |b::l,a,h=>by
  have c:=(ek.1 h);have e:=mr a c.2;grind
theorem NP.Ot{D:eD ed}{f:List (Int×ed)}(h:NP D f)(a:Int):(OU f a).length+(if a∈f.map (·.1)then 1 else 0)=f.length:=by
 have:=mr a h.nodup;rw[←fM,fo,fo]at this;omega
theorem NP.del{D:eD ed}{f:List (Int×ed)}(h:NP D f){a:Int}(ha:wfI a):NP (D.del (klI a)) (OU f a)where
 tidy:=h.tidy.del _
 wf p hp:=h.wf p (ko.1 hp).1
 nodup:=by rw[fM];exact h.nodup.filter _
 at_ b v hb z:=by
  obtain⟨h1,h2⟩:=ko.1 hb;rw[Maps.atKey_del_other (rm h2)];exact h.at_ b v h1 z
 has b hb:=by
  rw[fM];by_cases e:b=a
  · subst e
    rw[Maps.has_del_same];simp
  · rw[Maps.has_del_other (rm e),h.has b hb];simp[e]
 size:=by
  have h1:=Maps.size_del h.tidy (k:=klI a);exact ybp
theorem NP.put{D:eD ed}{f:List (Int×ed)}(h:NP D f){a:Int}(ha:wfI a)(v:ed):NP (D.put (klI a) (.held v)) (Ql f a v)where
 tidy:=h.tidy.put (rn a) _
 wf p g:=(ej.1 g).elim (fun e=>by simp_all) (fun g=>h.wf p (ko.1 g).1)
 nodup:=by
  show(a::(OU f a).map (·.1)).Nodup;rw[ek,fM];exact⟨by simp,h.nodup.filter _⟩
 at_ b u c z:=by
  rcases ej.1 c with e|c
  · simp at e
    obtain⟨rfl,rfl⟩:=e;exact Maps.atKey_put_same h.tidy.isMap (rn _) _ _
  · obtain⟨j,i⟩:=ko.1 c
    rw[Maps.atKey_put_other (rm i)];exact h.at_ b u j z
 has b c:=by
  show _↔b∈a::(OU f a).map (·.1);rw[fM];by_cases e:b=a
  · subst e
    rw[Maps.has_put_same h.tidy.isMap (rn _)];simp
  · rw[Maps.has_put_other (rm e),h.has b c];simp[e]
 size:=by
  rw[Maps.size_put h.tidy,h.size];have i:=h.Ot a;show _=(OU f a).length+1;exact ycj
theorem NP.hasB{D:eD ed}{f:List (Int×ed)}(h:NP D f){a:Int}(b:wfI a):Maps.has D (klI a)=Pf f a:=by
 unfold Pf;rw[Bool.eq_iff_iff,h.has a b];simp
theorem oO:∀{f:List (Int×ed)} {a:Int} {v:ed},(f.map (·.1)).Nodup→(a,v)∈f→f.find? (fun p=>decide (p.1=a))=some (a,v)
 |[],_,_,_,h=>by grind
 |p::f,a,v,b,h=>by
  rw[List.map_cons,ek]at b;rcases ej.1 h with e|h
  · grind
  · have:p.1≠a:=fun e=>b.1 (by simp_all)
    rw[eX (by simp_all)];exact oO b.2 h
theorem vJ{f:List (Int×ed)}{a:Int}(h:Pf f a=false)(z:ed):Nt f a z=z:=by
 have:f.find? (fun p=>decide (p.1=a))=none:=by
  rw[List.find?_eq_none];intro p b;simp;intro e;unfold Pf at h;simp at h;exact h p.2 (by grind)
 unfold Nt;grind
theorem oz(f:List (Int×ed))(a:Int)(v z:ed):Nt (Ql f a v) a z=v:=by simp[Nt,Ql]
theorem zF{f:List (Int×ed)}{a b:Int}(h:b≠a):(OU f a).find? (fun p=>decide (p.1=b))=f.find? (fun p=>decide (p.1=b)):=by
 unfold OU;grind
theorem mG{f:List (Int×ed)}{a b:Int}(h:b≠a)(v z:ed):Nt (Ql f a v) b z=Nt f b z:=by
 unfold Nt Ql;rw[eX (by simpa using fun e=>h e.symm),zF h]
theorem qk{w:World}{b n:Nat}{D:eD ed}{f:List (Int×ed)}{t e:TypeId}(h:w.ownsMap prog 3 Ks b n D)(c:NP D f){a:Int}(i:wfI a)(u: prog.underlying t=some (.map 3 e)){z:ed}(A:(zeroValue e).run prog w=.ok z w)(ok:Bool):
 (Instr.lookup t (.map (some b)) (.int .i64 a) ok).run prog w=.ok (if ok then .tuple #[Nt f a z,.bool (Pf f a)]else Nt f a z) w:=by
 have B:=lm i;obtain⟨J,clock,C,F,K,rfl⟩:=h;rcases Maps.fit_look ok oB u A C F B with⟨m,-,g⟩|⟨j,y,-,-,m,E,g,-⟩
 · have o:=Maps.has_false_of_atKey g
   have G:¬a∈f.map (·.1):=fun H=>by rw[(c.has a i).2 H]at o;cases o
   have e1:Pf f a=false:=by unfold Pf;simpa using G
   rw[m,e1,vJ e1]
 · have I:=Maps.has_true_of_atKey g
   obtain⟨p,k,e⟩:=List.mem_map.1 ((c.has a i).1 I);obtain⟨q,v⟩:=p;simp only at e;subst e;have l:=c.at_ _ v k (.held v);rw[g]at l;have r:y=(DataW.held j.val,[]):=(Option.some.inj (show some ((DataW.held j.val:eD ed),([]:List MemPlace))=some y from E)).symm;rw[r]at l;have r:j.val=v:=DataW.held.inj l;have e1:Pf f q=true:=by unfold Pf;simpa using⟨v,k⟩
   have e2:Nt f q z=v:=by unfold Nt;rw[oO c.nodup k];rfl
   simp_all
end
end Go.Proofs.YtlkpfnjdbgeifaaGreat
