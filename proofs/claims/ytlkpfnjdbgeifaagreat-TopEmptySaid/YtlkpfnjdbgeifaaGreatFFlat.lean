import Derived.ChangeSame
import Derived.Deep.Slices
import Derived.Laws.Rows
import Derived.OpenShut
import Derived.OwnWalk
import Derived.RowKit
open List renaming getElem?_eq_getElem→ed,getElem?_eq_some_iff→ek,length_cons→fj,replicate→gg,mem_range→hG,mem_map→hX,range→hZ
open Option renaming bind_eq_some_iff→ej
open Go renaming Value→eD,TypeId→fo,Program→hO,World→iP
open Bool renaming and_eq_true→eX
namespace Go.Proofs.YtlkpfnjdbgeifaaGreat
theorem yfi{A:Prop}(h:A:=by
 obtain⟨cs,rfl,-,-⟩:=hv;exact⟨cs.toList,by simp,by simpa[Value.cells]using this⟩):A:=h
section
open Go.RowKit Go.ChangeShapes Go.WideShapes Go.Deep

inductive Kd
 |int (k:IntKind)
 |bool
def Kd.ok:Kd→eD→Bool
 | .int k,.int b n=>b==k&&(Lit.int k n).wf
 | .bool,.bool _=>true
 |_,_=>false
def Ku:List Kd→List eD→Bool
 |[],[]=>true
 |k::b,v::c=>k.ok v&&Ku b c
 |_,_=>false
theorem aL:∀{b:List Kd} {c:List eD},Ku b c=true→c.length=b.length
 |[],[],_=>rfl
 |_::b,_::c,h=>by
  simp only[Ku,eX]at h;rw[fj,fj,aL h.2]
 |[],_::_,h=>by simp[Ku]at h
 |_::_,[],h=>by simp[Ku]at h
theorem fU:∀{b e:List Kd} {c f:List eD},Ku b c=true→Ku e f=true→Ku (b++e) (c++f)=true
 |[],_,[],_,_,h=>h
 |_::b,_,_::c,_,h,g=>by
  simp only[Ku,eX]at h;simp only[List.cons_append,Ku,eX];exact⟨h.1,fU h.2 g⟩
 |[],_,_::_,_,h,_=>by simp[Ku]at h
 |_::_,_,[],_,h,_=>by simp[Ku]at h
theorem gK{k:IntKind}{v:eD}(h:(Kd.int k).ok v=true):∃n,v=.int k n∧(Lit.int k n).wf=true:=by
 cases v<;>simp[Kd.ok]at h
 simp_all
theorem mN{v:eD}(h:Kd.bool.ok v=true):∃b,v=.bool b:=by
 cases v<;>simp[Kd.ok]at h
 simp
def Od(go:fo→Option (List Kd))(P:hO):List Field→List Kd→Option (List Kd)
 |[],b=>some b
 |f::e,b=>(go f.type).bind fun c=>if f.offset=b.length∧P.cellsOf f.type=c.length then Od go P e (b++c)else none
def flat(P:hO):Nat→fo→Option (List Kd)
 |0,_=>none
 |d+1,t=>
  match P.underlying t with
  |some (.int k)=>some [.int k]
  |some .bool=>some [.bool]
  |some (.array n e)=>(flat P d e).bind fun b=>if P.cellsOf t=n*b.length∧P.cellsOf e=b.length then some (gg n b).flatten else none
  |some (.struct c)=>(Od (flat P d) P c.toList []).bind fun b=>if P.cellsOf t=b.length then some b else none
  |_=>none
theorem qe{ks:List Kd}:∀(n:Nat) (b:List eD),b.length=n*ks.length→(∀i,i<n→Ku ks ((b.drop (i*ks.length)).take ks.length)=true)→Ku (gg n ks).flatten b=true
 |0,b,e,_=>by
  have:b=[]:=List.eq_nil_of_length_eq_zero (by omega)
  subst this;rfl
 |n+1,b,e,h=>by
  have c:=h 0 (by omega)
  have f:=qe (ks:=ks) n (b.drop ks.length) (by grind) fun i g=>by
   have:=h (i+1) (by omega);rw[List.drop_drop,show ks.length+i*ks.length=(i+1)*ks.length by grind];omega
  rw[Nat.zero_mul,List.drop_zero]at c;have:=fU c f;rw[List.take_append_drop]at this;grind
theorem ke{P:hO}{go:fo→Option (List Kd)}{cs:List eD}:∀(e:List Field) (b c:List Kd),Od go P e b=some c→
 (∀f∈e,∀l,go f.type=some l→P.cellsOf f.type=l.length→Ku l ((cs.drop f.offset).take l.length)=true)→Ku b (cs.take b.length)=true→Ku c (cs.take c.length)=true
 |[],b,c,h,_,j=>by
  simp[Od]at h;simp_all
 |f::e,b,c,h,k,j=>by
  simp only[Od,ej]at h;obtain⟨l,n,h⟩:=h;by_cases i:f.offset=b.length∧P.cellsOf f.type=l.length
  · rw[if_pos i]at h
    have m:=k f (by simp) l n i.2;rw[i.1]at m;refine ke e (b++l) c h (fun g o=>k g (by simp[o])) ?_;have:=fU j m;grind
  simp_all
section
variable {H:Type}{enc:fo×eD→H}{P:hO}{w:iP}{base:Nat}{spare:Nat→Bool}{held:Bool}
theorem lz:∀(d:Nat) {t:fo} {o:List Kd} {p:Nat} {g:List eD} {x:DataW H×List MemPlace},flat P d t=some o→DataW.trod enc P w base spare held p t g=some x→Ku o g=true
 |0,t,o,p,g,x,h,_=>by simp[flat]at h
 |d+1,t,o,p,g,x,h,b=>by
  unfold flat at h;split at h
  · rename_i k c
    obtain⟨n,rfl,-,E⟩:=DataW.trod_int c b;cases h
    simp[Ku,Kd.ok,E]
  · rename_i c
    cases h
    cases p with
    |zero=>simp[DataW.trod]at b
    |succ n=>
     unfold DataW.trod at b;rw[c]at b;split at b<;>simp_all [Ku,Kd.ok]
  · rename_i n e c
    rw[ej]at h;obtain⟨l,r,h⟩:=h;by_cases q:P.cellsOf t=n*l.length∧P.cellsOf e=l.length
    · rw[if_pos q]at h
      cases h
      obtain⟨G,m,-,-,I,J,u⟩:=DataW.trod_array c b;refine qe n g (by omega) fun i K=> ?_;have:=u i K;rw[q.2,ed (by omega)]at this;exact lz d r this
    simp_all
  · rename_i B c
    rw[ej]at h;obtain⟨l,r,h⟩:=h;by_cases q:P.cellsOf t=l.length
    · rw[if_pos q]at h
      cases h
      obtain⟨G,m,-,-,I,J,u⟩:=DataW.trod_struct c b
      have:=ke (cs:=g) B.toList [] o r (fun f L M C D=>by
       obtain⟨j,hj,rfl⟩:=List.getElem_of_mem L;simp only[Array.length_toList]at hj;have z:=u j B[j] (Array.getElem?_eq_getElem hj);rw[ed (by omega)]at z;simp only[Array.getElem_toList]at C D⊢;rw[D]at z;exact lz d C z) rfl
      grind
    simp_all
  simp_all
theorem yT{d:Nat}{t:fo}{ks:List Kd}{r:Reach}{b:Nat}{v:eD}{D:DataW H}{c:List MemPlace}(e:flat P d t=some ks)(g:(match P.underlying t with|some (.struct _)|some (.array _ _)=>true|_=>false)=true)(hv:Value.okWide P w r b t v)(h:DataW.Trod enc P w base spare held t v D c):∃cs:List eD,v=.agg cs.toArray∧Ku ks cs=true:=by
 obtain⟨i,f⟩:=h;have:=lz d e f;unfold Value.okWide at hv;split at hv
 · exact yfi
 · exact yfi
 simp_all
end
def QC(b:List Kd)(w:iP)(a:Option Addr)(len c:Nat):Prop:=
 (a=none∧len=0∧c=0)∨
 ∃x,a=some x∧len≤c∧c≤maxLen∧∀i,i<len→∃e,Ku b e=true∧∀j,j<b.length→w.cell? (x.add (i*b.length+j))=e[j]?
def Rds(w:iP)(B:Nat)(A:Option Addr)(C n:Nat)(c:List (List eD)):Prop:=
 c.length=n∧(∀r∈c,r.length=C)∧(0<n→∃b o,A=some ⟨b,o,none⟩∧b<B∧∀i r j u,c[i]? =some r→r[j]? =some u→w.cell? ⟨b,o+(i*C+j),none⟩=some u)
theorem Rds.same{w w':iP}{B C n:Nat}{A:Option Addr}{c:List (List eD)}(h:Rds w B A C n c)(g:∀p:Addr,p.block<B→w'.cell? p=w.cell? p):Rds w' B A C n c:=by
 refine⟨h.1,h.2.1,fun f=> ?_⟩;obtain⟨b,o,e,i,j⟩:=h.2.2 f;grind
theorem QC.rds{c:List Kd}{w:iP}{a:Option Addr}{len l:Nat}(h:QC c w a len l)(D:0<c.length):
 ∃rows,Rds w w.heap.size a c.length len rows∧(∀r∈rows,Ku c r=true)∧len≤l∧l≤maxLen:=by
 rcases h with⟨rfl,rfl,rfl⟩|⟨x,rfl,E,G,H⟩
 · exact⟨[],⟨rfl,by simp,fun h=>absurd h (by omega)⟩,by simp,by omega,by unfold maxLen;omega⟩
 · obtain⟨V,g⟩:=choose_lt (α:=List eD) (p:=fun i n=>Ku c n=true∧∀j,j<c.length→w.cell? (x.add (i*c.length+j))=n[j]?) H
   refine⟨(hZ len).map V,⟨by simp,?_,fun I=> ?_⟩,?_,E,G⟩
   · intro r m
     obtain⟨i,e,rfl⟩:=hX.1 m;exact aL (g i (hG.1 e)).1
   · have q:=g 0 I
     have M:=aL q.1;have k:=q.2 0 D;rw[Nat.zero_mul,Nat.add_zero,ed (by omega)]at k;have J:x.add 0=x:=rfl;rw[J]at k;obtain⟨b,o,s⟩:=x;have t:=World.cell?_spot k;simp at t;subst t;refine⟨b,o,rfl,World.block_lt_of_cell? w _ k,fun i r j u f z=> ?_⟩;rw[List.getElem?_map]at f;cases e:(hZ len)[i]? with
     |none=>rw[e]at f;cases f
     |some B=>
      rw[e]at f;have C:i<len:=by have:=(ek.1 e).1;simpa using this
      have:B=i:=by simpa[C]using e.symm
      subst this;cases f
      obtain⟨K,L⟩:=g B C;have hj:j<c.length:=by have:=(ek.1 z).1;rw[aL K]at this;exact this
      have:=L j hj;rw[z,Addr.add_lit]at this;exact this
   · intro r m
     obtain⟨i,e,rfl⟩:=hX.1 m;exact(g i (hG.1 e)).1
end
end Go.Proofs.YtlkpfnjdbgeifaaGreat
