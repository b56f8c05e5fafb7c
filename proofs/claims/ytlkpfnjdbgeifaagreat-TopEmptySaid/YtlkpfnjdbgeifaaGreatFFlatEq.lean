import Derived.ChangeKeysEq
import Derived.Laws.StructEq
import Derived.Test.YtlkpfnjdbgeifaaGreatFFlat
open Bool renaming and_eq_true→ed,and_true→hO,false_eq_true→jg
open Option renaming bind_eq_some_iff→ej
open List renaming length_eq_one_iff→ek,take_append_drop→eD,length_take→eX,eq_nil_of_length_eq_zero→fj,drop_drop→gg,drop_eq_nil_of_le→hZ,all_cons→jd,cons_append→js,length_drop→jt,headD_cons→jw,replicate→jI,range'→kb
open Go renaming Value→fo,TypeId→hX,run_underlying→iP,Program→jm
open Go.Result renaming andThen_ok→hG
namespace Go.Proofs.YtlkpfnjdbgeifaaGreat
open Go.RowKit
theorem yde{A:Prop}(h:A:=by
 obtain⟨v,h1,h2⟩:=one (by cases d with|zero=>cases hf|succ d=>(unfold flat at hf;grind));unfold Nz OK;rw[hd,h2];simp[part,isAgg,run_underlying hd,h1]):A:=h
section
def vEq:fo→fo→Bool
 | .int _ a,.int _ b=>a==b
 | .bool a,.bool b=>a==b
 |_,_=>false
def lEq:List fo→List fo→Bool
 |[],[]=>true
 |x::b,y::c=>vEq x y&&lEq b c
 |_,_=>false
theorem ju:∀{b c e f:List fo},b.length=c.length→lEq (b++e) (c++f)=(lEq b c&&lEq e f)
 |[],[],_,_,_=>by rfl
 |x::b,y::c,_,_,h=>by
  simp only[js,lEq,ju (show b.length=c.length by simp_all),Bool.and_assoc]
 |[],_::_,_,_,h=>by grind
 |_::_,[],_,_,h=>by grind
theorem ri:∀{f:List Kd} {xs ys:List fo},Ku f xs=true→Ku f ys=true→(lEq xs ys=true↔xs=ys)
 |[],[],[],_,_=>by simp[lEq]
 |k::f,x::xs,y::ys,c,e=>by
  simp only[Ku,ed]at c e;have g:=ri (xs:=xs) (ys:=ys) c.2 e.2;cases k with
  |int k=>
   obtain⟨a,rfl,-⟩:=gK c.1;obtain⟨b,rfl,-⟩:=gK e.1;simp[lEq,vEq,g]
  |bool=>
   obtain⟨a,rfl⟩:=mN c.1;obtain⟨b,rfl⟩:=mN e.1;simp[lEq,vEq,g]
 |[],_::_,_,c,_=>by simp[Ku]at c
 |[],[],_::_,_,e=>by simp[Ku]at e
 |_::_,[],_,c,_=>by simp[Ku]at c
 |_::_,_::_,[],_,e=>by simp[Ku]at e
theorem tR{c:List Kd}{b:List fo}(h:Ku c b=true):lEq b b=true:=(ri h h).2 rfl
theorem cW:∀{a b:List Kd} {c:List fo},Ku (a++b) c=true→Ku a (c.take a.length)=true∧Ku b (c.drop a.length)=true
 |[],_,_,h=>by simpa[Ku]using h
 |k::a,b,x::c,h=>by
  simp only[js,Ku,ed]at h;obtain⟨e,f⟩:=cW h.2;simp only[List.length_cons,List.take_succ_cons,List.drop_succ_cons,Ku,ed];simp_all
 |k::a,b,[],h=>by simp[Ku]at h
theorem gL{b:List Kd}:∀(n:Nat) {c:List fo},Ku (jI n b).flatten c=true→∀i,i<n→Ku b ((c.drop (i*b.length)).take b.length)=true
 |0,_,_,i,e=>absurd e (by omega)
 |n+1,c,h,i,e=>by
  rw[List.replicate_succ,List.flatten_cons]at h;obtain⟨g,f⟩:=cW h;cases i with
  |zero=>simp_all
  |succ i=>
   have:=gL n f i (by omega);rw[gg,show b.length+i*b.length=(i+1)*b.length by grind]at this;omega
theorem kz{go:hX→Option (List Kd)}{P:jm}:∀(e:List Field) (b c:List Kd),Od go P e b=some c→∃r,c=b++r
 |[],b,c,h=>⟨[],by simp[Od]at h;simp[h]⟩
 |f::e,b,c,h=>by
  simp only[Od,ej]at h;obtain⟨l,i,h⟩:=h;by_cases g:f.offset=b.length∧P.cellsOf f.type=l.length
  · rw[if_pos g]at h
    obtain⟨r,j⟩:=kz e _ _ h;simp_all
  simp_all
def OK(P:jm)(t:hX):Bool:=match P.underlying t with|some (.struct _)=>true|some (.array _ _)=>true|_=>false
def Nz(P:jm)(t:hX)(b:List fo):fo:=if OK P t then .agg b.toArray else b.headD undef
def Og(P:jm):Nat→hX→Bool
 |0,_=>false
 |d+1,t=>(P.info? t).isSome&&match P.underlying t with
  |some (.struct b)=> !P.stoodInHeld t&&b.toList.all fun f=>f.name != "_" &&Og P d f.type
  |some (.array _ e)=>Og P d e
  |_=>true
theorem l6{P:jm}{d:Nat}{t:hX}(h:Og P d t=true):∃i,P.info? t=some i:=by
 cases d with
 |zero=>cases h
 |succ d=>
  simp only[Og,ed]at h;exact Option.isSome_iff_exists.1 h.1
section
variable {P:jm}(w:World)
theorem zD{d:Nat}{t:hX}{b:List Kd}(h:flat P d t=some b):(∃k,P.underlying t=some (.int k))∨P.underlying t=some .bool∨(∃c,P.underlying t=some (.struct c))∨∃n e,P.underlying t=some (.array n e):=by
 cases d with
 |zero=>cases h
 |succ d=>
  unfold flat at h;grind
theorem gB{d:Nat}{t:hX}{b:List Kd}{i:TypeInfo}(hf:flat P d t=some b)(g:P.info? t=some i)(j:P.cellsOf t=b.length)(c:List fo)(off:Nat)(l:off+b.length≤c.length):
 (part t c.toArray off).run P w=.ok (Nz P t ((c.drop off).take b.length)) w:=by
 have f:=run_sizeOf (P:=P) (w:=w) g;rw[j]at f
 have e:c.toArray.extract off (off+b.length)=((c.drop off).take b.length).toArray:=by
  rw[List.extract_toArray];simp
 have one:b.length=1→∃v,c[off]? =some v∧((c.drop off).take b.length).headD undef=v:=by
  intro h1;rw[h1];refine⟨_,List.getElem?_eq_getElem (by omega),?_⟩;rw[List.drop_eq_getElem_cons (by omega)];rfl
 rcases zD hf with⟨k,hd⟩|hd|⟨m,hd⟩|⟨n,o,hd⟩
 · exact yde
 · exact yde
 · unfold Nz OK
   rw[hd,←e];simp[part,isAgg,iP hd,f]
 · unfold Nz OK
   rw[hd,←e];simp[part,isAgg,iP hd,f]
theorem wE(n m:Nat):∀(b c:List fo),b.length=n*m→c.length=n*m→((List.range n).all fun i=>lEq ((b.drop (i*m)).take m) ((c.drop (i*m)).take m))=lEq b c:=by
 induction n with
 |zero=>
  intro b c g h;have f:b=[]:=fj (by omega);have j:c=[]:=fj (by omega);subst f j;rfl
 |succ n k=>
  intro b c g h;rw[Nat.succ_mul]at g h;have f:=k (b.drop m) (c.drop m) (by simp_all) (by simp_all);rw[List.range_succ_eq_map,jd,List.all_map]
  have e:lEq b c=(lEq (b.take m) (c.take m)&&lEq (b.drop m) (c.drop m)):=by
   rw[←ju (by rw[eX,eX];omega),eD,eD]
  rw[e,←f];simp only[Nat.zero_mul,List.drop_zero,Function.comp_def,gg];congr 2;funext i;rw[show m+i*m=(i+1)*m by rw[Nat.succ_mul];omega]
theorem eQ:∀(d:Nat) {t:hX} {z:List Kd},flat P d t=some z→Og P d t=true→∀{g j:List fo},Ku z g=true→Ku z j=true→∀D,d≤D→
 (Op.equalIn D t (Nz P t g) (Nz P t j)).run P w=.ok (lEq g j) w
 |0,t,z,h,_,_,_,_,_,_,_=>by simp[flat]at h
 |d+1,t,z,h,G,g,j,p,q,D,hD=>by
  obtain⟨D,rfl⟩:∃D',D=D'+1:=⟨D-1,by omega⟩;have h0:=h;unfold flat at h;split at h
  · rename_i k o
    cases h
    obtain⟨x,rfl⟩:=ek.1 (aL p);obtain⟨y,rfl⟩:=ek.1 (aL q)
    · simp only[Ku,hO]at p q
      obtain⟨a,rfl,-⟩:=gK p;obtain⟨b,rfl,-⟩:=gK q;have A:OK P t=false:=by unfold OK;rw[o]
      simp only[Nz,A,jw,jg,if_false,lEq,vEq,hO];exact run_equalIn_int w D t k k a b o
  · rename_i o
    cases h
    obtain⟨x,rfl⟩:=ek.1 (aL p);obtain⟨y,rfl⟩:=ek.1 (aL q)
    · simp only[Ku,hO]at p q
      obtain⟨a,rfl⟩:=mN p;obtain⟨b,rfl⟩:=mN q;have A:OK P t=false:=by unfold OK;rw[o]
      simp only[Nz,A,jw,jg,if_false,lEq,vEq,hO];exact run_equalIn_bool' w D t a b o
  · rename_i n e o
    rw[ej]at h;obtain⟨l,H,h⟩:=h;by_cases C:P.cellsOf t=n*l.length∧P.cellsOf e=l.length
    · rw[if_pos C]at h
      cases h
      have A:OK P t=true:=by unfold OK;rw[o]
      simp only[Nz,A,if_true]
      have T:Og P d e=true:=by
       simp only[Og,o,ed]at G;exact G.2
      obtain⟨ie,K⟩:=l6 T;have U:=run_sizeOf (P:=P) (w:=w) K;rw[C.2]at U;have L:=aL p;have M:=aL q;have aa:((jI n l).flatten).length=n*l.length:=by simp
      rw[aa]at L M;rw[←wE n l.length g j L M,List.range_eq_range',Op.equalIn];simp only[Sem.run_bind,iP o,hG,U,Std.Legacy.Range.forIn_eq_forIn_range',Std.Legacy.Range.size,Nat.sub_zero,Nat.add_sub_cancel,Nat.div_one];have E:∀i∈kb 0 n 1,i<n:=fun i N=>by simp_all
      generalize kb 0 n 1=r at E⊢;induction r with
      |nil=>simp
      |cons i r V=>
       have N:i<n:=E i (by simp)
       have ae:i*l.length+l.length≤n*l.length:=by
        have:=Nat.mul_le_mul_right l.length (show i+1≤n by omega);rw[Nat.succ_mul]at this;exact this
       have O:=gB w H K C.2 g (i*l.length) (by omega);have Q:=gB w H K C.2 j (i*l.length) (by omega);have R:=eQ d H T (gL n p i N) (gL n q i N) D (by omega);simp only[List.forIn_cons,Sem.run_bind,O,Q,R,hG,jd];cases hb:lEq ((g.drop (i*l.length)).take l.length) ((j.drop (i*l.length)).take l.length)
       · simp
       simp_all
    simp_all
  · rename_i fs o
    rw[ej]at h;obtain⟨l,H,h⟩:=h;by_cases C:P.cellsOf t=l.length
    · rw[if_pos C]at h
      cases h
      have A:OK P t=true:=by unfold OK;rw[o]
      simp only[Nz,A,if_true];simp only[Og,o,ed,Bool.not_eq_true']at G;obtain⟨-,hp,af⟩:=G;have ab:P.fieldsOf t=fs:=by unfold Program.fieldsOf;rw[o]
      rw[run_equalIn_struct w D t _ _ (by simp_all) hp,ab]
      have key:∀(B:List Field) (c:List Kd),Od (flat P d) P B c=some z→(B.all fun f=>f.name != "_" &&Og P d f.type)=true→
       (Op.eqFields D g.toArray j.toArray B).run P w=.ok (lEq (g.drop c.length) (j.drop c.length)) w:=by
       intro B;induction B with
       |nil=>
        intro c u _;simp[Od]at u;subst u;rw[hZ (by rw[aL p];omega),hZ (by rw[aL q];omega)];rfl
       |cons f B V=>
        intro c u I;simp only[jd,ed]at I;obtain⟨⟨ad,W⟩,I⟩:=I;simp only[Od,ej]at u;obtain⟨m,S,u⟩:=u;by_cases J:f.offset=c.length∧P.cellsOf f.type=m.length
        · rw[if_pos J]at u
          obtain⟨r,E⟩:=kz B _ _ u;have X:=p;have Y:=q;rw[E,List.append_assoc]at X Y;obtain⟨-,x1⟩:=cW X;obtain⟨-,y1⟩:=cW Y;obtain⟨x3,-⟩:=cW x1;obtain⟨y3,-⟩:=cW y1;have L:=aL p;have M:=aL q;have lk:z.length=c.length+m.length+r.length:=by rw[E];simp[Nat.add_assoc]
          obtain⟨ag,Z⟩:=l6 W;have O:=gB w S Z J.2 g c.length (by omega);have Q:=gB w S Z J.2 j c.length (by omega);have R:=eQ d S W x3 y3 D (by omega);have hn:f.name≠ "_" :=by simpa using ad
          have ah:=V _ u I;simp only[Op.eqFields,if_pos hn,Sem.run_bind,J.1,O,Q,R,hG]
          have e:lEq (g.drop c.length) (j.drop c.length)=(lEq ((g.drop c.length).take m.length) ((j.drop c.length).take m.length)&&lEq (g.drop (c++m).length) (j.drop (c++m).length)):=by
           rw[List.length_append,←gg,←gg,←ju (by rw[eX,eX,jt,jt];omega),eD,eD]
          rw[e];cases lEq ((g.drop c.length).take m.length) ((j.drop c.length).take m.length)
          · simp
          simp_all
        simp_all
      grind
    simp_all
  simp_all
theorem dR{d:Nat}{t:hX}{b:List Kd}(f:flat P d t=some b)(g:Og P d t=true)(i:OK P t=true)(j:d≤10000){c e:List fo}(k:Ku b c=true)(l:Ku b e=true):
 (binOp .eql t (.agg c.toArray) (.agg e.toArray)).run P w=.ok (.bool (lEq c e)) w:=by
 have h:=eQ w d f g k l 10000 j;simp only[Nz,i,if_true]at h;rw[run_eql_struct,h];rfl
theorem jV{d:Nat}{t:hX}{b:List Kd}(f:flat P d t=some b)(g:Og P d t=true)(i:OK P t=true)(j:d≤10000){c e:List fo}(k:Ku b c=true)(l:Ku b e=true):
 (binOp .neq t (.agg c.toArray) (.agg e.toArray)).run P w=.ok (.bool (!lEq c e)) w:=by
 have h:=eQ w d f g k l 10000 j;simp only[Nz,i,if_true]at h;rw[run_neq_struct,h];rfl
end
end
end Go.Proofs.YtlkpfnjdbgeifaaGreat
