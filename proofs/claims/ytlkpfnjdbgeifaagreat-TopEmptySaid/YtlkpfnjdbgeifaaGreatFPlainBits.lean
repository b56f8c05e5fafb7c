import Derived.Test.YtlkpfnjdbgeifaaGreatFPlainLane
import Derived.Test.YtlkpfnjdbgeifaaGreatFBase
set_option linter.unusedVariables false
open Int renaming eq_ofNat_of_zero_le→ed,natCast_pow→iP,toNat_natCast→jg,natCast_emod→ly,natCast_mul→l5,natCast_ediv→py
open List renaming getElem?_eq_getElem→ej,getD_eq_getElem?_getD→ek,getElem?_eq_none→eX,append_assoc→fo,length_append→hG,take_of_length_le→hO,foldl_append→jd,drop_eq_nil_of_le→jm,length_singleton→js,flatMap_cons→kb,ext_getElem?→kd,length_cons→kk,range→nr,mem_map→px,length_take→pz,range_succ→qa,map_append→r2,drop_drop→r4,take_add→sT
open Go.IntKind renaming u64→eD
open Nat renaming and_two_pow_sub_one_eq_mod→fj,testBit_eq_decide_div_mod_eq→gg,pow_le_pow_right→hX,eq_of_testBit_eq→hZ,xor_lt_two_pow→jw,lt_of_lt_of_le→jI,mod_eq_of_lt→lx,testBit_lt_two_pow→l4,mod_lt→o4,le_trans→ps,div_le_self→qc,pow_succ→tl
open BitVec renaming ofNat→jt,toNat_ofNat→pn
open Bool renaming and_eq_true→kn
open Go renaming bits→kr,u64_and_nat→l8,u32_xor_nat→tm
namespace Go.Proofs.YtlkpfnjdbgeifaaGreat
open Go.RowKit
section

theorem jS{α:Type}{P:List α→Prop}(h0:P [])(h1:∀l a,P l→P (l++[a]))(l:List α):P l:=by
 rw[←List.reverse_reverse l];induction l.reverse with
 |nil=>simp_all
 |cons a t ih=>simp_all
def Ml(u w k:Nat):List Bool:=(nr k).map fun j=>u.testBit (w-1-j)
def Ke(u w:Nat):List Bool:=Ml u w w
theorem iM(u w k:Nat):(Ml u w k).length=k:=by simp[Ml]
theorem ay(u w:Nat):(Ke u w).length=w:=iM u w w
theorem ii(u w k:Nat):Ml u w (k+1)=Ml u w k++[u.testBit (w-1-k)]:=by simp[Ml,qa]
def MZ:List Bool→Nat:=List.foldl (fun n b=>2*n+b.toNat) 0
theorem iw(l:List Bool)(b:Bool):MZ (l++[b])=2*MZ l+b.toNat:=by simp[MZ,jd]
theorem mP(l:List Bool):MZ l<2^l.length:=by
 refine jS (P:=fun l=>MZ l<2^l.length) (by simp[MZ]) (fun l b c=> ?_) l;rw[iw,hG,js,tl];have:b.toNat≤1:=by cases b<;>simp
 omega
theorem uW{b:Type}(l:List b)(k:Nat)(h:k<l.length):l.take (k+1)=l.take k++[l[k]]:=by simp
def Qn(l:List Bool)(i k:Nat):Nat:=MZ ((nr k).map fun j=>l.getD (i+j) false)
def Ob(l:List Bool)(i:Nat):Nat:=Qn l i 8
theorem BT(l:List Bool)(i k:Nat):Qn l i k<2^k:=by
 have h:=mP ((nr k).map fun j=>l.getD (i+j) false);simpa[Qn]using h
def L9(l:List Bool)(k:Nat):List Nat:=(nr k).map fun j=>Ob l (8*j)
def KG(l:List Bool):List Nat:=L9 l ((l.length+7)/8)
theorem rH(l:List Bool)(k:Nat):L9 l (k+1)=L9 l k++[Ob l (8*k)]:=by simp[L9,qa]
theorem cz(l:List Bool)(k:Nat):(L9 l k).length=k:=by simp[L9]
def ofN(b:List Nat):List Bool:=b.flatMap (Ke · 8)
theorem vB(b:List Nat):(ofN b).length=8*b.length:=by
 induction b with
 |nil=>rfl
 |cons x t c=>simp only[ofN,kb,hG,ay,kk]at*;omega
theorem zL:∀M:Fin 256,∀k:Fin 8,(match(M9 M.val)[k.val]? with|some D=>decide (D<8)&&M.val.testBit D&&(cnt M.val D==k.val)|none=>true)=true:=by decide+kernel
theorem ww{M k D:Nat}(b:M<256)(h:(M9 M)[k]? =some D):D<8∧M.testBit D=true∧cnt M D=k:=by
 have c:k<8:=by
  have:=(List.getElem?_eq_some_iff.1 h).1;have:=gj M 8;rw[gW]at*;omega
 have:=zL ⟨M,b⟩ ⟨k,c⟩;simp_all
theorem fL{M:Nat}(b:M<256):N8 M=M9 M:=by rw[N8,jU (by omega) (by omega)];rfl
theorem uZ{M k:Nat}{d:Int}(b:M<256)(h:(M9 M)[k]? =some d.toNat)(f:0≤d):Np M d=k:=by
 obtain⟨g,c,e⟩:=ww b h
 have:hasB M d=true:=by
  simp only[hasB,kn,decide_eq_true_eq,jU (show 0≤(M:Int) by omega) (show(M:Int)<256 by omega),jg];exact⟨⟨trivial,by omega,by omega⟩,c⟩
 simp only[Np,this,if_true,jg,e]
theorem y4{M:Nat}{d:Int}(c:M<256)(h:∀(j D:Nat),(M9 M)[j]? =some D→(D:Int)≠d):Np M d= -1:=by
 unfold Np;split
 · rename_i b
   simp only[hasB,kn,decide_eq_true_eq,jg]at b;obtain⟨D,rfl⟩:=ed b.1.2.1;exact absurd rfl (h _ D (xX ⟨M,c⟩ ⟨D,by omega⟩ (by grind)))
 · rfl
end
section

def QU:Nat:=1947962583
def Oi(s:Nat):Nat:=if s.testBit 31 then(2*s%4294967296)^^^QU else 2*s%4294967296
def Pm:Nat→Nat→Nat
 |0,s=>s
 |k+1,s=>Oi (Pm k s)
def O7(s x:Nat):Nat:=Pm 8 (s^^^(x*16777216))
def Pq(s:Nat)(b:List Nat):Nat:=b.foldl O7 s
def kof(b:List Nat):Nat:=Pq 4294967295 b
theorem xw:QU<4294967296:=by decide
theorem zt(s:Nat):Oi s<4294967296:=by
 unfold Oi;split
 · exact jw (n:=32) (o4 _ (by decide)) xw
 omega
theorem tS(k s:Nat)(h:s<4294967296):Pm k s<4294967296:=by
 cases k with
 |zero=>exact h
 |succ k=>exact zt _
theorem qo(s x:Nat)(h:s<4294967296)(b:x<256):s^^^(x*16777216)<4294967296:=jw (n:=32) h (by omega)
theorem Cu(s x:Nat)(h:s<4294967296)(b:x<256):O7 s x<4294967296:=tS 8 _ (qo s x h b)
theorem rj(b:List Nat):∀s,s<4294967296→(∀x∈b,x<256)→Pq s b<4294967296:=by
 induction b with
 |nil=>intro s h _;exact h
 |cons x t e=>intro s h c;exact e _ (Cu s x h (c x (by simp))) fun y f=>c y (by simp[f])
theorem zq(s:Nat)(b:List Nat)(x:Nat):Pq s (b++[x])=O7 (Pq s b) x:=by simp[Pq,jd]
theorem Hf(s:Nat)(h:s<4294967296):kr .and .u32 (s:Int) 2147483648=if s.testBit 31 then 2147483648 else 0:=by
 have e:=u32_and_nat s 2147483648 h (by decide);have e2:s&&&2147483648=s/2^31%2*2^31:=nat_bit 31 s;grind
theorem J0(s:Nat)(h:s.testBit 31=true):kr .xor .u32 ((s:Int)*2%4294967296) 1947962583=(Oi s:Int):=by
 have e1:(s:Int)*2%4294967296=((2*s%4294967296:Nat):Int):=by omega
 have e:=tm (2*s%4294967296) QU (o4 _ (by decide)) xw;rw[show(QU:Int)=1947962583 from rfl]at e;rw[e1,e,Oi,h];rfl
theorem Cy(s:Nat)(h:s.testBit 31=false):(s:Int)*2%4294967296=(Oi s:Int):=by
 rw[Oi,h];grind
theorem Ff(s x:Nat)(h:s<4294967296)(b:x<256):kr .xor .u32 (s:Int) ((x:Int)*16777216)=((s^^^(x*16777216):Nat):Int):=by
 have e:=tm s (x*16777216) h (by omega);simp_all
theorem qB(u w j:Nat)(h:j<w):(Ke u w)[j]? =some (u.testBit (w-1-j)):=by simp[Ke,Ml,h]
theorem wQ(u w j:Nat)(h:j<w):(Ke u w).getD j false=u.testBit (w-1-j):=by rw[ek,qB u w j h];rfl
theorem tz(u w k:Nat)(h:k≤w):MZ (Ml u w k)=u/2^(w-k)%2^k:=by
 induction k with
 |zero=>simp[Ml,MZ,Nat.mod_one]
 |succ k c=>
  rw[ii,iw,c (by omega)]
  have e:u/2^(w-k)=u/2^(w-(k+1))/2:=by
   rw[Nat.div_div_eq_div_mul,←tl];congr 2;omega
  have e2:w-1-k=w-(k+1):=by omega
  rw[e,e2,gg];generalize u/2^(w-(k+1))=q;have b:q%2=0∨q%2=1:=by omega
  have e3:q%2^(k+1)=q%2+2*(q/2%2^k):=by rw[Nat.pow_succ',Nat.mod_mul]
  rcases b with b|b<;>simp[b]<;>omega
theorem jh(u w:Nat)(h:u<2^w):MZ (Ke u w)=u:=by
 rw[Ke,tz u w w (Nat.le_refl _),Nat.sub_self,Nat.pow_zero,Nat.div_one,lx h]
theorem wP(u w:Nat)(b:Bool):Ke (2*u+b.toNat) (w+1)=Ke u w++[b]:=by
 have e:b.toNat<2:=by cases b<;>simp
 rw[Ke,ii]
 have c:(2*u+b.toNat).testBit (w+1-1-w)=b:=by
  rw[show w+1-1-w=0 by omega,Nat.testBit_zero];cases b<;>simp<;>omega
 rw[c];congr 1;unfold Ke Ml;apply List.map_congr_left;intro j hj;rw[List.mem_range]at hj;rw[show w+1-1-j=(w-1-j)+1 by omega,Nat.testBit_succ];congr 1;omega
theorem pq(l:List Bool):Ke (MZ l) l.length=l:=by
 refine jS (P:=fun l=>Ke (MZ l) l.length=l) (by simp[Ke,Ml]) (fun l b c=> ?_) l;rw[iw,hG,js,wP,c]
theorem rf(l:List Bool)(q:Nat)(h:q<l.length):(MZ l).testBit q=l.getD (l.length-1-q) false:=by
 have b:=wQ (MZ l) l.length (l.length-1-q) (by omega);rw[pq]at b;grind
theorem pE(l:List Bool)(q:Nat)(h:l.length≤q):(MZ l).testBit q=false:=
 l4 (jI (mP l) (hX (by omega) h))
theorem bO(l:List Bool)(i q:Nat):(Ob l i).testBit q=(decide (q<8)&&l.getD (i+(7-q)) false):=by
 unfold Ob Qn;by_cases h:q<8
 · rw[rf _ q (by simp_all)]
   grind
 · rw[pE _ q (by simp_all)]
   simp[h]
theorem rc(l:List Bool)(i:Nat):Ob l i<256:=BT l i 8
theorem yW(l:List Bool)(x:Bool)(j:Nat)(hj:j=l.length/8):Ob (l++[x]) (8*j)=Ob l (8*j) |||(x.toNat*2^(7-l.length%8)):=by
 apply hZ;intro q;rw[Nat.testBit_or,bO,bO,Nat.testBit_mul_two_pow];grind
theorem BU(l:List Bool)(x:Bool)(j:Nat)(hj:j<l.length/8):Ob (l++[x]) (8*j)=Ob l (8*j):=by
 apply hZ;intro q;rw[bO,bO];grind
theorem BV(l:List Bool)(j:Nat)(hj:l.length≤8*j):Ob l (8*j)=0:=by
 apply hZ;intro q;rw[bO,ek,eX (by omega)];simp
def Ny(l:List Bool):List Nat:=L9 l (l.length/8+1)
theorem vk(l:List Bool)(h:l.length%8≠0):Ny l=KG l:=by
 unfold Ny KG;grind
theorem vl(l:List Bool)(h:l.length%8=0):Ny l=KG l++[0]:=by
 unfold Ny KG;rw[rH,BV l _ (by omega)];grind
theorem yD(l:List Bool):(Ny l)[l.length/8]? =some (Ob l (8*(l.length/8))):=by simp[Ny,L9]
theorem GE(l:List Bool)(x:Bool):(Ny l).set (l.length/8) (Ob l (8*(l.length/8)) |||(x.toNat*2^(7-l.length%8)))=KG (l++[x]):=by
 have b:(KG (l++[x])).length=l.length/8+1:=by rw[KG,cz,hG,js];omega
 apply kd;intro j;by_cases hj:j<l.length/8+1
 · have e:(KG (l++[x]))[j]? =some (Ob (l++[x]) (8*j)):=by
    have:j<(l.length+1+7)/8:=by omega
    simp[KG,L9,this]
   rw[e,List.getElem?_set];by_cases h:l.length/8=j
   · rw[if_pos h,if_pos (by simp[Ny,cz]),←h,yW l x _ rfl]
   · rw[if_neg h]
     simp only[Ny,L9,List.getElem?_map,List.getElem?_range hj,Option.map_some];rw[BU l x j (by omega)]
 · rw[eX (by rw[List.length_set,Ny,cz];omega),eX (by omega)]
theorem EE(o u m s:Nat)(c:o<256)(g:u<18446744073709551616)(e:s≤7):
 kr .or .u8 (o:Int) (kr .and .u64 ((u:Int)/2^m) 1%256*2^s%256)=((o |||((u.testBit m).toNat*2^s):Nat):Int):=by
 have e1:(u:Int)/2^m=((u/2^m:Nat):Int):=by rw[py,iP];rfl
 have i:=qc u (2^m)
 have e2:kr .and .u64 ((u/2^m:Nat):Int) 1=(((u.testBit m).toNat:Nat):Int):=by
  rw[gg];generalize u/2^m=q at*;rw[sD _ (by omega) (by omega)];have b:q%2=0∨q%2=1:=by omega
  rcases b with b|b<;>simp[b]<;>omega
 have f:(u.testBit m).toNat≤1:=by cases u.testBit m<;>simp
 rw[e1,e2];generalize (u.testBit m).toNat=x at*;have j:2^s≤128:=ps (hX (by omega) e) (by decide);have k:x*2^s≤128:=ps (Nat.mul_le_mul_right _ f) (by omega)
 have e3:(x:Int)%256*2^s%256=((x*2^s:Nat):Int):=by
  have:(x:Int)%256=(x:Int):=by omega
  rw[this,l5,iP,Int.emod_eq_of_lt]
  · rfl
  · exact Int.mul_nonneg (by omega) (Int.le_of_lt (Int.pow_pos (by decide)))
  · have h:=congrArg (Nat.cast (R:=Int)) (rfl:x*2^s=x*2^s)
    rw[l5,iP]at h;have:((x*2^s:Nat):Int)≤128:=by omega
    rw[l5,iP]at this;exact Int.lt_of_le_of_lt this (by decide)
 rw[e3];exact u8_or_nat o (x*2^s) c (by omega)
theorem rb(b:List Nat)(i:Nat)(h:i<8*b.length):∃x,b[i/8]? =some x∧(ofN b)[i]? =some (x.testBit (7-i%8)):=by
 induction b generalizing i with
 |nil=>grind
 |cons y t e=>
  simp only[kk]at h;by_cases c:i<8
  · refine⟨y,by grind,?_⟩
    rw[ofN,kb,List.getElem?_append_left (by rw[ay];exact c),qB y 8 i c];grind
  · obtain⟨x,g,f⟩:=e (i-8) (by omega)
    refine⟨x,?_,?_⟩
    · grind
    · rw[ofN,kb,List.getElem?_append_right (by rw[ay];omega),ay]
      rw[show i%8=(i-8)%8 by omega];exact f
def Li(l:List Bool)(i k:Nat):List Bool:=(l.drop i).take k
theorem gX(l:List Bool)(i k:Nat)(h:i+k≤l.length):(Li l i k).length=k:=by simp[Li];omega
theorem zP(l:List Bool)(i k:Nat)(x:Bool)(h:l[i+k]? =some x):Li l i (k+1)=Li l i k++[x]:=by
 rw[Li,List.take_add_one,List.getElem?_drop,h];rfl
theorem Fs(U b s:Nat)(e:U<9223372036854775808)(f:b<256):
 kr .or .u64 ((U:Int)*2) (eD.wrap (kr .and .u8 ((b:Int)/2^s) 1))=((2*U+(b.testBit s).toNat:Nat):Int):=by
 have e1:(b:Int)/2^s=((b/2^s:Nat):Int):=by rw[py,iP];rfl
 have g:=qc b (2^s)
 have e2:kr .and .u8 ((b/2^s:Nat):Int) 1=(((b.testBit s).toNat:Nat):Int):=by
  rw[gg];generalize b/2^s=q at*;have:=u8_and_nat q 1 (by omega) (by omega);rw[show((1:Nat):Int)=1 from rfl]at this;rw[this,Nat.and_one_is_mod];have c:q%2=0∨q%2=1:=by omega
  rcases c with c|c<;>simp[c]
 have h:(b.testBit s).toNat≤1:=by cases b.testBit s<;>simp
 rw[e1,e2,dP _ (by omega)];generalize (b.testBit s).toNat=x at*;have e3:(U:Int)*2=((2*U:Nat):Int):=by omega
 rw[e3,u64_or_nat (2*U) x (by omega) (by omega),nat_join 1 (2*U) x (by omega) (by omega)]
end
section

def Ka(m b r:Int):Int:=if Ky m<2∨b<0∨r<0 then-1 else atI m ((b%Ky m+r%Ky m)%Ky m)
def JV(m:Int):Int:=if Ky m<2 then 0 else Ky m-1
def Le(m b r s:Int):Int:=if Ka m b r<0 then-1 else atI (KW m (Ka m b r)) s
def OB(m b r d:Int):Int:=if Ka m b r<0 then-1 else Np (KW m (Ka m b r)) d
def MT(m p:Int):List Nat:=if p<0 then []else N8 (KW m p)

theorem aI(m:Int):0≤Ky m∧Ky m≤8:=by
 unfold Ky;split
 · have:=gj m.toNat 8;omega
 · omega
theorem dQ{m:Int}(h:Ky m≠0):0≤m∧m<256:=by
 unfold Ky Mq at h;simp_all
theorem dy{M:Nat}(b:M<256):Ky (M:Int)=(cnt M 8:Int):=by
 rw[Ky,jU (by omega) (by omega)];rfl
theorem FZ{M:Nat}(b:M<256)(i:Nat)(c:i<cnt M 8):atI (M:Int) (i:Int)=((M9 M).getD i 0:Nat):=by
 unfold atI;rw[if_neg (by omega),fL b,ek,show((i:Int)).toNat=i by omega,ej (by rw[gW];exact c)];rfl
theorem lL:∀M:Fin 256,∀P:Fin 8,KW (M.val:Int) (P.val:Int)=((M.val&&&(255-2^P.val):Nat):Int):=by decide+kernel
def PK(M c:Nat):Nat:=(M9 M).getD (c%cnt M 8) 0
theorem yB:∀M:Fin 256,∀c:Fin 8,c.val<cnt M.val 8→(decide ((M9 M.val).getD c.val 0<8)&&M.val.testBit ((M9 M.val).getD c.val 0))=true:=by decide+kernel
theorem yC{M:Nat}(b:M<256)(h:0<cnt M 8)(c:Nat):PK M c<8∧M.testBit (PK M c)=true:=by
 have e:=o4 c h;have f:=gj M 8;have:=yB ⟨M,b⟩ ⟨c%cnt M 8,by omega⟩ e;rw[kn,decide_eq_true_eq]at this;exact this
theorem iZ{M:Nat}(c:M<256)(f:2≤cnt M 8)(b r:Nat):Ka (M:Int) (b:Int) (r:Int)=(PK M (b+r):Int):=by
 unfold Ka;rw[dy c,if_neg (by omega)]
 have e:((b:Int)%(cnt M 8:Int)+(r:Int)%(cnt M 8:Int))%(cnt M 8:Int)=(((b+r)%cnt M 8:Nat):Int):=by
  rw[←ly,←ly,←Int.natCast_add,←ly,←Nat.add_mod]
 rw[e,FZ c _ (o4 _ (by omega))];rfl
theorem ir(m b r:Int):Ka m b r= -1∨∃M P:Nat,m=M∧M<256∧2≤cnt M 8∧P<8∧M.testBit P=true∧Ka m b r=P:=by
 by_cases h:Ky m<2∨b<0∨r<0
 · exact .inl (by unfold Ka;omega)
 · obtain⟨c,g⟩:=dQ (show Ky m≠0 by omega)
   obtain⟨M,rfl⟩:=ed c;obtain⟨b,rfl⟩:=ed (show 0≤b by omega);obtain⟨r,rfl⟩:=ed (show 0≤r by omega);rw[dy (by omega)]at h;obtain⟨e,f⟩:=yC (M:=M) (by omega) (by omega) (b+r);exact .inr ⟨M,PK M (b+r),rfl,by omega,by omega,e,f,iZ (by omega) (by omega) b r⟩
theorem nW:∀M:Fin 256,∀P:Fin 8,M9 (M.val&&&(255-2^P.val))=(M9 M.val).filter (fun d=> !(d==P.val)):=by decide+kernel
theorem m8(m b r s:Int)(h:0≤s):Le m b r s=match(MT m (Ka m b r))[s.toNat]? with|some d=>(d:Int)|none=> -1:=by
 unfold Le MT;split
 · rfl
 · unfold atI
   grind
theorem zM{m b r:Int}{s:Int}(c:0≤s)(h:((MT m (Ka m b r)).length:Int)≤s):Le m b r s= -1:=by
 rw[m8 _ _ _ _ c,eX (by omega)]
theorem Dq(m b r s:Int)(h:s<0):Le m b r s= -1:=by
 unfold Le;split
 · rfl
 · unfold atI;omega
theorem y5{m d:Int}:(∀(j D:Nat),(N8 m)[j]? =some D→(D:Int)=d→Np m d=j)∧((∀(j D:Nat),(N8 m)[j]? =some D→(D:Int)≠d)→Np m d= -1):=by
 constructor
 · rintro j D h rfl
   by_cases b:m<0
   · simp[N8,nE b]at h
   · by_cases c:255<m
     · simp[N8,sO (show 256≤m by omega)]at h
     · obtain⟨M,rfl⟩:=ed (show 0≤m by omega)
       rw[fL (by omega)]at h;exact uZ (by omega) (by simp_all) (by omega)
 · intro h
   by_cases b:m<0
   · simp[Np,hasB,nE b]
   · by_cases c:255<m
     · simp[Np,hasB,sO (show 256≤m by omega)]
     · obtain⟨M,rfl⟩:=ed (show 0≤m by omega)
       rw[fL (by omega)]at h;exact y4 (by omega) h
theorem ve(m b r d:Int):(∀(j D:Nat),(MT m (Ka m b r))[j]? =some D→(D:Int)=d→OB m b r d=j)∧((∀(j D:Nat),(MT m (Ka m b r))[j]? =some D→(D:Int)≠d)→OB m b r d= -1):=by
 unfold MT OB;split
 · simp
 · exact y5

def KS(M P:Nat):List Nat:=M9 (M&&&(255-2^P))
def PZ(M P:Nat):Nat→Nat
 |0=>2^P
 |s+1=>PZ M P s |||2^((KS M P).getD s 0)
theorem EO:∀M:Fin 256,∀P:Fin 8,M.val.testBit P.val=true→∀s:Fin 8,s.val<cnt M.val 8-1→
 (decide ((KS M.val P.val).getD s.val 0<8)&& !(PZ M.val P.val s.val).testBit ((KS M.val P.val).getD s.val 0)&&decide (PZ M.val P.val s.val<256)&&decide (s.val<(KS M.val P.val).length))=true:=by decide+kernel
theorem BE{M P s:Nat}(b:M<256)(c:P<8)(e:M.testBit P=true)(f:s<cnt M 8-1):
 (KS M P).getD s 0<8∧(PZ M P s).testBit ((KS M P).getD s 0)=false∧PZ M P s<256∧s<(KS M P).length:=by
 have g:=gj M 8;have h:=EO ⟨M,b⟩ ⟨P,c⟩ e ⟨s,by omega⟩ f;grind
theorem xY{M P b r s:Nat}(f:M<256)(g:P<8)(h:Ka (M:Int) b r=(P:Int))(c:s<(KS M P).length):
 Le (M:Int) b r s=((KS M P).getD s 0:Nat)∧OB (M:Int) b r ((KS M P).getD s 0:Nat)=(s:Int):=by
 have e:MT (M:Int) (Ka (M:Int) b r)=KS M P:=by
  rw[h,MT,if_neg (by omega),lL ⟨M,f⟩ ⟨P,g⟩,fL (Nat.lt_of_le_of_lt Nat.and_le_left f)];rfl
 constructor
 · rw[m8 _ _ _ _ (by omega),e,show((s:Int)).toNat=s by omega,ej c,ek,ej c];rfl
 · exact(ve (M:Int) b r _).1 s _ (by rw[e,ej c]) (by simp_all)
end
section
def KM(r l s:Int):Nat:=(r%256).toNat*72057594037927936+(l%65536).toNat*1099511627776+(s%1099511627776).toNat
theorem kj(r l s:Int):KM r l s<18446744073709551616:=by unfold KM;omega
theorem de(x:Int):eD.wrap x=x%18446744073709551616:=by rfl
theorem nv(a b:Nat)(k:Nat)(h:a*2^k<18446744073709551616)(c:b<2^k)(g:k≤64):kr .or .u64 ((a*2^k:Nat):Int) (b:Int)=((a*2^k+b:Nat):Int):=by
 have i:b<18446744073709551616:=jI c (ps (hX (by decide) g) (by decide));simp only[kr];rw[show eD.bits=64 from rfl,show BitVec.ofInt 64 ((a*2^k:Nat):Int)=jt 64 (a*2^k) by rfl,BitVec.ofInt_natCast]
 have e:(jt 64 (a*2^k) |||jt 64 b).toNat=a*2^k+b:=by
  rw[BitVec.toNat_or,pn,pn,lx (by omega),lx (by omega),Nat.mul_comm,←Nat.two_pow_add_eq_or_of_lt c]
 have f:=(jt 64 (a*2^k) |||jt 64 b).isLt;rw[e]at f;have j:=dP (a*2^k+b) f;simp_all
theorem ze(r l s:Int):
 kr .or .u64 (kr .or .u64 (eD.wrap (eD.wrap r*72057594037927936)) (eD.wrap (kr .and .u64 (eD.wrap l) 65535*1099511627776))) (kr .and .u64 (eD.wrap s) 1099511627775)=(KM r l s:Int):=by
 have el:kr .and .u64 (eD.wrap l) 65535=(((l%65536).toNat:Nat):Int):=by
  obtain⟨L,b⟩:=ed (show 0≤l%18446744073709551616 by omega);rw[de,b,show(65535:Int)=((2^16-1:Nat):Int)from rfl,l8 L _ (by omega) (by decide),fj];omega
 have c:kr .and .u64 (eD.wrap s) 1099511627775=(((s%1099511627776).toNat:Nat):Int):=by
  obtain⟨L,b⟩:=ed (show 0≤s%18446744073709551616 by omega);rw[de,b,show(1099511627775:Int)=((2^40-1:Nat):Int)from rfl,l8 L _ (by omega) (by decide),fj];omega
 have e:eD.wrap (eD.wrap r*72057594037927936)=(((r%256).toNat*2^56:Nat):Int):=by
  rw[de,de];omega
 have f:eD.wrap ((((l%65536).toNat:Nat):Int)*1099511627776)=(((l%65536).toNat*2^40:Nat):Int):=by
  rw[de];omega
 rw[el,c,e,f,nv _ _ 56 (by omega) (by omega) (by decide)];have e3:(r%256).toNat*2^56+(l%65536).toNat*2^40=((r%256).toNat*65536+(l%65536).toNat)*2^40:=by omega
 rw[e3,nv _ _ 40 (by omega) (by omega) (by decide)];unfold KM;omega
def KQ(m:Int):Int:=m/72057594037927936
def LB(m:Int):Int:=m/1099511627776%65536
def LC(m:Int):Int:=m%1099511627776
theorem xB(m:Int)(b:0≤m)(e:m<18446744073709551616):wrap64 (m/72057594037927936)=KQ m∧wrap64 (kr .and .u64 (m/1099511627776) 65535)=LB m∧wrap64 (kr .and .u64 m 1099511627775)=LC m:=by
 obtain⟨M,rfl⟩:=ed b
 have el:kr .and .u64 ((M:Int)/1099511627776) 65535=(M:Int)/1099511627776%65536:=by
  rw[show(M:Int)/1099511627776=((M/1099511627776:Nat):Int) by omega,show(65535:Int)=((2^16-1:Nat):Int)from rfl,l8 _ _ (by omega) (by decide),fj];omega
 have c:kr .and .u64 (M:Int) 1099511627775=(M:Int)%1099511627776:=by
  rw[show(1099511627775:Int)=((2^40-1:Nat):Int)from rfl,l8 _ _ (by omega) (by decide),fj];omega
 rw[el,c];unfold KQ LB LC;refine⟨bF _ (by omega) (by omega),bF _ (by omega) (by omega),bF _ (by omega) (by omega)⟩
theorem x9(r l s:Int):KQ (KM r l s)=r%256∧LB (KM r l s)=l%65536∧LC (KM r l s)=s%1099511627776:=by
 unfold KQ LB LC KM;omega
theorem xE(m:Int)(b:0≤m)(c:m<18446744073709551616):(KM (KQ m) (LB m) (LC m):Int)=m:=by
 unfold KQ LB LC KM;omega
end
section

def over(a b:List Nat):List Nat:=List.zipWith (· ^^^·) a b
theorem ts(a b:List Nat)(h:a.length=b.length):(over a b).length=a.length:=by simp[over,h]
end
section

theorem CH(l:List Nat)(b:∀x∈l,x<256)(j:Nat):l.getD j 0<256:=by
  rw[ek];by_cases h:j<l.length
  · simp_all
  simp_all
end
section

theorem eK(l:List Bool):(KG l).length=(l.length+7)/8:=by rw[KG,cz]
theorem ch(b:List Nat):(ofN b).length=8*b.length:=by
 induction b with
 |nil=>rfl
 |cons x b c=>
  show(Ke x 8++ofN b).length=_;rw[hG,c,ay,kk];omega
theorem iE(l:List Bool):∀x∈KG l,x<256:=by
 intro x b;unfold KG L9 at b;obtain⟨j,_,rfl⟩:=px.1 b;exact rc _ _
theorem vC(l:List Bool)(i:Nat)(h:i<l.length):(ofN (KG l))[i]? =l[i]? :=by
 obtain⟨x,b,c⟩:=rb (KG l) i (by rw[eK];omega)
 have e:(KG l)[i/8]? =some (Ob l (8*(i/8))):=by
  have:i/8<(l.length+7)/8:=by omega
  simp[KG,L9,this]
 rw[e]at b;rw[c,←Option.some.inj b,bO,show decide (7-i%8<8)=true by(simp;omega),Bool.true_and,show 8*(i/8)+(7-(7-i%8))=i by omega,ek,ej h];rfl
end
theorem ydl{A:Prop}(h:A:=by
 have e:=mO (P.take n) (P.drop n);rw[List.take_append_drop]at e;have hl:(ofN (P.take n)).length=8*n:=by rw[ch,List.length_take];omega
 simp_all):A:=h
section
theorem lB(b:List Nat)(c:∀x∈b,x<256):KG (ofN b)=b:=by
 apply kd;intro j;have f:(KG (ofN b)).length=b.length:=by rw[eK,ch];omega
 by_cases hj:j<b.length
 · have e:(KG (ofN b))[j]? =some (Ob (ofN b) (8*j)):=by
    have:j<((ofN b).length+7)/8:=by rw[ch];omega
    simp[KG,L9,this]
   rw[e,ej hj];congr 1;apply hZ;intro q;rw[bO];by_cases g:q<8
   · obtain⟨x,i,k⟩:=rb b (8*j+(7-q)) (by omega)
     grind
   · rw[show decide (q<8)=false by simp_all,Bool.false_and]
     have:=c b[j] (List.getElem_mem hj);exact(l4 (jI this (hX (n:=2) (by decide) (show 8≤q by omega)))).symm
 simp_all
theorem mO(a b:List Nat):ofN (a++b)=ofN a++ofN b:=by simp[ofN,List.flatMap_append]
theorem fw(l:List Bool)(h:l.length%8=0):ofN (KG l)=l:=by
 apply kd;intro i;by_cases b:i<l.length
 · exact vC l i b
 · rw[eX (by rw[ch,eK];omega),eX (by omega)]
theorem iD(a b:List Nat)(c:∀x∈a,x<256)(e:∀x∈b,x<256):∀x∈a++b,x<256:=by grind
theorem wG(a b:List Bool)(c:a.length%8=0)(e:b.length%8=0):KG (a++b)=KG a++KG b:=by
 have:=lB (KG a++KG b) (iD _ _ (iE a) (iE b));rw[mO,fw a c,fw b e]at this;omega
def Ng(r l s k b o m:Int):List Bool:=Ke (KM r l s) 64++(Ke b.toNat 8++(Ke o.toNat 8++(Ke m.toNat 8++Ke k.toNat 8)))
theorem fV(r l s k b o m:Int):(Ng r l s k b o m).length=96:=by rfl
def NX(r l s k b o m:Int):List Nat:=KG (Ng r l s k b o m)
theorem dj(r l s k b o m:Int):(NX r l s k b o m).length=12:=by rw[NX,eK,fV]
theorem tX(r l s k b o m:Int):∀x∈NX r l s k b o m,x<256:=iE _
def OS(P:List Nat):List Nat:=KG (Ke (kof P) 32)
theorem m9(P:List Nat):(OS P).length=4:=by rw[OS,eK,ay]
theorem FM(P:List Nat):∀x∈OS P,x<256:=iE _
def Lo(d:List Nat)(r l s k b o m:Int):List Nat:=d++NX r l s k b o m++OS (d++NX r l s k b o m)
theorem df{d:List Nat}(h:d.length=16)(r l s k b o m:Int):(Lo d r l s k b o m).length=32:=by simp[Lo,dj,m9,h]
theorem jY{d:List Nat}(h:∀x∈d,x<256)(r l s k b o m:Int):∀x∈Lo d r l s k b o m,x<256:=iD _ _ (iD _ _ h (tX r l s k b o m)) (FM _)
def fld(P:List Nat)(a k:Nat):Nat:=MZ (Li (ofN P) a k)
theorem CU(P:List Nat)(a k:Nat)(h:a+k≤8*P.length):fld P a k<2^k:=by
 have:=mP (Li (ofN P) a k);rwa [gX _ _ _ (by rw[ch];exact h)]at this
theorem kG(l:List Bool)(a j k:Nat)(h:a+j≤l.length):Li l a j++Li l (a+j) k=Li l a (j+k):=by
 unfold Li;rw[←r4,sT]
theorem fO(P:List Nat)(a k:Nat)(h:a+k≤8*P.length):Ke (fld P a k) k=Li (ofN P) a k:=by
 have:=pq (Li (ofN P) a k);rwa [gX _ _ _ (by rw[ch];exact h)]at this
theorem oe(P:List Nat)(n:Nat):ofN (P.drop n)=(ofN P).drop (8*n):=by
 by_cases h:n≤P.length
 · exact ydl
 · rw[jm (by omega),jm (by rw[ch];omega)];rfl
theorem BS(P:List Nat)(n:Nat):ofN (P.take n)=(ofN P).take (8*n):=by
 by_cases h:n≤P.length
 · exact ydl
 · rw[hO (by omega),hO (by rw[ch];omega)]
theorem wB(P:List Nat)(a k:Nat):Li (ofN (P.drop 16)) a k=Li (ofN P) (128+a) k:=by
 unfold Li;rw[oe,r4]
theorem r8{P:List Nat}(h:∀x∈P,x<256)(n:Nat):∀x∈P.drop n,x<256:=fun x b=>h x (List.mem_of_mem_drop b)
theorem jO{P:List Nat}(h:∀x∈P,x<256)(n:Nat):∀x∈P.take n,x<256:=fun x b=>h x (List.mem_of_mem_take b)
def rM(P:List Nat):Nat:=fld P 128 64
def rR(P:List Nat):Int:=KQ (rM P)
def rL(P:List Nat):Int:=LB (rM P)
def rS(P:List Nat):Int:=LC (rM P)
def rB(P:List Nat):Int:=fld P 192 8
def rO(P:List Nat):Int:=fld P 200 8
def rK(P:List Nat):Int:=fld P 216 8
def L7(P:List Nat):Int:=fld P 208 8
theorem Gi{P:List Nat}(h:P.length=32):rM P<18446744073709551616:=CU P 128 64 (by omega)
theorem vF{P:List Nat}(h:P.length=32):Ng (rR P) (rL P) (rS P) (rK P) (rB P) (rO P) (L7 P)=Li (ofN P) 128 96:=by
 have e:KM (rR P) (rL P) (rS P)=rM P:=by
  have:=xE (rM P) (by omega) (by have:=Gi h;omega);unfold rR rL rS;omega
 have b:(ofN P).length=256:=by rw[ch];omega
 unfold Ng;rw[e];unfold rM rB rO L7 rK;simp only[jg]
 rw[fO _ _ _ (by omega),fO _ _ _ (by omega),fO _ _ _ (by omega),fO _ _ _ (by omega),fO _ _ _ (by omega),
  show(216:Nat)=208+8 from rfl,kG _ _ _ _ (by omega),show(208:Nat)=200+8 from rfl,kG _ _ _ _ (by omega),show(200:Nat)=192+8 from rfl,kG _ _ _ _ (by omega),show(192:Nat)=128+64 from rfl,kG _ _ _ _ (by omega)]
theorem zy{P:List Nat}(h:P.length=32)(b:∀x∈P,x<256):NX (rR P) (rL P) (rS P) (rK P) (rB P) (rO P) (L7 P)=(P.drop 16).take 12:=by
 unfold NX;rw[vF h];have e:Li (ofN P) 128 96=ofN ((P.drop 16).take 12):=by rw[BS,oe];rfl
 rw[e,lB _ (jO (r8 b _) _)]
theorem yP{P:List Nat}(h:P.length=32)(b:∀x∈P,x<256):Lo (P.take 16) (rR P) (rL P) (rS P) (rK P) (rB P) (rO P) (L7 P)=P.take 28++OS (P.take 28):=by
 unfold Lo;rw[zy h b,show P.take 16++(P.drop 16).take 12=P.take 28 from(sT (i:=16) (j:=12)).symm]
theorem tp{P:List Nat}(h:P.length=32)(b:∀x∈P,x<256):Lo (P.take 16) (rR P) (rL P) (rS P) (rK P) (rB P) (rO P) (L7 P)=P↔fld P 224 32=kof (P.take 28):=by
 rw[yP h b]
 have c:Li (ofN P) 224 32=ofN (P.drop 28):=by
  unfold Li;rw[oe,hO (by rw[List.length_drop,ch];omega)]
 have f:kof (P.take 28)<2^32:=rj _ _ (by decide) (jO b _);constructor
 · intro e
   have e2:OS (P.take 28)=P.drop 28:=by
    have e3:=congrArg (List.drop 28) e;rwa [List.drop_append_of_le_length (by rw[pz];omega),jm (by rw[pz];omega),List.nil_append]at e3
   unfold fld;rw[c,←e2,OS,fw _ (by rw[ay]),jh _ _ f]
 · intro e
   have e2:OS (P.take 28)=P.drop 28:=by
    unfold OS;rw[←e,fO _ _ _ (by omega),c,lB _ (r8 b _)]
   rw[e2,List.take_append_drop]
theorem Aa{d:List Nat}(c:∀x∈d,x<256)(r l s k b o m:Int):ofN (Lo d r l s k b o m)=ofN d++(Ng r l s k b o m++Ke (kof (d++NX r l s k b o m)) 32):=by
 unfold Lo OS NX;rw[mO,mO,fw _ (by rw[fV]),fw _ (by rw[ay]),fo]
theorem kF(a b c:List Bool)(i k:Nat)(e:a.length=i)(f:b.length=k):Li (a++(b++c)) i k=b:=by
 unfold Li;simp_all
theorem pT{d:List Nat}(q:d.length=16)(h:∀x∈d,x<256){r l s k b o m:Int}(t:0≤r)(u:r<256)(w:0≤l)(z:l<65536)(s0:0≤s)(s1:s<1099511627776)(k0:0≤k)(k1:k<256)(i:0≤b)(j:b<256)(n:0≤o)(p:o<256)(m0:0≤m)(m1:m<256):
 (Lo d r l s k b o m).take 16=d∧rR (Lo d r l s k b o m)=r∧rL (Lo d r l s k b o m)=l∧rS (Lo d r l s k b o m)=s∧rK (Lo d r l s k b o m)=k∧rB (Lo d r l s k b o m)=b∧rO (Lo d r l s k b o m)=o∧L7 (Lo d r l s k b o m)=m:=by
 have e:=Aa h r l s k b o m;have c:(ofN d).length=128:=by rw[ch];omega
 generalize A:Ke (kof (d++NX r l s k b o m)) 32=C at e
 have f:rM (Lo d r l s k b o m)=KM r l s:=by
  unfold rM fld;rw[e,Ng,fo,kF _ _ _ _ _ c (ay _ _),jh _ _ (kj r l s)]
 have g:=x9 r l s;have eb:∀x:Int,0≤x→x<256→((MZ (Ke x.toNat 8):Nat):Int)=x:=fun x B D=>by rw[jh _ _ (by omega)];omega
 refine⟨by rw[Lo,fo,List.take_append_of_le_length (by omega),hO (by omega)],?_,?_,?_,?_,?_,?_,?_⟩
 · unfold rR;rw[f,g.1];omega
 · unfold rL;rw[f,g.2.1];omega
 · unfold rS;rw[f,g.2.2];omega
 · unfold rK fld
   rw[e,Ng,show ofN d++(Ke (KM r l s) 64++(Ke b.toNat 8++(Ke o.toNat 8++(Ke m.toNat 8++Ke k.toNat 8)))++C)=(ofN d++Ke (KM r l s) 64++Ke b.toNat 8++Ke o.toNat 8++Ke m.toNat 8)++(Ke k.toNat 8++C) by simp only[fo],kF _ _ _ _ _ (by simp[ay,c]) (ay _ _),eb k k0 k1]
 · unfold rB fld
   rw[e,Ng,show ofN d++(Ke (KM r l s) 64++(Ke b.toNat 8++(Ke o.toNat 8++(Ke m.toNat 8++Ke k.toNat 8)))++C)=(ofN d++Ke (KM r l s) 64)++(Ke b.toNat 8++(Ke o.toNat 8++Ke m.toNat 8++Ke k.toNat 8++C)) by simp only[fo],kF _ _ _ _ _ (by simp[ay,c]) (ay _ _),eb b i j]
 · unfold rO fld
   rw[e,Ng,show ofN d++(Ke (KM r l s) 64++(Ke b.toNat 8++(Ke o.toNat 8++(Ke m.toNat 8++Ke k.toNat 8)))++C)=(ofN d++Ke (KM r l s) 64++Ke b.toNat 8)++(Ke o.toNat 8++(Ke m.toNat 8++Ke k.toNat 8++C)) by simp only[fo],kF _ _ _ _ _ (by simp[ay,c]) (ay _ _),eb o n p]
 · unfold L7 fld
   rw[e,Ng,show ofN d++(Ke (KM r l s) 64++(Ke b.toNat 8++(Ke o.toNat 8++(Ke m.toNat 8++Ke k.toNat 8)))++C)=(ofN d++Ke (KM r l s) 64++Ke b.toNat 8++Ke o.toNat 8)++(Ke m.toNat 8++(Ke k.toNat 8++C)) by simp only[fo],kF _ _ _ _ _ (by simp[ay,c]) (ay _ _),eb m m0 m1]
end
section
structure Sh where
 d:List Nat
 r:Int
 l:Int
 s:Int
 k:Int
 b:Int
 o:Int
 m:Int
def NH(l:List Nat):Nat:=l.foldl (· ^^^·) 0
theorem yh(l:List Nat):∀s,l.foldl (· ^^^·) s=s^^^NH l:=by
 induction l with
 |nil=>intro s;simp[NH]
 |cons x l b=>
  intro s;have h:=b (0^^^x);unfold NH;grind
theorem cS(a b:List Nat):NH (a++b)=NH a^^^NH b:=by
 unfold NH;rw[jd,yh];rfl
theorem pH(a:Nat)(b:List Nat):NH (a::b)=a^^^NH b:=by
 rw[show a::b=[a]++b from rfl,cS];simp[NH]
theorem qF{n:Nat}:∀{l:List Nat},(∀x∈l,x<2^n)→NH l<2^n
 |[],_=>Nat.two_pow_pos n
 |x::l,h=>by rw[pH];exact jw (h x (by simp)) (qF fun y b=>h y (by simp[b]))
def KT(l:List Sh):List Nat:=l.foldl (fun a x=>over a x.d) (List.replicate 16 0)
def KE(l:List Sh):Nat:=NH (l.map fun x=>KM x.r x.l x.s)
theorem je(l:List Sh)(x:Sh):KT (l++[x])=over (KT l) x.d:=by simp[KT,jd]
theorem nT(l:List Sh)(x:Sh):KE (l++[x])=KE l^^^KM x.r x.l x.s:=by
 unfold KE;rw[r2,cS];simp[NH]
theorem gH(l:List Sh):KE l<18446744073709551616:=qF (n:=64) fun x b=>by
 obtain⟨y,-,rfl⟩:=px.1 b;exact kj _ _ _
theorem be{l:List Sh}(h:∀x∈l,x.d.length=16):(KT l).length=16:=by
 induction l using jS with
 |h0=>rfl
 |h1 l x b=>
  rw[je,ts _ _ (by simp_all)];simp_all
theorem kY{l:List Sh}(h:∀x∈l,x.d.length=16)(i:Nat)(b:i<16):(KT l)[i]? =some (NH (l.map fun x=>x.d.getD i 0)):=by
 induction l using jS with
 |h0=>
  simp only[KT,List.foldl_nil,List.getElem?_replicate,if_pos b];rfl
 |h1 l x c=>
  have h1:=c fun y e=>h y (by simp[e])
  have f:=h x (by simp);rw[je,r2,cS];unfold over;rw[List.getElem?_zipWith,h1,ej (by omega)];simp[NH,f,b]
theorem jZ{l:List Sh}(h:∀x∈l,x.d.length=16)(b:∀x∈l,∀y∈x.d,y<256):∀y∈KT l,y<256:=by
 intro y c;obtain⟨i,f,rfl⟩:=List.getElem_of_mem c;have k:=be h;have e:=kY h i (by omega);rw[ej f]at e;rw[Option.some.inj e];refine qF (n:=8) fun x g=> ?_;obtain⟨z,j,rfl⟩:=px.1 g;exact CH _ (b z j) i
end
end Go.Proofs.YtlkpfnjdbgeifaaGreat
