import Derived.Laws.BitsAllLaws
import Derived.Laws.BitsLemmas
import Derived.RowKit
import GoSem.Core.Value
open Go.IntKind renaming u64→ed,wrap_u64→fj,i64→fo
open BitVec renaming ofInt→ej,toNat_and→hX,toNat_xor→iP
open Go.RowKit renaming wrap64→ek
open Int renaming eq_ofNat_of_zero_le→eD,toNat_natCast→hG,natCast_emod→hZ,natCast_pow→jg,bmod→jm
open Nat renaming two_pow_pos→eX,pow_add→jd,xor_zero→jt,mod_lt→jI
open Go renaming bits→gg,u64_xor_nat→jw
open Bool renaming and_eq_true→hO,true_and→js
namespace Go.Proofs.YtlkpfnjdbgeifaaGreat
open Go.RowKit
theorem yfk{A:Prop}(h:A:=by simp[IntKind.wrap,IntKind.bits,IntKind.signed];omega):A:=h
section

def Mq(m:Int):Bool:=decide (0≤m)&&decide (m<256)
def Ow(d:Int):Int:=if d<0∨8≤d then 0 else 2^d.toNat
def allI(n:Int):Int:=if n<0∨8<n then 0 else 2^n.toNat-1
def hasB(m d:Int):Bool:=Mq m&&(decide (0≤d)&&decide (d<8))&&m.toNat.testBit d.toNat
def Mz(m d:Int):Int:=if Mq m then((m.toNat |||(Ow d).toNat:Nat):Int)else 0
def KW(m d:Int):Int:=if Mq m then((m.toNat&&&(255-(Ow d).toNat):Nat):Int)else 0
def cnt(m k:Nat):Nat:=((List.range k).filter m.testBit).length
def M9(m:Nat):List Nat:=(List.range 8).filter m.testBit
def N8(m:Int):List Nat:=if Mq m then M9 m.toNat else []
def Ky(m:Int):Int:=if Mq m then(cnt m.toNat 8:Int)else 0
def atI(m i:Int):Int:=if i<0 then-1 else match(N8 m)[i.toNat]? with|some d=>(d:Int)|none=> -1
def Np(m d:Int):Int:=if hasB m d then(cnt m.toNat d.toNat:Int)else-1

theorem n4(n:Nat):((2:Int)^n).toNat=2^n:=by rfl
theorem jU{m:Int}(b:0≤m)(c:m<256):Mq m=true:=by simp[Mq,b,c]
theorem nE{m:Int}(h:m<0):Mq m=false:=by simp[Mq];omega
theorem sO{m:Int}(h:256≤m):Mq m=false:=by simp[Mq];omega

theorem Du{d:Int}(b:0≤d)(c:d<8):d=0∨d=1∨d=2∨d=3∨d=4∨d=5∨d=6∨d=7:=by omega
theorem BP{d:Int}(b:0≤d)(c:d<8):ek (2^d.toNat)=Ow d:=by
 rcases Du b c with rfl|rfl|rfl|rfl|rfl|rfl|rfl|rfl<;>decide
theorem ER(d:Int):0≤Ow d∧Ow d≤128:=by
 unfold Ow;split
 · omega
 · rename_i h
   rcases Du (d:=d) (by omega) (by omega)with rfl|rfl|rfl|rfl|rfl|rfl|rfl|rfl<;>decide
theorem DP{n:Int}(b:0≤n)(c:n≤8):ek (ek (2^n.toNat)-1)=allI n:=by
 have:n=0∨n=1∨n=2∨n=3∨n=4∨n=5∨n=6∨n=7∨n=8:=by omega
 rcases this with rfl|rfl|rfl|rfl|rfl|rfl|rfl|rfl|rfl<;>decide
theorem cj(a:Nat)(b:a<9223372036854775808):(ej 64 (a:Int)).toNat=a:=by grind
theorem dZ(a:Nat)(b:a<9223372036854775808):fo.wrap (a:Int)=(a:Int):=by
 exact yfk
theorem dP(a:Nat)(b:a<18446744073709551616):ed.wrap (a:Int)=(a:Int):=by
 exact yfk
theorem Fm(a b:Nat)(c:a<9223372036854775808)(e:b<9223372036854775808):gg .and .i64 (a:Int) (b:Int)=((a&&&b:Nat):Int):=by
 have f:a&&&b<2^63:=Nat.and_lt_two_pow _ (by omega);show fo.wrap ((ej 64 (a:Int)&&&ej 64 (b:Int)).toNat:Int)=_;rw[hX,cj a c,cj b e];exact dZ _ (by omega)
theorem Hh(a b:Nat)(c:a<9223372036854775808)(e:b<9223372036854775808):gg .or .i64 (a:Int) (b:Int)=((a |||b:Nat):Int):=by
 have f:a |||b<2^63:=Nat.or_lt_two_pow (by omega) (by omega)
 show fo.wrap ((ej 64 (a:Int) |||ej 64 (b:Int)).toNat:Int)=_;rw[BitVec.toNat_or,cj a c,cj b e];exact dZ _ (by omega)

theorem oP:∀m:Fin 256,∀d:Fin 9,gg .andNot .i64 (m.val:Int) (if d.val=8 then 0 else 2^d.val)=((m.val&&&(255-(if d.val=8 then 0 else 2^d.val)):Nat):Int):=by decide+kernel
theorem DM:∀m:Fin 256,∀d:Fin 8,(gg .and .i64 (m.val:Int) (2^d.val) !=0)=m.val.testBit d.val:=by decide+kernel
theorem DN:∀m:Fin 256,∀d:Fin 9,gg .and .i64 (m.val:Int) (2^d.val-1)=((m.val&&&(2^d.val-1):Nat):Int):=by decide+kernel
theorem FO:∀m:Fin 256,∀d:Fin 9,cnt (m.val&&&(2^d.val-1)) 8=cnt m.val d.val:=by decide+kernel
theorem gj(m k:Nat):cnt m k≤k:=by
 have:=List.length_filter_le m.testBit (List.range k);simpa[cnt]using this
theorem Ds(m k:Nat):cnt m (k+1)=cnt m k+(if m.testBit k then 1 else 0):=by
 simp only[cnt,List.range_succ,List.filter_append,List.length_append];grind
theorem xX:∀m:Fin 256,∀k:Fin 8,m.val.testBit k.val=true→(M9 m.val)[cnt m.val k.val]? =some k.val:=by decide+kernel
theorem gW(m:Nat):(M9 m).length=cnt m 8:=rfl

def Q7(m:Int):Int:=
 (fun a=>(fun b=>(fun c=>(fun d=>(fun e=>(fun f=>gg .and .i64 (ek f) 127)
  (ed.wrap (e+e/4294967296))) (ed.wrap (d+d/65536))) (ed.wrap (c+c/256)))
  (gg .and .u64 (ed.wrap (b/16+b)) 1085102592571150095))
  (ed.wrap (gg .and .u64 (a/4) 3689348814741910323+gg .and .u64 a 3689348814741910323)))
  (ed.wrap (gg .and .u64 (m/2) 6148914691236517205+gg .and .u64 m 6148914691236517205))
theorem yV:∀m:Fin 256,Q7 (m.val:Int)=(cnt m.val 8:Int):=by decide+kernel
theorem BN(m:Nat)(h:m<256):Q7 (m:Int)=(cnt m 8:Int):=yV ⟨m,h⟩

def cI(m:Int)(k:Nat):Int:=if Mq m then(cnt m.toNat k:Int)else 0
def MY(m i:Int)(k:Nat):Int:=ek (i-cI m k)
theorem yd(m:Int):cI m 0=0:=by simp[cI,cnt]
theorem nf(m:Int)(k:Nat)(f:k<8):cI m (k+1)=cI m k+(if hasB m k then 1 else 0):=by
 by_cases b:Mq m=true
 · have e:hasB m k=m.toNat.testBit k:=by
    simp only[hasB,b,hG,js];have:(decide ((0:Int)≤(k:Int))&&decide ((k:Int)<8))=true:=by simp;omega
    rw[this,js]
   simp only[cI,b,if_true,Ds,e];split<;>omega
 · have c:Mq m=false:=by simpa using b
   simp[cI,hasB,c]
theorem JM(m:Int)(k:Nat):0≤cI m k∧cI m k≤k:=by
 unfold cI;split
 · have:=gj m.toNat k;omega
 · omega
theorem sc(x:Int):ek (ek x-1)=ek (x-1):=by unfold ek;omega
theorem vn(m i:Int)(b: -9223372036854775808≤i)(c:i≤9223372036854775807):MY m i 0=i:=by
 rw[MY,yd];unfold ek;omega
theorem yE(m i:Int)(k:Nat)(b:k<8)(h:hasB m k=true):ek (MY m i k-1)=MY m i (k+1):=by
 rw[MY,MY,sc,nf m k b,h];grind
theorem vo(m i:Int)(k:Nat)(b:k<8)(h:hasB m k=false):MY m i k=MY m i (k+1):=by
 rw[MY,MY,nf m k b,h];simp
theorem sQ(m i:Int)(k:Nat)(b:k≤8)(c: -9223372036854775808≤i)(e:i≤9223372036854775807):MY m i k=0↔i=cI m k:=by
 have:=JM m k;unfold MY ek;omega
theorem Ga(m i:Int)(k:Nat)(g:k<8)(h:hasB m k=true)(j:i=cI m k):atI m i=k:=by
 have c:Mq m=true:=by
  have b:=h;simp only[hasB,hO]at b;exact b.1.1
 have b:=c;simp only[Mq,hO,decide_eq_true_eq]at b;obtain⟨M,rfl⟩:=eD b.1
 have l:M.testBit k=true:=by
  simp only[hasB,hO]at h;simpa using h.2
 have e:cI (M:Int) k=(cnt M k:Int):=by simp only[cI,c,if_true];rfl
 have f:=xX ⟨M,by omega⟩ ⟨k,g⟩ l;simp only at f;rw[atI,j,e,if_neg (by omega)];simp only[N8,c,if_true,hG,f]
theorem FY(m i:Int)(h:i<0∨cI m 8≤i):atI m i= -1:=by
 unfold atI;split
 · rfl
 · have b:(N8 m)[i.toNat]? =none:=by
    rw[List.getElem?_eq_none_iff];unfold N8;split
    · rename_i c
      simp only[cI,c,if_true]at h;rw[gW];omega
    · simp
   rw[b]
end
theorem ye2{A:Prop}(h:A:=by
 have h:=congrArg (Nat.cast (R:=Int)) this;rw[Int.natCast_mul,Int.natCast_pow 2 (64-K)]at h;exact h):A:=h
section

def QX(n:Int):Int:=if n<0 then-(2*n)-1 else 2*n
def QR(u:Int):Int:=if u%2=1 then-(u/2)-1 else u/2
def Na(n k:Int):Int:=if k<1∨64<k then 0 else jm n (2^k.toNat)
def Qq(u n:Int):Int:=u*2^(n%32).toNat%4294967296+u/2^(32-n%32).toNat

theorem uJ(x q:Int):ek (x+18446744073709551616*q)=ek x:=by unfold ek;omega
theorem bF(x:Int)(b: -9223372036854775808≤x)(c:x≤9223372036854775807):ek x=x:=by unfold ek;omega

theorem C9(n:Int)(k:Nat)(b:k<63):gg .and .i64 n ((2^k-1:Nat):Int)=n%((2^k:Nat):Int):=by
 have g:2^k<2^63:=Nat.pow_lt_pow_right (by omega) b;have c:=eX k;have f:(2^k)∣(2^64):=Nat.pow_dvd_pow 2 (by omega);show fo.wrap ((ej 64 n&&&ej 64 ((2^k-1:Nat):Int)).toNat:Int)=_;rw[hX,cj (2^k-1) (by omega),Nat.and_two_pow_sub_one_eq_mod,BitVec.toNat_ofInt]
 have e:(((n%((2^64:Nat):Int)).toNat%2^k:Nat):Int)=n%((2^k:Nat):Int):=by
  rw[hZ,Int.toNat_of_nonneg (Int.emod_nonneg _ (by decide))];exact Int.emod_emod_of_dvd n (Int.natCast_dvd_natCast.2 f)
 have h:((n%((2^64:Nat):Int)).toNat%2^k)<2^k:=jI _ c;rw[←e];exact dZ _ (by omega)
theorem JO(n:Int):gg .and .i64 n 31=n%32:=C9 n 5 (by omega)
theorem DT(n:Int)(b:0≤n)(c:n≤9223372036854775807):gg .xor .u64 (ed.wrap (ek (n*2))) (ed.wrap (n/9223372036854775808))=2*n:=by
 have e1:ed.wrap (ek (n*2))=((2*n.toNat:Nat):Int):=by rw[fj];unfold ek;omega
 have e2:ed.wrap (n/9223372036854775808)=((0:Nat):Int):=by rw[fj];omega
 rw[e1,e2,jw _ _ (by omega) (by omega),jt];omega
theorem rX(a:Nat)(b:a<18446744073709551616):a^^^18446744073709551615=18446744073709551615-a:=by
 have h:=congrArg BitVec.toNat (BitVec.xor_allOnes (x:=BitVec.ofNat 64 a));grind
theorem Aq(n:Int)(b:n<0)(c: -9223372036854775808≤n):gg .xor .u64 (ed.wrap (ek (n*2))) (ed.wrap (n/9223372036854775808))= -(2*n)-1:=by
 have e1:ed.wrap (ek (n*2))=(((18446744073709551616+2*n).toNat:Nat):Int):=by rw[fj];unfold ek;omega
 have e2:ed.wrap (n/9223372036854775808)=((18446744073709551615:Nat):Int):=by rw[fj];omega
 rw[e1,e2,jw _ _ (by omega) (by omega),rX _ (by omega)];omega
theorem As(n:Int)(b: -9223372036854775808≤n)(c:n≤9223372036854775807):gg .xor .u64 (ed.wrap (ek (n*2))) (ed.wrap (n/9223372036854775808))=QX n:=by
 unfold QX;split
 · exact Aq n (by omega) b
 · exact DT n (by omega) c
theorem sD(u:Int)(b:0≤u)(c:u<18446744073709551616):gg .and .u64 u 1=u%2:=by
 obtain⟨a,rfl⟩:=eD b;have:=u64_and_nat a 1 (by omega) (by omega);simp_all
theorem rq(a:Nat)(b:a<9223372036854775808):gg .xor .i64 (a:Int) (-1)= -(a:Int)-1:=by
 show fo.wrap ((ej 64 (a:Int)^^^ej 64 (-1)).toNat:Int)=_;have e:(ej 64 (-1)).toNat=18446744073709551615:=rfl;rw[iP,cj a b,e,rX a (by omega)];exact yfk
theorem rp(a:Nat)(b:a<9223372036854775808):gg .xor .i64 (a:Int) 0=(a:Int):=by
 show fo.wrap ((ej 64 (a:Int)^^^ej 64 0).toNat:Int)=_;rw[iP,cj a b];have e:(ej 64 0).toNat=0:=rfl;rw[e,jt];exact dZ a b
theorem Aw(u:Int)(c:0≤u)(e:u<18446744073709551616):gg .xor .i64 (u/2) (ek (-ek (gg .and .u64 u 1)))=QR u:=by
 rw[sD u c e];obtain⟨a,b⟩:=eD (show 0≤u/2 by omega);unfold QR;split
 · rename_i h
   rw[h,b];have:=rq a (by omega);rw[show ek (-ek 1)= -1 from by decide];omega
 · rw[show u%2=0 by omega,b]
   have:=rp a (by omega);rw[show ek (-ek 0)=0 from by decide];omega

theorem tC(n k:Int)(q:1≤k)(r:k≤64):ek (n*2^(64-k).toNat)/2^(64-k).toNat=Na n k:=by
 obtain⟨K,rfl⟩:=eD (show 0≤k by omega);have e:(64-(K:Int)).toNat=64-K:=by omega
 have g:¬((K:Int)<1∨64<(K:Int)):=by omega
 rw[e,Na,if_neg g,hG];have b:(0:Int)<2^(64-K):=Int.pow_pos (by decide);have i:=Int.bmod_add_bdiv n (2^K)
 have hj:((2^K:Nat):Int)*2^(64-K)=18446744073709551616:=by
  have:(2^K*2^(64-K):Nat)=18446744073709551616:=by rw[←jd,show K+(64-K)=64 by omega]
  exact ye2
 have c:(2:Nat)^K=2*2^(K-1):=by rw[←Nat.pow_succ'];congr 1;omega
 have t:=eX (K-1)
 have j: -((2^(K-1):Nat):Int)≤jm n (2^K):=by
  have:=Int.le_bmod (x:=n) (m:=2^K) (by omega);rw[c]at this⊢;omega
 have l:jm n (2^K)<((2^(K-1):Nat):Int):=by
  have:=Int.bmod_lt (x:=n) (m:=2^K) (by omega);rw[c]at this⊢;omega
 have f:((2^(K-1):Nat):Int)*2^(64-K)=9223372036854775808:=by
  have:(2^(K-1)*2^(64-K):Nat)=9223372036854775808:=by rw[←jd,show K-1+(64-K)=63 by omega]
  exact ye2
 generalize u:jm n (2^K)=m at*
 have o:n*2^(64-K)=m*2^(64-K)+18446744073709551616*Int.bdiv n (2^K):=by
  rw[←hj];conv=>lhs;rw[←i]
  rw[Int.add_mul,Int.mul_right_comm]
 rw[o,uJ]
 have p: -9223372036854775808≤m*2^(64-K):=by
  have:=Int.mul_le_mul_of_nonneg_right j (Int.le_of_lt b);rw[Int.neg_mul,f]at this;exact this
 have w:m*2^(64-K)<9223372036854775808:=by
  have:=Int.mul_lt_mul_of_pos_right l b;rw[f]at this;exact this
 rw[bF _ p (by omega),Int.mul_ediv_cancel _ (by omega)]

theorem Ei(a k:Nat)(c:a<4294967296)(h:k≤31):gg .or .u32 ((a:Int)*2^k%4294967296) ((a:Int)/2^(32-k))=(a:Int)*2^k%4294967296+(a:Int)/2^(32-k):=by
 have e1:(a:Int)*2^k%4294967296=((a*2^k%4294967296:Nat):Int):=by rw[hZ,Int.natCast_mul,jg];rfl
 have e2:(a:Int)/2^(32-k)=((a/2^(32-k):Nat):Int):=by rw[Int.natCast_ediv,jg];rfl
 have i:=eX k;have b:2^k*2^(32-k)=4294967296:=by rw[←jd,show k+(32-k)=32 by omega]
 have e:a/2^(32-k)<2^k:=by
  rw[Nat.div_lt_iff_lt_mul (eX _),b];exact c
 have f:a*2^k%4294967296%2^k=0:=by
  rw[←b,Nat.mod_mul_right_mod,Nat.mul_mod_left]
 have j:2^k≤4294967296:=by rw[←b];exact Nat.le_mul_of_pos_right _ (eX _)
 have g:a*2^k%4294967296<4294967296:=jI _ (by decide);rw[e1,e2,u32_or_nat _ _ g (by omega),nat_join k _ _ f e,Int.natCast_add]
theorem yq(u n:Int)(b:0≤u)(c:u<4294967296):gg .or .u32 (u*2^(n%32).toNat%4294967296) (u/2^(32-n%32).toNat)=Qq u n:=by
 obtain⟨a,rfl⟩:=eD b;have e:(32-n%32).toNat=32-(n%32).toNat:=by omega
 rw[Qq,e];exact Ei a _ (by omega) (by omega)

end
end Go.Proofs.YtlkpfnjdbgeifaaGreat
