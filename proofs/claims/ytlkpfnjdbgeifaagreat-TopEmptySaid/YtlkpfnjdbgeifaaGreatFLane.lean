import Derived.BigQuiet
import Derived.Deep.QuietTactic
import Derived.Test.YtlkpfnjdbgeifaaGreatRows
import Derived.WalkKit
import Derived.WalkLawsBesides
import Derived.Test.YtlkpfnjdbgeifaaGreatFR
import Derived.Test.YtlkpfnjdbgeifaaGreatFPlainLane
open Int renaming eq_ofNat_of_zero_le→ed,toNat_natCast→ek
open Bool renaming and_eq_true→ej
open Go renaming World→eD,Calls→eX
namespace Go.Proofs.YtlkpfnjdbgeifaaGreat
open Go.Proofs.Tryz
open Go.RowKit
theorem ybb{A:Prop}(h:A:=by
 go_wp2_with (first|(go_at_call 165;refine(qR _ _).mono ?_;rw[H2.out];rintro e w' ⟨rfl,rfl⟩)|(go_at_call 166;refine(mM _ _).mono ?_;rintro e w' ⟨rfl,rfl⟩));go_ret;exact⟨by rw[←H.out];rfl,rfl⟩):A:=h
theorem ybh{A:Prop}(h:A:=by
 go_wp2_with (go_at_call 165;refine(qR _ _).mono ?_;rw[H2.out];rintro e w' ⟨rfl,rfl⟩);go_ret;exact⟨by rw[H.out];rfl,rfl⟩):A:=h
theorem yco{A:Prop}(h:A:=by
 go_wp2_with (go_at_call 105;refine(dC _ _ _).mono ?_;rw[H.out];rintro e w' ⟨rfl,rfl⟩);go_round
 case rel=>exact⟨k+1,by omega,by go_num,by rw[R'.out],I⟩
 case measure=>simp[intOf];omega):A:=h
theorem I4{A:Prop}(h:A:=by
 go_wp2
 go_ret;exact⟨by rw[←H.out];rfl,rfl⟩):A:=h
section

theorem qR(m:Int)(w:eD):eX prog 165 #[m] w fun e c=>e=.returned (.bool (Mq m))∧w=c:=by
 by_cases h:0≤m
 · by_cases b:m<256
   · go_enter func165, ntmps165
     go_wp2
     go_ret;exact⟨by simp[Mq,h,b],rfl⟩
   · go_enter func165, ntmps165
     go_wp2
     go_ret;exact⟨by simp[Mq,b],rfl⟩
 · go_enter func165, ntmps165
   go_wp2
   go_ret;exact⟨by rw[nE (by omega)];rfl,rfl⟩

theorem mM(d:Int)(w:eD):eX prog 166 #[d] w fun e b=>e=.returned (.int .i64 (Ow d))∧w=b:=by
 by_cases h:d<0
 · go_enter func166, ntmps166
   go_wp2
   go_ret;exact⟨by simp[Ow,h],rfl⟩
 · by_cases c:8≤d
   · go_enter func166, ntmps166
     go_wp2
     go_ret;exact⟨by simp[Ow,c],rfl⟩
   · go_enter func166, ntmps166
     go_wp2
     go_ret;exact⟨by rw[←BP (by omega) (by omega)];rfl,rfl⟩

theorem ng(n:Int)(w:eD):eX prog 191 #[n] w fun e b=>e=.returned (.int .i64 (allI n))∧w=b:=by
 by_cases h:n<0
 · go_enter func191, ntmps191
   go_wp2
   go_ret;exact⟨by simp[allI,h],rfl⟩
 · by_cases c:8<n
   · go_enter func191, ntmps191
     go_wp2
     go_ret;exact⟨by simp[allI,c],rfl⟩
   · go_enter func191, ntmps191
     go_wp2
     go_ret;exact⟨by rw[←DP (by omega) (by omega)];rfl,rfl⟩

theorem dC(m d:Int)(w:eD):eX prog 105 #[m,d] w fun e w'=>e=.returned (.bool (hasB m d))∧w=w':=by
 cases b:Mq m with
 |false=>
  have c:hasB m d=false:=by simp[hasB,b]
  have H:=qZ c;have H2:=qZ b;clear c b;go_enter func105, ntmps105;exact ybh
 |true=>
  have c:(bits .and .i64 m (Ow d) !=0)=hasB m d:=by
   simp only[Mq,ej,decide_eq_true_eq]at b;obtain⟨M,rfl⟩:=ed b.1;by_cases f:d<0∨8≤d
   · have e:(decide (0≤d)&&decide (d<8))=false:=by simp;omega
     have e2:=Fm M 0 (by omega) (by omega);simp only[hasB,e,Ow,if_pos f,Bool.and_false,Bool.false_and];simp only[Int.natCast_zero]at e2;rw[e2];simp
   · obtain⟨D,rfl⟩:=ed (show 0≤d by omega)
     have e2:=DM ⟨M,by omega⟩ ⟨D,by omega⟩;simp only[Ow,if_neg f,ek];rw[e2,hasB,jU (by omega) (by omega)];simp;omega
  have H:=qZ c;have H2:=qZ b;clear c b;go_enter func105, ntmps105;exact ybb

theorem g8(m d:Int)(w:eD):eX prog 126 #[m,d] w fun e w'=>e=.returned (.int .i64 (Mz m d))∧w=w':=by
 cases b:Mq m with
 |false=>
  have c:Mz m d=0:=by simp[Mz,b]
  have H:=qZ c;have H2:=qZ b;clear c b;go_enter func126, ntmps126;exact ybh
 |true=>
  have c:bits .or .i64 m (Ow d)=Mz m d:=by
   have h:=b;simp only[Mq,ej,decide_eq_true_eq]at h;obtain⟨M,rfl⟩:=ed h.1;have f:=ER d;obtain⟨D,g⟩:=ed f.1;simp only[Mz,b,if_true];rw[g,Hh M D (by omega) (by omega)];rfl
  have H:=qZ c;have H2:=qZ b;clear c b;go_enter func126, ntmps126;exact ybb

theorem gz(m d:Int)(w:eD):eX prog 139 #[m,d] w fun e w'=>e=.returned (.int .i64 (KW m d))∧w=w':=by
 cases b:Mq m with
 |false=>
  have c:KW m d=0:=by simp[KW,b]
  have H:=qZ c;have H2:=qZ b;clear c b;go_enter func139, ntmps139;exact ybh
 |true=>
  have c:bits .andNot .i64 m (Ow d)=KW m d:=by
   have h:=b;simp only[Mq,ej,decide_eq_true_eq]at h;obtain⟨M,rfl⟩:=ed h.1;simp only[KW,b,if_true];by_cases f:d<0∨8≤d
   · have e2:=oP ⟨M,by omega⟩ ⟨8,by omega⟩
     simp only[if_true]at e2;simp only[Ow,if_pos f];exact e2
   · obtain⟨D,rfl⟩:=ed (show 0≤d by omega)
     have e2:=oP ⟨M,by omega⟩ ⟨D,by omega⟩;have g:¬D=8:=by omega
     simp only[if_neg g]at e2;simp only[Ow,if_neg f,ek,n4];exact e2
  have H:=qZ c;have H2:=qZ b;clear c b;go_enter func139, ntmps139;exact ybb

theorem BM(m:Nat)(b:m<256)(w:eD):eX prog 247 #[.int .u64 (m:Int)] w fun e c=>e=.returned (.int .i64 (cnt m 8))∧w=c:=by
 have H:=qZ (BN m b);go_enter func247, ntmps247;exact I4
theorem yU(m:Nat)(c:m<256)(w:eD):eX prog 227 #[.int .u64 (m:Int)] w fun e b=>e=.returned (.int .i64 (cnt m 8))∧w=b:=by
 go_enter func227, ntmps227;go_wp2_with (go_at_call 247;refine(BM _ (by omega) _).mono ?_;rintro e b ⟨rfl,rfl⟩);go_ret;exact⟨rfl,rfl⟩
theorem cE(m:Int)(w:eD):eX prog 182 #[m] w fun e w'=>e=.returned (.int .i64 (Ky m))∧w=w':=by
 cases b:Mq m with
 |false=>
  have c:Ky m=0:=by simp[Ky,b]
  have H:=qZ c;have H2:=qZ b;clear c b;go_enter func182, ntmps182;exact ybh
 |true=>
  have h:=b;simp only[Mq,ej,decide_eq_true_eq]at h;obtain⟨M,rfl⟩:=ed h.1;have f:M<256:=by omega
  have c:Ky (M:Int)=(cnt M 8:Int):=by simp only[Ky,b,if_true];rfl
  have H:=qZ c;have H2:=qZ b;have g:=dP M (by omega);clear c b h;go_enter func182, ntmps182;go_wp2_with (first|(go_at_call 165;refine(qR _ _).mono ?_;rw[H2.out];rintro e w' ⟨rfl,rfl⟩)|(go_at_call 227;refine(yU _ (by omega) _).mono ?_;rintro e w' ⟨rfl,rfl⟩));go_ret;exact⟨by rw[H.out];rfl,rfl⟩
theorem tY{m d:Int}:hasB m d=true↔∃M D:Nat,m=M∧d=D∧M<256∧D<8∧M.testBit D=true:=by
 simp only[hasB,Mq,ej,decide_eq_true_eq];constructor
 · rintro ⟨⟨⟨c,e⟩,b,g⟩,f⟩
   exact⟨m.toNat,d.toNat,by omega,by omega,by omega,by omega,f⟩
 · rintro ⟨M,D,rfl,rfl,c,e,b⟩
   exact⟨⟨⟨by omega,by omega⟩,by omega,by omega⟩,by simpa using b⟩
theorem sK(m d:Int)(w:eD):eX prog 304 #[m,d] w fun e c=>e=.returned (.int .i64 (Np m d))∧w=c:=by
 cases b:hasB m d with
 |false=>
  have f:Np m d= -1:=by simp[Np,b]
  have H:=qZ f;have g:=qZ b;clear f b;go_enter func304, ntmps304;go_wp2_with (go_at_call 105;refine(dC _ _ _).mono ?_;rw[g.out];rintro e c ⟨rfl,rfl⟩);go_ret;exact⟨by rw[H.out];rfl,rfl⟩
 |true=>
  obtain⟨M,D,rfl,rfl,h,p,k⟩:=tY.1 b
  have i:bits .and .i64 (M:Int) (allI D)=((M&&&(2^D-1):Nat):Int):=by
   have:=DN ⟨M,h⟩ ⟨D,by omega⟩;simp only[allI];rw[if_neg (by omega)];exact this
  have l:M&&&(2^D-1)<256:=Nat.lt_of_le_of_lt Nat.and_le_left h
  have j:Ky ((M&&&(2^D-1):Nat):Int)=(cnt M D:Int):=by
   rw[Ky,jU (by omega) (by omega)];simp only[if_true,ek];exact congrArg _ (FO ⟨M,h⟩ ⟨D,by omega⟩)
  have f:Np (M:Int) (D:Int)=(cnt M D:Int):=by simp only[Np,b,if_true];rfl
  have H:=qZ f;have g:=qZ b;have n:=qZ i;have o:=qZ j;clear f b i j k l;go_enter func304, ntmps304;go_wp2_with (first|(go_at_call 105;refine(dC _ _ _).mono ?_;rw[g.out];rintro e c ⟨rfl,rfl⟩)|(go_at_call 191;refine(ng _ _).mono ?_;rintro e c ⟨rfl,rfl⟩)|(go_at_call 182;refine(cE _ _).mono ?_;rw[n.out,o.out];rintro e c ⟨rfl,rfl⟩));go_ret;exact⟨by rw[H.out];rfl,rfl⟩


def O0(m i:Int)(k:Nat):Prop:=i<0∨cI m k≤i
theorem wV{m i:Int}{k:Nat}(b:k<8)(h:hasB m k=false)(c:O0 m i k):O0 m i (k+1):=by
 unfold O0 at*;rw[nf m k b,h];simpa using c
theorem Ai{m i:Int}{k:Nat}(b:k<8)(c: -9223372036854775808≤i)(e:i≤9223372036854775807)(h:hasB m k=true)(f:MY m i k≠0)(g:O0 m i k):O0 m i (k+1):=by
 have:=mt (sQ m i k (by omega) c e).2 f;unfold O0 at*;rw[nf m k b,h];simp;omega
theorem wU(m i:Int)(w:eD)(j: -9223372036854775808≤i)(l:i≤9223372036854775807):eX prog 138 #[m,i] w fun e w'=>e=.returned (.int .i64 (atI m i))∧w=w':=by
 go_enter func138, ntmps138;go_wp2
 go_loop [1,5,6] (fun a _ b=>∃k:Nat,k≤8∧b=.int .i64 k∧a=.int .i64 (MY m i k)∧O0 m i k) (fun _ _ b=>8-(intOf b).toNat)
 case atStart=>exact⟨0,by omega,rfl,by rw[vn m i j l],by unfold O0;rw[yd];omega⟩
 case round=>
  obtain⟨k,p,rfl,rfl,hinv⟩:=hrel;by_cases g:k<8
  · cases c:hasB m k with
    |false=>
     have R:=vo m i k g c;have I:=wV g c hinv;have H:=qZ c;have R':=qZ R;clear c R hinv;exact yco
    |true=>
     have R:=yE m i k g c;have H:=qZ c;have R':=qZ R;clear R;by_cases f:MY m i k=0
     · have E:=Ga m i k g c ((sQ m i k (by omega) j l).1 f)
       have n:(MY m i k==0)=true:=by simpa using f
       have o:=qZ E;clear c hinv f E;go_wp2_with (go_at_call 105;refine(dC _ _ _).mono ?_;rw[H.out];rintro e w' ⟨rfl,rfl⟩);go_ret;exact⟨by rw[o.out];rfl,rfl⟩
     · have I:=Ai g j l c f hinv
       have n:(MY m i k==0)=false:=by simpa using f
       clear c hinv f;exact yco
  · obtain rfl:k=8:=by omega
    have E:=qZ (FY m i hinv);clear hinv;go_wp2
    go_ret;exact⟨by rw[E.out];rfl,rfl⟩
end
end Go.Proofs.YtlkpfnjdbgeifaaGreat
