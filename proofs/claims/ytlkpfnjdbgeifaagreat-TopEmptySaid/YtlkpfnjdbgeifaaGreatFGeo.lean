import Derived.IntWalk
import Derived.Test.YtlkpfnjdbgeifaaGreatFOut
set_option maxHeartbeats 1000000
open And renaming intro→ed
open Nat renaming le_refl→ej
open Int renaming emod_lt_of_pos→ek,tmod_eq_emod_of_nonneg→eD,mul_le_mul→fj,emod_nonneg→gg,lt_tmod_of_pos→hO
open Go.RowKit.Below renaming refl→eX
open Go renaming World→fo,Calls→hG,heap_alloc_new→hX
namespace Go.Proofs.YtlkpfnjdbgeifaaGreat
open Go.Proofs.Tryz
open Go.Proofs.Tryz
open Go.RowKit
theorem nj{A:Prop}(h:A:=by
 go_wp2_with fail;go_ret;exact⟨rfl,rfl⟩):A:=h
theorem I5{A:Prop}(h:A:=by
 go_wp2_with fail;go_ret;exact⟨rfl,_,rfl⟩):A:=h
section
theorem bH(m b r:Int)(w:fo):hG prog 137 #[m,b,r] w fun e g=>e=.returned (.int .i64 (Ka m b r))∧∃k,g=w.drewN k:=by
 have B:=aI m;by_cases h:Ky m<2∨b<0∨r<0
 · have H:=qZ (show Ka m b r= -1 by unfold Ka;rw[if_pos h])
   rw[H.out];clear H;rcases h with h|h|h
   all_goals
    generalize c:Ky m=q at*;have i:=qZ c;clear c;go_enter func137, ntmps137;go_wp2_with fail;refine(cE _ _).mono ?_;rw[i.out];rintro e g ⟨rfl,rfl⟩;go_wp2_with fail;all_goals go_ret
    all_goals exact⟨rfl,0,rfl⟩
 · have H:=qZ (show Ka m b r=atI m ((b%Ky m+r%Ky m)%Ky m) by unfold Ka;rw[if_neg h])
   rw[H.out];clear H;generalize c:Ky m=q at*;have i:=qZ c;clear c;have C:¬q<2:=by omega
   have D:¬b<0:=by omega
   have E:¬r<0:=by omega
   have G:0≤b:=by omega
   have I:0≤r:=by omega
   have j:0<q:=by omega
   have J:¬q=0:=by omega
   have K:(q==0)=false:=by simp;omega
   have n:=gg b (show q≠0 by omega);have o:=ek b j;have p:=gg r (show q≠0 by omega);have t:=ek r j
   have f:(wrap64 (b%q+r%q)).tmod q=(b%q+r%q)%q:=by
    rw[bF _ (by omega) (by omega),eD (by omega)]
   have z0:=gg (b%q+r%q) (show q≠0 by omega);have u:=ek (b%q+r%q) j;have X1: -9223372036854775808≤(wrap64 (b%q+r%q)).tmod q:=by rw[f];omega
   have X2:(wrap64 (b%q+r%q)).tmod q≤9223372036854775807:=by rw[f];omega
   have z:=qZ (show Ending.returned (.int .i64 (atI m ((wrap64 (b%q+r%q)).tmod q)))=Ending.returned (.int .i64 (atI m ((b%q+r%q)%q))) by rw[f]);have l:=qZ (ed X1 X2);clear f X1 X2 n o p t z0 u;clear h;go_enter func137, ntmps137;go_wp2_with fail;refine(cE _ _).mono ?_;rw[i.out];rintro e g ⟨rfl,rfl⟩;go_wp2_with fail;go_quiet ((go_at_call 138;exact Calls.quiet_of_same ((wU m _ _ l.out.1 l.out.2).mono fun _ _ h=>⟨h.1.trans z.out,h.2.symm⟩)))
   exact I5
theorem bA(m:Int)(w:fo):hG prog 115 #[m] w fun e b=>e=.returned (.int .i64 (JV m))∧w=b:=by
 have g:=aI m;unfold JV;generalize c:Ky m=q at*;have f:=qZ c;clear c;by_cases h:q<2
 · rw[if_pos h]
   go_enter func115, ntmps115;go_wp2_with fail;refine(cE _ _).mono ?_;rw[f.out];rintro e b ⟨rfl,rfl⟩;exact nj
 · rw[if_neg h]
   go_enter func115, ntmps115;go_wp2_with fail;refine(cE _ _).mono ?_;rw[f.out];rintro e b ⟨rfl,rfl⟩;exact nj
theorem ge(m b r s:Int)(w:fo)(f: -9223372036854775808≤s)(g:s≤9223372036854775807):hG prog 85 #[m,b,r,s] w fun e c=>e=.returned (.int .i64 (Le m b r s))∧∃k,c=w.drewN k:=by
 unfold Le;by_cases h:Ka m b r<0
 · rw[if_pos h]
   go_enter func85, ntmps85;go_wp2_with fail;refine(bH _ _ _ _).mono ?_;rintro e c ⟨rfl,k,rfl⟩;exact I5
 · rw[if_neg h]
   go_enter func85, ntmps85;go_wp2_with fail;refine(bH _ _ _ _).mono ?_;rintro e c ⟨rfl,k,rfl⟩;go_wp2_with fail;refine(gz _ _ _).mono ?_;rintro e c ⟨rfl,rfl⟩;go_wp2_with fail;refine(wU _ _ _ f g).mono ?_;rintro e c ⟨rfl,rfl⟩;exact I5
theorem sM(m b r d:Int)(w:fo):hG prog 300 #[m,b,r,d] w fun e c=>e=.returned (.int .i64 (OB m b r d))∧∃k,c=w.drewN k:=by
 unfold OB;by_cases h:Ka m b r<0
 · rw[if_pos h]
   go_enter func300, ntmps300;go_wp2_with fail;refine(bH _ _ _ _).mono ?_;rintro e c ⟨rfl,k,rfl⟩;exact I5
 · rw[if_neg h]
   go_enter func300, ntmps300;go_wp2_with fail;refine(bH _ _ _ _).mono ?_;rintro e c ⟨rfl,k,rfl⟩;go_wp2_with fail;refine(gz _ _ _).mono ?_;rintro e c ⟨rfl,rfl⟩;go_wp2_with fail;refine(sK _ _ _).mono ?_;rintro e c ⟨rfl,rfl⟩;exact I5
end
theorem yed{A:Prop}(h:A:=by
 rw[yk.2 (by omega)];go_enter func94, ntmps94;go_wp2
 go_ret;exact⟨by simp,rfl⟩):A:=h
theorem yep{A:Prop}(h:A:=by
 go_wp2_with fail;go_ret;exact⟨rfl,((Below.refl _ _).alloc (Nat.le_refl _) _).alloc (by simp) _⟩):A:=h
theorem yfc{A:Prop}(h:A:=by
 go_wp2_with fail;go_ret;exact⟨rfl,(Below.refl _ _).alloc (Nat.le_refl _) _⟩):A:=h
section
def wiB(n a b:Int):Bool:=decide (a≤n)&&decide (n≤b)
def Oc(d b p:Int):Bool:=wiB d 3 6&&(wiB b 8 16&&wiB p 2 8)
theorem ss{n a b:Int}:wiB n a b=true↔a≤n∧n≤b:=by simp[wiB]
theorem yk{n a b:Int}:wiB n a b=false↔n<a∨b<n:=by simp[wiB];omega
theorem bn(n a b:Int)(w:fo):hG prog 94 #[n,a,b] w fun e c=>e=.returned (.bool (wiB n a b))∧w=c:=by
 by_cases h:a≤n
 · by_cases f:n≤b
   · rw[ss.2 ⟨h,f⟩]
     go_enter func94, ntmps94;exact ydv
   · exact yed
 · exact yed
theorem dW(d b p:Int)(w:fo):hG prog 57 #[.agg #[d,b,p]] w fun e c=>e=.returned (.bool (Oc d b p))∧Below w.heap.size w c:=by
 unfold Oc;cases f:wiB d 3 6
 · have g:=qZ f
   clear f;go_enter func57, ntmps57;go_wp2_with fail;refine(bn _ _ _ _).mono ?_;rw[g.out];rintro e c ⟨rfl,rfl⟩;exact yfc
 · cases i:wiB b 8 16
   · have g:=qZ f
     have j:=qZ i;clear f i;go_enter func57, ntmps57;go_wp2_with fail;refine(bn _ _ _ _).mono ?_;rw[g.out];rintro e c ⟨rfl,rfl⟩;go_wp2_with fail;refine(bn _ _ _ _).mono ?_;rw[j.out];rintro e c ⟨rfl,rfl⟩;exact yfc
   · have g:=qZ f
     have j:=qZ i;clear f i;go_enter func57, ntmps57;go_wp2_with fail;refine(bn _ _ _ _).mono ?_;rw[g.out];rintro e c ⟨rfl,rfl⟩;go_wp2_with fail;refine(bn _ _ _ _).mono ?_;rw[j.out];rintro e c ⟨rfl,rfl⟩;go_wp2_with fail;refine(bn _ _ _ _).mono ?_;rintro e c ⟨rfl,rfl⟩;go_wp2_with fail;go_ret;exact⟨by simp,(eX _ _).alloc (ej _) _⟩

def inG(D B P d b p:Int):Bool:=wiB d 0 (D-1)&&(wiB b 0 (B-1)&&wiB p 0 (P-1))
theorem jA(D B P d b p:Int)(w:fo)(k:0≤D∧D≤4611686018427387904)(l:0≤B∧B≤4611686018427387904)(m:0≤P∧P≤4611686018427387904):
 hG prog 80 #[.agg #[D,B,P],.agg #[d,b,p]] w fun e c=>e=.returned (.bool (inG D B P d b p))∧Below w.heap.size w c:=by
 obtain⟨D1,D2⟩:=k;obtain⟨B1,n⟩:=l;obtain⟨P1,P2⟩:=m;unfold inG;cases f:wiB d 0 (D-1)
 · have g:=qZ f
   clear f;go_enter func80, ntmps80;go_wp2_with fail;refine(bn _ _ _ _).mono ?_;rw[g.out];rintro e c ⟨rfl,rfl⟩;exact yep
 · cases i:wiB b 0 (B-1)
   · have g:=qZ f
     have j:=qZ i;clear f i;go_enter func80, ntmps80;go_wp2_with fail;refine(bn _ _ _ _).mono ?_;rw[g.out];rintro e c ⟨rfl,rfl⟩;go_wp2_with fail;refine(bn _ _ _ _).mono ?_;rw[j.out];rintro e c ⟨rfl,rfl⟩;exact yep
   · have g:=qZ f
     have j:=qZ i;clear f i;go_enter func80, ntmps80;go_wp2_with fail;refine(bn _ _ _ _).mono ?_;rw[g.out];rintro e c ⟨rfl,rfl⟩;go_wp2_with fail;refine(bn _ _ _ _).mono ?_;rw[j.out];rintro e c ⟨rfl,rfl⟩;go_wp2_with fail;refine(bn _ _ _ _).mono ?_;rintro e c ⟨rfl,rfl⟩;go_wp2_with fail;go_ret;exact⟨by simp,((eX _ _).alloc (ej _) _).alloc (by simp) _⟩
def O8(d b p:Int):Int:=if Oc d b p then((b-5)*p*(d-2)+1)/2 else 0
theorem xF{d b p:Int}(h:Oc d b p=true):3≤d∧d≤6∧8≤b∧b≤16∧2≤p∧p≤8:=by
 unfold Oc at h;simp only[Bool.and_eq_true,ss]at h;omega
theorem Co{d b p:Int}(h:Oc d b p=true):6≤(b-5)*p∧(b-5)*p≤88∧6≤(b-5)*p*(d-2)∧(b-5)*p*(d-2)≤352:=by
 obtain⟨f,g,i,j,c,e⟩:=xF h;have a1:=fj (show(3:Int)≤b-5 by omega) c (by omega) (by omega);have a2:=fj (show b-5≤(11:Int) by omega) e (by omega) (by omega);have k:=fj (show(6:Int)≤(b-5)*p by omega) (show(1:Int)≤d-2 by omega) (by omega) (by omega);have a4:=fj (show(b-5)*p≤(88:Int) by omega) (show d-2≤(4:Int) by omega) (by omega) (by omega);omega
theorem gP(d b p:Int)(w:fo):hG prog 47 #[.agg #[d,b,p]] w fun e k=>e=.returned (.int .i64 (O8 d b p))∧Below w.heap.size w k:=by
 unfold O8;cases h:Oc d b p
 · have H:=qZ h
   clear h;go_enter func47, ntmps47;go_wp2_with fail;refine(dW _ _ _ _).mono ?_;rw[H.out];rintro e j ⟨rfl,c⟩;have g:=((eX _ w).alloc (ej _) (.cells #[d,b,p] 23)).trans (c.mono (by simp));go_wp2_with fail;go_ret;exact⟨rfl,g⟩
 · obtain⟨l,m,n,o⟩:=Co h
   obtain⟨q,r,t,u,z,A⟩:=xF h;have H:=qZ h;clear h;go_enter func47, ntmps47;go_wp2_with fail;refine(dW _ _ _ _).mono ?_;rw[H.out];rintro e j ⟨rfl,c⟩;have g:=((eX _ w).alloc (ej _) (.cells #[d,b,p] 23)).trans (c.mono (by simp))
   have f:∀i,j.cell? ⟨w.heap.size,i,none⟩= #[.int .i64 d,.int .i64 b,.int .i64 p][i]? :=by
    intro i;rw[c.cell (p:=⟨w.heap.size,i,none⟩) (by simp),ae (hX w _)]
   have c0:=f 0;have c1:=f 1;have c2:=f 2;simp at c0 c1 c2;clear f c;go_wp2_with fail;go_ret;exact⟨rfl,g⟩
end
section
theorem yx(x n:Int)(h:0<n):(x.tmod n+n).tmod n=x%n:=by
 have c:=hO x h;rw[eD (a:=x.tmod n+n) (by omega),Int.add_emod_right];have b:x=n*(x.tdiv n)+x.tmod n:=(Int.mul_tdiv_add_tmod x n).symm;have:x%n=(n*(x.tdiv n)+x.tmod n)%n:=by rw[←b]
 rw[this,Int.mul_add_emod_self_left]
theorem ld(x n:Int)(h:0<n)(b:n≤1000):(wrap64 (x.tmod n+n)).tmod n=x%n:=by
 have c:=hO x h;have b:=Int.tmod_lt_of_pos x h;rw[bF _ (by omega) (by omega),yx x n h]
theorem rz(a b c:Int)(w:fo):hG prog 30 #[.int .i64 a,.int .i64 b,.int .i64 c] w fun e i=>e=.returned (.agg #[.int .i64 (3+a%4),.int .i64 (8+b%9),.int .i64 (2+c%7)])∧Below w.heap.size w i:=by
 have ea:=ld a 4 (by decide) (by decide);have eb:=ld b 9 (by decide) (by decide);have f:=ld c 7 (by decide) (by decide);have g:wrap64 (3+a%4)=3+a%4:=bF _ (by omega) (by omega);have h:wrap64 (8+b%9)=8+b%9:=bF _ (by omega) (by omega);have c0:wrap64 (2+c%7)=2+c%7:=bF _ (by omega) (by omega);have H:=qZ (ed ea (ed eb (ed f (ed g (ed h c0)))));clear ea eb f g h c0;go_enter func30, ntmps30;go_wp2_with fail;exact bodyPost_ret (v:=.agg #[.int .i64 (3+a%4),.int .i64 (8+b%9),.int .i64 (2+c%7)]) (by simp[results, Tryz.results30,go_sem,H.out.1,H.out.2.1,H.out.2.2.1,H.out.2.2.2.1,H.out.2.2.2.2.1,H.out.2.2.2.2.2]) rfl ⟨rfl,(eX _ _).alloc (ej _) _⟩
theorem wT(w:fo):hG prog 299 #[] w fun e b=>e=.returned (.bool true)∧Below w.heap.size w b:=by
 go_enter func299, ntmps299;go_wp2_with fail;refine(Ae _).mono ?_;rintro e f ⟨rfl,c⟩;go_wp2_with fail;go_ret;exact⟨rfl,c⟩
theorem pt(w:fo):hG prog 288 #[] w fun e f=>e=.returned (.bool true)∧Below w.heap.size w f:=by
 have G:Oc 3 8 2=true:=by decide
 have H:Oc 0 0 0=false:=by decide
 have I:inG 3 8 2 2 7 1=true:=by decide
 have J:inG 3 8 2 3 0 0=false:=by decide
 have K:Ka 7 1 1=2:=by decide
 have L:JV 7=2:=by decide
 have M:Le 7 0 0 0=1:=by decide
 have N:OB 7 0 0 2=1:=by decide
 have O:OB 7 0 0 0= -1:=by decide
 have P:O8 3 8 2=3:=by decide
 have c:=qZ (ed G (ed H (ed I (ed J (ed K (ed L (ed M (ed N (ed O P)))))))));clear G H I J K L M N O P;go_enter func288, ntmps288;go_wp2_with fail;refine(wT _).mono ?_;rintro e k ⟨rfl,p⟩;have q:=((eX _ w).alloc (ej _) (.cells #[.int .i64 3,.int .i64 8,.int .i64 2] 23)).trans (p.mono (by simp));have B1:k.heap[w.heap.size]? =some (.cells #[.int .i64 3,.int .i64 8,.int .i64 2] 23 (0,0)):=aa (hX w _) p;clear p;have Z:k.cell? ⟨w.heap.size,0,none⟩=some (.int .i64 3):=by rw[ae B1];rfl
 have c11:k.cell? ⟨w.heap.size,1,none⟩=some (.int .i64 8):=by rw[ae B1];rfl
 have ab:k.cell? ⟨w.heap.size,2,none⟩=some (.int .i64 2):=by rw[ae B1];rfl
 go_wp2_with fail;refine(dW _ _ _ _).mono ?_;rw[c.out.1];rintro e w2 ⟨rfl,b⟩;have Q:=aa B1 b;have r:=q.trans (b.mono q.size);clear b B1 q;clear Z c11 ab;go_wp2_with fail;refine(dW _ _ _ _).mono ?_;rw[c.out.2.1];rintro e t ⟨rfl,b⟩;have g:=aa Q b;have u:=r.trans (b.mono r.size);clear b Q r;have ad:t.cell? ⟨w.heap.size,0,none⟩=some (.int .i64 3):=by rw[ae g];rfl
 have af:t.cell? ⟨w.heap.size,1,none⟩=some (.int .i64 8):=by rw[ae g];rfl
 have ag:t.cell? ⟨w.heap.size,2,none⟩=some (.int .i64 2):=by rw[ae g];rfl
 go_wp2_with fail;refine(jA _ _ _ _ _ _ _ (by decide) (by decide) (by decide)).mono ?_;rw[c.out.2.2.1];rintro e z ⟨rfl,b⟩;have h:=aa g b;have A:=u.trans (b.mono u.size);clear b g u;clear ad af ag;have ah:z.cell? ⟨w.heap.size,0,none⟩=some (.int .i64 3):=by rw[ae h];rfl
 have ai:z.cell? ⟨w.heap.size,1,none⟩=some (.int .i64 8):=by rw[ae h];rfl
 have aj:z.cell? ⟨w.heap.size,2,none⟩=some (.int .i64 2):=by rw[ae h];rfl
 go_wp2_with fail;refine(jA _ _ _ _ _ _ _ (by decide) (by decide) (by decide)).mono ?_;rw[c.out.2.2.2.1];rintro e w5 ⟨rfl,b⟩;have R:=aa h b;have S:=A.trans (b.mono A.size);clear b h A;clear ah ai aj;go_wp2_with fail;refine(bH _ _ _ _).mono ?_;rw[c.out.2.2.2.2.1];rintro e f ⟨rfl,n6,rfl⟩;obtain⟨B,l⟩:∃x:fo,x=w5.drewN n6:=⟨_,rfl⟩;rw[←l];have T:B.heap[w.heap.size]? =some (.cells #[.int .i64 3,.int .i64 8,.int .i64 2] 23 (0,0)):=by rw[l];exact R
 have U:Below w.heap.size w B:=by rw[l];exact aF S _
 clear l R S;go_wp2_with fail;refine(bA _ _).mono ?_;rw[c.out.2.2.2.2.2.1];rintro e f ⟨rfl,rfl⟩;go_wp2_with fail;refine(ge _ _ _ _ _ (by decide) (by decide)).mono ?_;rw[c.out.2.2.2.2.2.2.1];rintro e f ⟨rfl,n7,rfl⟩;obtain⟨C,m⟩:∃x:fo,x=B.drewN n7:=⟨_,rfl⟩;rw[←m];have V:C.heap[w.heap.size]? =some (.cells #[.int .i64 3,.int .i64 8,.int .i64 2] 23 (0,0)):=by rw[m];exact T
 have W:Below w.heap.size w C:=by rw[m];exact aF U _
 clear m T U;go_wp2_with fail;refine(sM _ _ _ _ _).mono ?_;rw[c.out.2.2.2.2.2.2.2.1];rintro e f ⟨rfl,n8,rfl⟩;obtain⟨D,n⟩:∃x:fo,x=C.drewN n8:=⟨_,rfl⟩;rw[←n];have X:D.heap[w.heap.size]? =some (.cells #[.int .i64 3,.int .i64 8,.int .i64 2] 23 (0,0)):=by rw[n];exact V
 have Y:Below w.heap.size w D:=by rw[n];exact aF W _
 clear n V W;go_wp2_with fail;refine(sM _ _ _ _ _).mono ?_;rw[c.out.2.2.2.2.2.2.2.2.1];rintro e f ⟨rfl,n9,rfl⟩;obtain⟨i,o⟩:∃x:fo,x=D.drewN n9:=⟨_,rfl⟩;rw[←o];have j:i.heap[w.heap.size]? =some (.cells #[.int .i64 3,.int .i64 8,.int .i64 2] 23 (0,0)):=by rw[o];exact X
 have E:Below w.heap.size w i:=by rw[o];exact aF Y _
 clear o X Y;have ak:i.cell? ⟨w.heap.size,0,none⟩=some (.int .i64 3):=by rw[ae j];rfl
 have al:i.cell? ⟨w.heap.size,1,none⟩=some (.int .i64 8):=by rw[ae j];rfl
 have an:i.cell? ⟨w.heap.size,2,none⟩=some (.int .i64 2):=by rw[ae j];rfl
 go_wp2_with fail;refine(gP _ _ _ _).mono ?_;rw[c.out.2.2.2.2.2.2.2.2.2];rintro e aq ⟨rfl,b⟩;have ar:=aa j b;have ao:=E.trans (b.mono E.size);clear b j E;clear ak al an;go_wp2_with fail;go_ret;exact⟨rfl,ao⟩
end
end Go.Proofs.YtlkpfnjdbgeifaaGreat
