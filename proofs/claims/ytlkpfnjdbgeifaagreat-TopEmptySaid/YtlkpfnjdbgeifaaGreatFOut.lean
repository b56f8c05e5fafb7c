import Derived.BigRegion
import Derived.ChangeAlike
import Derived.Deep.RegionLaw
import Derived.OpenShut
import Derived.Test.YtlkpfnjdbgeifaaGreatFZig
set_option maxHeartbeats 1000000
open Nat renaming le_refl→ed,div_div_eq_div_mul→fj,pow_le_pow_right→gg,lt_of_lt_of_le→hO,le_trans→hX,pow_succ→jd
open Go.RowKit.Below renaming refl→ej
open And renaming intro→ek
open Go renaming World→eD,Calls→fo,heap_alloc_new→hG,cell_of_row→hZ
open Int renaming natCast_ediv→eX,natCast_pow→iP,toNat→jg
namespace Go.Proofs.YtlkpfnjdbgeifaaGreat
open Go.Proofs.Tryz
open Go.RowKit
theorem yar{A:Prop}(h:A:=by
 have hi:((N:Int)/8)<((N/8+1:Nat):Int):=by omega
 have hi0:0≤(N:Int)/8:=by omega
 have fW1:=ao hW1 1;go_region;go_wp2
 go_roundw
 case rel=>
  refine⟨k+1,some gr,by omega,by go_num,?_,?_,?_⟩
  · rw[show l++Ml u V (k+1)=L++[u.testBit (V-1-k)] by rw[←HL.out,ii,List.append_assoc]]
    exact Bv hBg hgr ownW hW1 HN (by rw[HO.out];exact EE o u (V-1-k) (7-N%8) ho HU (by omega))
  · exact HR
  · exact((hkW.setCell (p:=⟨gr,N/8,none⟩) HG _).setCell (p:=⟨g,1,none⟩) (.inl (.inl rfl)) _).drew
 case measure=>simp[intOf];omega):A:=h
theorem ydy{A:Prop}(h:A:=by
 rw[ho'];have e:=yD L;rw[HN.out]at e;rw[ownW.cellAt (N/8) (by omega),An,List.getElem?_map,e];rfl):A:=h
section
theorem dX(k:Int)(w:eD):fo prog 117 #[k] w fun e c=>e=.returned (.bool (decide (1≤k)&&decide (k≤64)))∧w=c:=by
 by_cases h:1≤k
 · by_cases b:k≤64
   · go_enter func117, ntmps117
     go_wp2
     go_ret;exact⟨by simp[h,b],rfl⟩
   · go_enter func117, ntmps117
     go_wp2
     go_ret;exact⟨by simp[b],rfl⟩
 · go_enter func117, ntmps117
   go_wp2
   go_ret;exact⟨by simp;omega,rfl⟩
def KX(w:eD)(B g:Nat)(r:Option Nat)(l:List Bool):Prop:=
 B≤g∧∃v,v.ownBlock=r∧w.heap[g]? =some (.cells #[v,(l.length:Int)] 206 (0,0))∧w.ownsRow B 5 1 v ((l.length+7)/8) (An .u8 (KG l))
theorem Bv{B g b c N:Nat}{W:eD}{L:List Bool}{x:Bool}{X:Int}(n:B≤g)(h:b≠g)(o:W.ownsRow B 5 1 (.slice (some ⟨b,0,none⟩) (N/8+1) c) (N/8+1) (An .u8 (Ny L)))(q:W.heap[g]? =some (.cells #[.slice (some ⟨b,0,none⟩) (N/8+1) c,(N:Int)] 206 (0,0)))(j:L.length=N)(r:X=((Ob L (8*(N/8)) |||(x.toNat*2^(7-N%8)):Nat):Int)):
 KX ((W.setCell ⟨b,N/8,none⟩ (.int .u8 X)).setCell ⟨g,1,none⟩ (.int .i64 ((N:Int)+1))).drew B g (some b) (L++[x]):=by
 have k:(L++[x]).length=N+1:=by rw[List.length_append,List.length_singleton,j]
 refine⟨n,.slice (some ⟨b,0,none⟩) (N/8+1) c,rfl,?_,?_⟩
 · have f:=fF (i:=1) (FR (p:=⟨b,N/8,none⟩) q (Ne.symm h) (.int .u8 X)) (.int .i64 ((N:Int)+1))
   rw[k];exact f
 · have f:=(o.stored (N/8) (.int .u8 X)).1
   have l:=x7 f (p:=⟨g,1,none⟩) (by simpa[Value.ownBlock]using h) (.int .i64 ((N:Int)+1))
   have e:(An .u8 (Ny L)).set (N/8) (.int .u8 X)=An .u8 (KG (L++[x])):=by
    have m:=GE L x;rw[j]at m;rw[←m,r];simp only[An,List.map_set]
   rw[e]at l;have e2:((L++[x]).length+7)/8=N/8+1:=by rw[k];omega
   rw[e2];exact l
theorem th(B g:Nat)(r:Option Nat)(l:List Bool)(u V:Nat)(w:eD)(ho:KX w B g r l)(h1:1≤V)(h2:V≤64)(O:u<2^V)(hn:l.length+V≤4096)(hB:B≤w.heap.size):
 fo prog 120 #[g,.int .u64 (u:Int),(V:Int)] w fun e H=>e=.returned (.bool true)∧
  ∃f,KX H B g f (l++Ke u V)∧(f=r∨∃j,f=some j∧w.heap.size≤j)∧Kj (fun k=>k=g∨some k=r) w H:=by
 obtain⟨hBg,v,hv,b,c⟩:=ho;have c1:w.cell? ⟨g,1,none⟩=some (.int .i64 (l.length:Int)):=by rw[hZ w g 1 _ _ _ b];rfl
 have hz:(u:Int)/2^(V-1)/2=0:=by
  have:u/2^(V-1)/2=0:=by
   rw[fj,←jd,show(V-1).succ=V by omega,Nat.div_eq_of_lt O]
  have h:=congrArg (Nat.cast (R:=Int)) this;rw[eX,eX,iP]at h;exact h
 have HU:=qZ (show u<18446744073709551616 from hO O (hX (gg (by omega) h2) (by decide)));have d1:decide (1≤(V:Int))=true:=by simp;omega
 have d2:decide ((V:Int)≤64)=true:=by simp;omega
 have ak:=af b;have d3:decide (4096<(l.length:Int)+(V:Int))=false:=by simp;omega
 have b1:1≤(V:Int):=by omega
 have b2:(V:Int)≤64:=by omega
 have b3:(l.length:Int)+(V:Int)≤4096:=by omega
 go_enter func120, ntmps120;go_wp2_with (go_at_call 117;go_must (refine(dX _ _).mono ?_;rw[d1,d2];rintro e H ⟨rfl,rfl⟩));go_loopw [7] (fun i wr=>∃(k:Nat) (f:Option Nat),k≤V∧i=.int .i64 ((V:Int)-1-k)∧KX wr B g f (l++Ml u V k)∧(f=r∨∃j,f=some j∧w.heap.size≤j)∧Kj (fun k=>k=g∨some k=r) w wr) (fun i _=>(intOf i+1).toNat)
 case atStart=>exact⟨0,r,by omega,by simp,by simpa[Ml]using⟨hBg,v,hv,b,c⟩,.inl rfl,Kj.refl _ _⟩
 case round=>
  clear c1 c b hz;obtain⟨k,C,hk,rfl,ho,D,n⟩:=hrel;by_cases al:k<V
  · have P:(l++Ml u V k).length=l.length+k:=by rw[List.length_append,iM]
    obtain⟨-,v1,I,b,c⟩:=ho;generalize Q:l++Ml u V k=L at*;generalize T:L.length=N at*;have an:N≤4095:=by omega
    have aq:(N:Int)≤4095:=by omega
    have HL:=qZ Q;have HN:=qZ T;have ar:=qZ P;clear Q T P;have c0:wr.cell? ⟨g,0,none⟩=some v1:=by rw[ae b];rfl
    have c1:wr.cell? ⟨g,1,none⟩=some (.int .i64 (N:Int)):=by rw[ae b];rfl
    have X:=nQ c b (by decide);by_cases E:N%8=0
    · have ht:((N:Int)%8==0)=true:=by simp;omega
      have ag:B≤wr.heap.size:=hX hB n.size;have Y:=qZ E;clear E;go_wp2_with (at_builtin;go_must (refine dc rfl (.tmp 48) (.tmp 49) 128 rfl 5 _ _ underlying128 AH rfl c (ej B wr) rfl rfl rfl (by unfold maxLen;omega) (by omega) ag (ed _) ?_;intro v2 Z J au aa ab;obtain⟨gr,m,rfl,q1,q2,q3,q4⟩:=aS J (by omega);have q:=aR (am b _) aa (Ne.symm X);have ah:=ae q 0;have f20:=ao q 0;clear c0 c1));have hgr:gr≠g:=fun e=>nQ J q (by decide) (by rw[e];rfl)
      have K:=fF (i:=0) q (.slice (some ⟨gr,0,none⟩) ((N+7)/8+1) m);have ownW:=x7 J (p:=⟨g,0,none⟩) (by simpa[Value.ownBlock]using hgr) (.slice (some ⟨gr,0,none⟩) ((N+7)/8+1) m);have t:(N+7)/8+1=N/8+1:=by have:=Y.out;omega
      have z:An .u8 (KG L)++[.int .u8 0]=An .u8 (Ny L):=by rw[vl L (by rw[HN.out];exact Y.out)];simp[An]
      rw[t]at ownW K⊢;rw[z]at ownW;generalize G:Z.setCell ⟨g,0,none⟩ (.slice (some ⟨gr,0,none⟩) (N/8+1) m)=W at*;have hW1:W.heap[g]? =some (.cells #[.slice (some ⟨gr,0,none⟩) (N/8+1) m,(N:Int)] 206 (0,0)):=by rw[K];rfl
      have ho:=rc L (8*(N/8));obtain⟨o,ho'⟩:∃o,o=Ob L (8*(N/8)):=⟨_,rfl⟩;have HO:=qZ (ho'.symm)
      have ai:W.cell? ⟨gr,N/8,none⟩=some (.int .u8 (o:Int)):=by
       exact ydy
      have aj:=ownW.frozenAt (N/8);have av:W.cell? ⟨g,0,none⟩=some (.slice (some ⟨gr,0,none⟩) (N/8+1) m):=by rw[ae hW1];rfl
      have aw:W.cell? ⟨g,1,none⟩=some (.int .i64 (N:Int)):=by rw[ae hW1];rfl
      rw[←ho']at ho
      have ad:Kj (fun k=>k=g∨some k=r) w Z:=n.trans (Kj.trans (U:=fun i=>some i=C) (Kj.Mj (S:=fun _=>False) ((ej _ _).alloc (ed _) _)) (Kj.Ll aa) (fun _ h=>h.elim) (fun _ _ h=>by rw[I]at h;exact h)) (fun _ h=>h) (fun i hi h=>by
       rcases D with e|⟨j,e,hj⟩
       · exact .inr (by rw[h,e])
       · rw[e]at h;injection h with h;omega)
      have HR:=qZ (show some gr=r∨∃j,some gr=some j∧w.heap.size≤j by
       rcases ab with e|⟨j,e,hj⟩
       · have M:some gr=C:=by rw[I]at e;exact e
         rw[M];exact D
       · exact .inr ⟨j,e,by have:=n.size;omega⟩)
      have HG:=qZ (show(gr=g∨some gr=r)∨w.heap.size≤gr by
       rcases HR with e|⟨j,e,hj⟩
       · exact .inl (.inr e)
       · injection e with e;exact .inr (by omega))
      have hkW:Kj (fun k=>k=g∨some k=r) w W:=by rw[←G];exact ad.setCell (p:=⟨g,0,none⟩) (.inl (.inl rfl)) _
      clear q ah f20 G K t z ab ad ho';exact yar
    · have ht:((N:Int)%8==0)=false:=by simp;omega
      have t:(N+7)/8=N/8+1:=by omega
      have z:Ny L=KG L:=vk L (by rw[HN.out];exact E);rw[t]at c;obtain⟨gr,m,rfl,q1,q2,q3,q4⟩:=aS c (by omega);obtain⟨W,G⟩:∃W,W=wr:=⟨_,rfl⟩;subst G;have hgr:gr≠g:=fun e=>X (by rw[e];rfl)
      have ownW:=c;rw[←z]at ownW;have hW1:=b;have ho:=rc L (8*(N/8));obtain⟨o,ho'⟩:∃o,o=Ob L (8*(N/8)):=⟨_,rfl⟩;have HO:=qZ (ho'.symm)
      have ai:W.cell? ⟨gr,N/8,none⟩=some (.int .u8 (o:Int)):=by
       exact ydy
      have aj:=ownW.frozenAt (N/8);rw[←ho']at ho
      have HR:=qZ (show some gr=r∨∃j,some gr=some j∧w.heap.size≤j by
       have M:some gr=C:=I;rw[M];exact D)
      have HG:=qZ (show(gr=g∨some gr=r)∨w.heap.size≤gr by
       rcases HR with e|⟨j,e,hj⟩
       · exact .inl (.inr e)
       · injection e with e;exact .inr (by omega))
      have hkW:=n;clear t z ho' E b c;go_wp2_with fail;exact yar
  · obtain rfl:k=V:=by omega
    go_wp2
    go_ret;exact⟨rfl,C,ho,D,n⟩
theorem Bt(a:Addr)(u V:Nat)(w:eD)(f:1≤V)(g:V≤64)(c:2^V≤u):fo prog 120 #[.pointer (some a),.int .u64 (u:Int),(V:Int)] w fun e b=>e=.returned (.bool false)∧w=b:=by
 have d1:(decide (1≤(V:Int))&&decide ((V:Int)≤64))=true:=by simp;omega
 have i:1≤(V:Int):=by omega
 have j:(V:Int)≤64:=by omega
 have k:¬(u:Int)/2^(V-1)/2=0:=by
  have:1≤u/2^(V-1)/2:=by
   rw[fj,←jd,show(V-1).succ=V by omega];exact(Nat.le_div_iff_mul_le (Nat.two_pow_pos _)).2 (by omega)
  have h:(u:Int)/2^(V-1)/2=((u/2^(V-1)/2:Nat):Int):=by rw[eX,eX,iP];rfl
  omega
 clear c;go_enter func120, ntmps120;go_wp2_with (go_at_call 117;go_must (refine(dX _ _).mono ?_;rw[d1];rintro e b ⟨rfl,rfl⟩));go_ret;exact⟨rfl,rfl⟩
theorem rh(B g:Nat)(r:Option Nat)(l:List Bool)(w:eD)(c:KX w B g r l):
 fo prog 309 #[g] w fun e f=>e=.returned (.int .i64 (l.length:Int))∧w=f:=by
 obtain⟨i,v,j,b,h⟩:=c;have c1:w.cell? ⟨g,1,none⟩=some (.int .i64 (l.length:Int)):=by rw[hZ w g 1 _ _ _ b];rfl
 clear b h;go_enter func309, ntmps309;go_wp2
 go_ret;exact⟨rfl,rfl⟩
theorem fT(B g:Nat)(r:Option Nat)(l:List Bool)(w:eD)(i:KX w B g r l)(t:l.length≤4096):
 fo prog 122 #[g] w fun e c=>∃v,e=.returned v∧c.ownsRow w.heap.size 5 1 v ((l.length+7)/8) (An .u8 (KG l))∧Below w.heap.size w c:=by
 obtain⟨u,v,z,f,b⟩:=i;have c1:w.cell? ⟨g,0,none⟩=some v:=by rw[hZ w g 0 _ _ _ f];rfl
 rcases b.2 with⟨rfl,h⟩|⟨A,C,D,rfl,-⟩
 · have j:KG l=[]:=List.eq_nil_of_length_eq_zero (by rw[KG,cz];exact h)
   rw[j,h];clear f b;go_enter func122, ntmps122;go_wp2_with (go_at_call 187;go_must (refine(zQ _ _ _).mono ?_;rintro e c ⟨rfl,rfl⟩));go_ret;exact⟨_,rfl,World.ownsRow_nil _ _ _ _,ej _ _⟩
 · have k:=Rd.O4 b
   clear f b;generalize n:(l.length+7)/8=m at*;have o:m≤1000000:=by omega
   clear n;go_enter func122, ntmps122;go_wp2_with (go_at_call 187;go_must (refine(l9 _ _ _ _ _ _ _ k (ed _) o).mono ?_;rintro e E ⟨G,rfl,p,q⟩));go_ret;exact⟨_,rfl,p,q⟩
end
section
def NW(w:eD)(C g:Nat)(l:List Nat)(at_:Nat):Prop:=
 ∃A c,w.heap[g]? =some (.cells #[.slice A l.length c,(at_:Int)] 202 (0,0))∧Rd w C A l.length (An .u8 l)∧C≤g
theorem dH(A:Option Addr)(n c B:Nat)(l:List Nat)(w:eD)(b:Rd w B A n (An .u8 l))(f:B≤w.heap.size):fo prog 72 #[.slice A n c] w fun e g=>
 e=.returned w.heap.size∧NW g B w.heap.size l 0∧Below w.heap.size w g:=by
 have h:n=l.length:=by have:=b.1;rw[ah]at this;exact this.symm
 subst h;go_enter func72, ntmps72;go_wp2
 go_ret;refine⟨rfl,⟨A,c,hG w _,?_,f⟩,(ej _ _).alloc (ed _) _⟩;exact b.below ((ej _ _).alloc (ed _) _) f
theorem zp(w:eD):fo prog 118 #[.pointer none] w fun e b=>e=.returned (.int .i64 0)∧w=b:=by
 go_enter func118, ntmps118;go_wp2
 go_ret;exact⟨rfl,rfl⟩
theorem dI(C g:Nat)(l:List Nat)(at_:Nat)(w:eD)(f:NW w C g l at_)(i:l.length≤1000000000)(j:at_≤8*l.length):fo prog 118 #[g] w fun e h=>
 e=.returned (.int .i64 (8*(l.length:Int)-at_))∧∃k,h=w.drewN k:=by
 obtain⟨A,c,b,-⟩:=f;have c0:w.cell? ⟨g,0,none⟩=some (.slice A l.length c):=by rw[ae b];rfl
 have c1:w.cell? ⟨g,1,none⟩=some (.int .i64 (at_:Int)):=by rw[ae b];rfl
 clear b;have m:(l.length:Int)≤1000000000:=by omega
 have n:(at_:Int)≤8*(l.length:Int):=by omega
 go_enter func118, ntmps118;go_wp2
 go_quiet (fail)
 go_wp2
 go_ret;exact⟨rfl,_,rfl⟩
theorem tZ(W:Int)(w:eD):fo prog 73 #[.pointer none,W] w fun e c=>e=.returned (.tuple #[.int .u64 0,.bool false])∧w=c:=by
 cases b:(decide (1≤W)&&decide (W≤64))with
 |false=>
  go_enter func73, ntmps73;go_wp2_with (go_at_call 117;go_must (refine(dX _ _).mono ?_;rw[b];rintro e c ⟨rfl,rfl⟩));go_ret2;exact⟨rfl,rfl⟩
 |true=>
  simp only[Bool.and_eq_true,decide_eq_true_eq]at b;obtain⟨m1,m2⟩:=b;have b:(decide (1≤W)&&decide (W≤64))=true:=by simp;omega
  have f:0<W:=by omega
  go_enter func73, ntmps73;go_wp2_with (first|(go_at_call 117;go_must (refine(dX _ _).mono ?_;rw[b];rintro e c ⟨rfl,rfl⟩))|(go_at_call 118;go_must (refine(zp _).mono ?_;rintro e c ⟨rfl,rfl⟩)));go_ret2;exact⟨rfl,rfl⟩
theorem Hl(C g:Nat)(l:List Nat)(at_:Nat)(W:Int)(w:eD)(f:NW w C g l at_)(h:l.length≤1000000000)(i:at_≤8*l.length)(j:W<1∨64<W∨8*(l.length:Int)-at_<W):
 fo prog 73 #[g,W] w fun e c=>e=.returned (.tuple #[.int .u64 0,.bool false])∧∃k,c=w.drewN k:=by
 cases b:(decide (1≤W)&&decide (W≤64))with
 |false=>
  go_enter func73, ntmps73;go_wp2_with (go_at_call 117;go_must (refine(dX _ _).mono ?_;rw[b];rintro e c ⟨rfl,rfl⟩));go_ret2;exact⟨rfl,0,rfl⟩
 |true=>
  simp only[Bool.and_eq_true,decide_eq_true_eq]at b;obtain⟨m1,m2⟩:=b;have b:(decide (1≤W)&&decide (W≤64))=true:=by simp;omega
  have m:8*(l.length:Int)-at_<W:=by omega
  go_enter func73, ntmps73;go_wp2_with (first|(go_at_call 117;go_must (refine(dX _ _).mono ?_;rw[b];rintro e c ⟨rfl,rfl⟩))|(go_at_call 118;go_must (refine(dI _ _ _ _ _ f h i).mono ?_;rintro e c ⟨rfl,n,rfl⟩)));go_ret2;exact⟨rfl,_,rfl⟩
theorem xS(C g:Nat)(l:List Nat)(at_ V:Nat)(w:eD)(r:NW w C g l at_)(K:∀x∈l,x<256)(L:l.length≤1000000000)(T:1≤V)(j:V≤64)(U:at_+V≤8*l.length):
 fo prog 73 #[g,(V:Int)] w fun e m=>e=.returned (.tuple #[.int .u64 (MZ (Li (ofN l) at_ V):Int),.bool true])∧NW m C g l (at_+V)∧Kj (fun k=>k=g) w m:=by
 have t:(decide (1≤(V:Int))&&decide ((V:Int)≤64))=true:=by simp;omega
 have W:(V:Int)≤8*(l.length:Int)-at_:=by omega
 have X:(V:Int)≤64:=by omega
 have Y:(at_:Int)+V≤8000000000:=by omega
 have d5:decide (8*(l.length:Int)-at_<V)=false:=by simp;omega
 have z:=r;obtain⟨A,c,b,f,B⟩:=r;have c0:w.cell? ⟨g,0,none⟩=some (.slice A l.length c):=by rw[ae b];rfl
 have c1:w.cell? ⟨g,1,none⟩=some (.int .i64 (at_:Int)):=by rw[ae b];rfl
 go_enter func73, ntmps73;go_wp2_with (first|(go_at_call 117;go_must (refine(dX _ _).mono ?_;rw[t];rintro e m ⟨rfl,rfl⟩))|(go_at_call 118;go_must (refine(dI _ _ _ _ _ z L (by omega)).mono ?_;rintro e m ⟨rfl,Z,rfl⟩)));clear z c0 c1 t;have aa:=vB l;go_loopw [6] (fun u wr=>∃k:Nat,k≤V∧u=.int .u64 (MZ (Li (ofN l) at_ k):Int)∧wr.heap[g]? =some (.cells #[.slice A l.length c,.int .i64 ((at_+k:Nat):Int)] 202 (0,0))∧Rd wr C A l.length (An .u8 l)∧Kj (fun k=>k=g) w wr) (fun _ wr=>at_+V-(intOf ((wr.cell? ⟨g,1,none⟩).getD undef)).toNat)
 case atStart=>exact⟨0,by omega,by simp[Li,MZ],b,f,(Kj.refl _ _).drewN _⟩
 case round=>
  clear b f;obtain⟨k,hk,rfl,b,f,D⟩:=hrel;have c0:wr.cell? ⟨g,0,none⟩=some (.slice A l.length c):=by rw[ae b];rfl
  have c1:wr.cell? ⟨g,1,none⟩=some (.int .i64 ((at_+k:Nat):Int)):=by rw[ae b];rfl
  by_cases ab:k<V
  · obtain⟨x,n,E⟩:=rb l (at_+k) (by omega)
    have G:(at_+k)/8<l.length:=by omega
    obtain⟨M,o,rfl,ad,H⟩:=f.at_ G
    have N:wr.cell? ⟨M,o+(at_+k)/8,none⟩=some (.int .u8 (x:Int)):=by
     rw[H,An,List.getElem?_map,n];rfl
    have O:=K x (List.mem_of_getElem? n);have I:=qZ (zP (ofN l) at_ k _ E)
    have P:MZ (Li (ofN l) at_ k)<9223372036854775808:=by
     have h:=mP (Li (ofN l) at_ k);rw[gX _ _ _ (by omega)]at h;exact hO h (hX (gg (by omega) (show k≤63 by omega)) (by decide))
    have J:=qZ (Fs (MZ (Li (ofN l) at_ k)) x (7-(at_+k)%8) P O);have f1:=ao b 1;obtain⟨p,q⟩:∃p,p=at_+k:=⟨_,rfl⟩;rw[←q]at c1 N J b G I;have Q:=qZ q;have af:p<at_+V:=by omega
    clear H n E q;have ag:(p:Int)/8<(l.length:Int):=by omega
    have ah:(p:Int)<(at_:Int)+(V:Int):=by omega
    have ai:(p:Int)≤8000000000:=by omega
    have R:=qZ (show MZ (Li (ofN l) at_ (k+1))=2*MZ (Li (ofN l) at_ k)+(x.testBit (7-p%8)).toNat by rw[I.out,iw]);generalize MZ (Li (ofN l) at_ k)=aj at*;go_wp2
    go_region;go_wp2
    go_roundw
    case rel=>
     refine⟨k+1,by omega,?_,?_,?_,?_⟩
     · rw[R.out,J.out]
     · have j:=fF (i:=1) b (.int .i64 ((p:Int)+1))
       rw[show((at_+(k+1):Nat):Int)=(p:Int)+1 by have:=Q.out;omega];exact j
     · exact(f.below (C:=C) ((ej _ _).setCell (p:=⟨g,1,none⟩) B _) (ed _)).drew
     · exact(D.setCell (p:=⟨g,1,none⟩) (.inl rfl) _).drew
    case measure=>
     have j:=fF (i:=1) b (.int .i64 ((p:Int)+1))
     have S:(wr.setCell ⟨g,1,none⟩ (.int .i64 ((p:Int)+1))).drew.cell? ⟨g,1,none⟩=some (.int .i64 ((p:Int)+1)):=by
      show(wr.setCell ⟨g,1,none⟩ (.int .i64 ((p:Int)+1))).cell? ⟨g,1,none⟩=_;rw[ae j];rfl
     rw[S,c1];simp only[Option.getD_some,intOf];omega
  · obtain rfl:k=V:=by omega
    have hd:decide (((at_+k:Nat):Int)<(at_:Int)+(k:Int))=false:=by simp
    go_wp2
    go_ret2;exact⟨rfl,⟨A,c,b,f,B⟩,D⟩
end
section

theorem IC{n:Int}(h:(Lit.int .u8 n).wf=true):0≤n∧n<256:=by
 have:=bounds_u8 h;omega
theorem KX.keep{S:Nat→Prop}{w w':eD}{B g:Nat}{r:Option Nat}{l:List Bool}(h:KX w B g r l)(b:Kj S w w')(e:¬S g)(f:∀k,r=some k→¬S k):KX w' B g r l:=by
 obtain⟨i,v,c,j,m⟩:=h;exact⟨i,v,c,bE j b e,nS m b (by rw[c];exact f)⟩
theorem KX.drewN{w:eD}{B g:Nat}{r:Option Nat}{l:List Bool}(h:KX w B g r l)(k:Nat):KX (w.drewN k) B g r l:=h
theorem NW.drewN{w:eD}{C g:Nat}{l:List Nat}{a:Nat}(h:NW w C g l a)(k:Nat):NW (w.drewN k) C g l a:=h
theorem KX.lt{w:eD}{B g:Nat}{r:Option Nat}{l:List Bool}(h:KX w B g r l):∀k,r=some k→k<w.heap.size:=by
 obtain⟨f,v,b,i,c⟩:=h;intro k e;exact(c.lt k (by rw[b];exact e)).2
theorem NW.keep{S:Nat→Prop}{w w':eD}{C g:Nat}{l:List Nat}{a:Nat}(h:NW w C g l a)(b:Kj S w w')(e:C≤w.heap.size)(f:¬S g)(i:∀k,k<C→¬S k):NW w' C g l a:=by
 obtain⟨A,c,j,m,n⟩:=h;exact⟨A,c,bE j b f,m.keep b e i,n⟩
theorem zu(w:eD)(B:Nat)(b:B≤w.heap.size):KX (w.alloc (.cells #[.slice none 0 0,.int .i64 0] 206)) B w.heap.size none []:=
 ⟨b,.slice none 0 0,rfl,hG w _,World.ownsRow_nil _ _ _ _⟩

theorem Ae(w:eD):fo prog 303 #[] w fun e b=>e=.returned (.bool true)∧Below w.heap.size w b:=by
 have B:=zu w w.heap.size (ed _);go_enter func303, ntmps303;go_wp2_with fail;refine(th w.heap.size w.heap.size none [] 5 3 _ B (by omega) (by omega) (by decide) (by simp) (by simp)).mono ?_;rintro e f ⟨rfl,U,o,-,p⟩;go_wp2_with fail;refine(Bt _ 2 1 _ (by omega) (by omega) (by decide)).mono ?_;rintro e b ⟨rfl,rfl⟩;go_wp2_with fail
 have C:Rd (f.alloc (.cells #[.int .u8 165] 5)) (f.heap.size+1) (some ⟨f.heap.size,0,none⟩) 1 (An .u8 [165]):=by
  refine⟨rfl,fun _=>⟨f.heap.size,0,rfl,by omega,fun i ag q=> ?_⟩⟩;rw[ae (hG f _)];match i,q with
  |0,q=>simpa[An]using q
 refine(dH _ _ _ _ _ _ C (by simp)).mono ?_;rintro e V ⟨rfl,r,j⟩;have D:=(o.keep (Kj.Mj ((ej _ _).alloc (ed _) (.cells #[.int .u8 165] 5))) (S:=fun _=>False) id (fun _ _=>id)).keep (Kj.Mj j) (S:=fun _=>False) id (fun _ _=>id);have E:Kj (fun k=>w.heap.size≤k) w V:=((((Kj.refl _ w).trans (Kj.Mj (S:=fun _=>False) ((ej _ _).alloc (ed _) (.cells #[.slice none 0 0,.int .i64 0] 206))) (fun _ h=>h) (fun _ _ h=>h.elim)).trans p (fun _ h=>h) (fun i W h=>by rcases h with h|h;omega;cases h)).trans (Kj.Mj (S:=fun _=>False) ((ej _ _).alloc (ed _) (.cells #[.int .u8 165] 5))) (fun _ h=>h) (fun _ _ h=>h.elim)).trans (Kj.Mj (S:=fun _=>False) j) (fun _ h=>h) (fun _ _ h=>h.elim);have X:=j.size;have Y:=p.size;simp only[World.size_alloc]at r X Y;have Z:=o.lt;clear j C o p B;go_wp2_with fail;refine(xS _ _ _ 0 4 _ r (by simp) (by simp) (by omega) (by omega) (by simp)).mono ?_;rw[show MZ (Li (ofN [165]) 0 4)=10 from by decide];rintro e w4 ⟨rfl,t,l⟩;have G:=E.trans l (fun _ h=>h) (fun i W h=>by omega);have u:=D.keep l (by omega) (fun k hk h=>by have:=Z k hk;omega);go_wp2_with fail;refine(Hl _ _ _ _ 9 _ t (by simp) (by simp) (by simp)).mono ?_;rintro e w5 ⟨rfl,g,rfl⟩;go_wp2_with fail;refine(fT _ _ _ _ _ (u.drewN g) (by simp[ay])).mono ?_;rintro e m ⟨v6,rfl,z,n⟩
 have A:m.ownsRow (w4.drewN g).heap.size 5 1 v6 1 (An .u8 [160]):=by
  have e:KG ([]++Ke 5 3)=[160]:=by decide
  rw[e]at z;exact z
 obtain⟨g6,c6,rfl,ah,ai,aj,ak⟩:=aS A (by omega);have aa:=(t.drewN g).keep (Kj.Mj n) (S:=fun _=>False) (by have:=l.size;simp at*;omega) id (fun _ _=>id);have ab:=(u.drewN g).keep (Kj.Mj n) (S:=fun _=>False) id (fun _ _=>id);have ad:KX m w.heap.size w.heap.size U [true,false,true]:=(show([]++Ke 5 3:List Bool)=[true,false,true] by decide)▸ab;have af:Below w.heap.size w m:=((G.drewN g).trans (Kj.Mj (S:=fun _=>False) n) (fun _ h=>h) (fun _ _ h=>h.elim)).below (ed _) (fun _ h=>h);have al:m.cell? ⟨g6,0,none⟩=some (.int .u8 160):=by rw[A.cellAt 0 (by omega)];rfl
 clear z A u t G n l r D E;have H:QX (-1)=1:=by decide
 have I:QR 1= -1:=by decide
 have J:Na 255 8= -1:=by decide
 have K:Na 1 0=0:=by decide
 have L:Qq 1 33=2:=by decide
 have M:kof []=4294967295:=by decide
 have N:((O7 (jg 0) (jg 128):Nat):Int)=1394846057:=by decide+kernel
 have O:allI 3=7:=by decide
 have P:atI 6 0=1:=by decide
 have Q:Np 6 2=1:=by decide
 have R:Ky 6=2:=by decide
 have c:=qZ (ek H (ek I (ek J (ek K (ek L (ek M (ek N (ek O (ek P (ek Q R))))))))));clear H I J K L M N O P Q R;go_wp2_with fail;refine(DU _ _ (by omega) (by omega)).mono ?_;rw[c.out.1];rintro e b ⟨rfl,rfl⟩;go_wp2_with fail;refine(DY _ _ (by omega) (by omega)).mono ?_;rw[c.out.2.1];rintro e b ⟨rfl,rfl⟩;go_wp2_with fail;refine(oj _ _ _).mono ?_;rw[c.out.2.2.1];rintro e b ⟨rfl,rfl⟩;go_wp2_with fail;refine(oj _ _ _).mono ?_;rw[c.out.2.2.2.1];rintro e b ⟨rfl,rfl⟩;go_wp2_with fail;refine(AK _ _ _ (by omega) (by omega)).mono ?_;rw[c.out.2.2.2.2.1];rintro e b ⟨rfl,T,rfl⟩;go_wp2_with fail;refine(rh _ _ _ _ _ (ad.drewN T)).mono ?_;rintro e b ⟨rfl,rfl⟩;rw[show(([true,false,true]:List Bool).length:Int)=3 from rfl];go_wp2_with fail;refine(dI _ _ _ _ _ (aa.drewN T) (by simp) (by simp)).mono ?_;rintro e b ⟨rfl,n8,rfl⟩;rw[show(8*(([165]:List Nat).length:Int)-((0+4:Nat):Int))=4 from by decide];go_wp2_with fail;refine(xM _ _ _ 0 [] _ Rd.nil (by simp) (by unfold maxLen;omega)).mono ?_;rw[c.out.2.2.2.2.2.1];rintro e b ⟨rfl,rfl⟩;go_wp2_with fail;refine(qn _ _ _ (by omega) (by omega) (by omega) (by omega)).mono ?_;rw[c.out.2.2.2.2.2.2.1];rintro e b ⟨rfl,rfl⟩;go_wp2_with fail;refine(ng _ _).mono ?_;rw[c.out.2.2.2.2.2.2.2.1];rintro e b ⟨rfl,rfl⟩;go_wp2_with fail;refine(wU _ _ _ (by omega) (by omega)).mono ?_;rw[c.out.2.2.2.2.2.2.2.2.1];rintro e b ⟨rfl,rfl⟩;go_wp2_with fail;refine(sK _ _ _).mono ?_;rw[c.out.2.2.2.2.2.2.2.2.2.1];rintro e b ⟨rfl,rfl⟩;go_wp2_with fail;refine(cE _ _).mono ?_;rw[c.out.2.2.2.2.2.2.2.2.2.2];rintro e b ⟨rfl,rfl⟩;go_wp2_with fail;go_ret;exact⟨rfl,aF af _⟩
end
end Go.Proofs.YtlkpfnjdbgeifaaGreat
