import Derived.Test.YtlkpfnjdbgeifaaGreatFSherd
import Derived.Test.YtlkpfnjdbgeifaaGreatFMem
set_option maxRecDepth 100000
set_option maxHeartbeats 4000000
open Go renaming wpList_load_mid→ed,World→ek,bodyPost_ret→hZ,Calls→jt,heap_alloc_new→l5,Value→o4,splice→px,TypeId→qc
open List renaming length_append→ej,take_succ_eq_append_getElem→eX,getElem?_eq_getElem→fj,take_of_length_le→jd,mem_of_mem_take→jm,map_append→js,replicate→jI,drop_eq_getElem_cons→kb,getElem_mem→kk,length_take→kn,drop_eq_nil_of_le→kr,getElem?_toArray→ly,take_append_drop→l4,getElem?_map→pn,length_drop→py,append_nil→pz,nil_append→qa
open Go.Proofs.Tryz renaming underlying62→eD,underlying55→fo,prog→hO,underlying35→hX
open Go.Ending renaming returned→gg
open Int renaming eq_ofNat_of_zero_le→hG,toNat_natCast→jg
open BitVec renaming ofInt→iP,toNat_xor→ps
open Go.RowKit renaming Below→jw,intOf→l8
open Go.Instr renaming index→kd
open Nat renaming le_trans→lx,xor_lt_two_pow→nr,sub_self→r2,le_refl→r4
namespace Go.Proofs.YtlkpfnjdbgeifaaGreat
open Go.Proofs.Tryz
open Go.RowKit
theorem yb4{A:Prop}(h:A:=by rw[aD rfl _ _ _ _ _ _ _ rfl hU6.at_ underlying62 rfl (aQ _ rfl _ _ _ _ _ _ _)];rfl):A:=h
section
theorem aE(d:List Nat)(r l s k b o m:Int):∀v∈shV d r l s k b o m,v.oneCell'=true:=by
 intro v c;rcases List.mem_append.1 c with h|h
 · exact av _ _ v h
 · simp at h
   rcases h with rfl|rfl|rfl|rfl|rfl|rfl|rfl<;>rfl
theorem aQ(d:List Nat)(c:d.length=16)(r l s k b o m:Int):(hO.info? 62).map (·.size)=some (shV d r l s k b o m).length:=by rw[bc c];kernel_rfl
theorem cR: hO.built 62 []=some (shV an 0 0 0 0 0 0 0).toArray:=by kernel_rfl
def Ox(d:List Nat)(r l s b o m:Int):List o4:=if K0 d r l s 1 b o m then shV d r l s 1 b o m else shV an 0 0 0 0 0 0 0
theorem ep(b o m l s r:Int)(d:List Nat)(w:ek)(g:d.length=16)(D:∀x∈d,x<256):
 jt hO 206 #[.int .i64 b,.int .i64 o,.int .i64 m,.agg (enV l s r d).toArray] w fun e H=>e=.returned (.tuple #[.agg (Ox d r l s b o m).toArray,.bool (K0 d r l s 1 b o m)])∧jw w.heap.size w H:=by
 have E:=l5 w (.cells (enV l s r d).toArray 90);obtain⟨c0,c1,c2,p⟩:=oU E;have k0:=cQ c0 PI;have k1:=cQ c1 PI;have k2:=cQ c2 PI;unfold PI at k0 k1 k2;have i:=aQ d g r l s 1 b o m;have t:=qZ (bc g r l s 1 b o m);clear E;unfold Ox;cases q:K0 d r l s 1 b o m with
 |false=>
  have u:=qZ q;clear q;go_enter func206, ntmps206;go_wp2_with (first|(refine ed rfl 35 (.tmp 11) rfl w.heap.size 3 rfl _ _ (lS p _) hX rfl (by rw[ah,g];kernel_rfl) ?_)|(refine ac rfl 62 _ rfl _ rfl _ (mE g r l s 1 b o m) ?_)|(refine ag rfl 62 (.tmp 10) (.tmp 22) rfl (w.heap.size+1+1) (shV d r l s 1 b o m) rfl rfl 62 _ (aj _ _ _ (by simp)) i (by rw[t.out];rfl) (aE _ _ _ _ _ _ _ _) ?_;intro I c;have j:=c.at_;have n:=c.old (gS _ _ _ _) (show w.heap.size+1≠w.heap.size+1+1 by omega);have k:=c.below (ij _ _ _ _) (by omega);have z:=c.size)|(refine ed rfl 62 (.tmp 10) rfl (w.heap.size+1+1) 0 rfl _ _ (ai j) eD rfl i ?_));refine(bW d r l s 1 b o m _ g D).mono ?_;rw[u.out];rintro e J ⟨rfl,f⟩;have G:=aa j f;have B:=aa n f;have C:=k.trans (f.mono k.size);clear j n c k f z k0 k1 k2 c0 c1 c2 p;go_wp2_with (first|(refine ac rfl 62 _ rfl _ rfl _ cR ?_)|(refine ag rfl 62 (.tmp 8) (.tmp 26) rfl (w.heap.size+1) (shV an 0 0 0 0 0 0 0) rfl rfl 62 _ B (aQ _ rfl _ _ _ _ _ _ _) rfl (aE _ _ _ _ _ _ _ _) ?_;intro K hU6));refine hZ (v:=.tuple #[.agg (shV an 0 0 0 0 0 0 0).toArray,.bool false]) ?_ rfl ⟨rfl,hU6.below C (by omega)⟩;exact yb4
 |true=>
  have u:=qZ q;clear q;go_enter func206, ntmps206;go_wp2_with (first|(refine ed rfl 35 (.tmp 11) rfl w.heap.size 3 rfl _ _ (lS p _) hX rfl (by rw[ah,g];kernel_rfl) ?_)|(refine ac rfl 62 _ rfl _ rfl _ (mE g r l s 1 b o m) ?_)|(refine ag rfl 62 (.tmp 10) (.tmp 22) rfl (w.heap.size+1+1) (shV d r l s 1 b o m) rfl rfl 62 _ (aj _ _ _ (by simp)) i (by rw[t.out];rfl) (aE _ _ _ _ _ _ _ _) ?_;intro I c;have j:=c.at_;have n:=c.old (gS _ _ _ _) (show w.heap.size+1≠w.heap.size+1+1 by omega);have k:=c.below (ij _ _ _ _) (by omega);have z:=c.size)|(refine ed rfl 62 (.tmp 10) rfl (w.heap.size+1+1) 0 rfl _ _ (ai j) eD rfl i ?_));refine(bW d r l s 1 b o m _ g D).mono ?_;rw[u.out];rintro e J ⟨rfl,f⟩;have G:=aa j f;have B:=aa n f;have C:=k.trans (f.mono k.size);clear j n c k f z k0 k1 k2 c0 c1 c2 p;go_wp2_with (first|(refine ed rfl 62 (.tmp 10) rfl (w.heap.size+1+1) 0 rfl _ _ (ai G) eD rfl i ?_)|(refine ag rfl 62 (.tmp 8) (.tmp 27) rfl (w.heap.size+1) (shV d r l s 1 b o m) rfl rfl 62 _ B i (by rw[t.out];rfl) (aE _ _ _ _ _ _ _ _) ?_;intro K hU6));refine hZ (v:=.tuple #[.agg (shV d r l s 1 b o m).toArray,.bool true]) ?_ rfl ⟨rfl,hU6.below C (by omega)⟩;rw[aD rfl _ _ _ _ _ _ _ rfl hU6.at_ eD rfl i];rfl
end
section
theorem AF(a b:Nat)(c:a<256)(f:b<256):bits .xor .u8 (a:Int) (b:Int)=((a^^^b:Nat):Int):=by
 have g:a^^^b<2^8:=nr (by omega) (by omega);have e:∀x:Nat,x<256→(iP 8 (x:Int)).toNat=x:=fun x h=>by simp_all
 show((iP 8 (a:Int)^^^iP 8 (b:Int)).toNat:Int)%_=_;rw[ps,e a c,e b f];have:((2:Int)^IntKind.u8.bits)=256:=rfl
 grind
def NZ(d e:List Nat)(k:Nat):List Nat:=over (d.take k) (e.take k)++d.drop k
theorem vy(d e:List Nat):NZ d e 0=d:=by rfl
theorem yO{d e:List Nat}(b:d.length=16)(c:e.length=16):NZ d e 16=over d e:=by
 rw[NZ,jd (by omega),jd (by omega),kr (by omega),pz]
theorem kV{d e:List Nat}(h:d.length=e.length){k:Nat}(b:k≤d.length):(over (d.take k) (e.take k)).length=k:=by simp[over];omega
theorem yN{d e:List Nat}(h:d.length=e.length){k:Nat}(b:k<d.length):(NZ d e k)[k]? =some d[k]:=by
 rw[NZ,List.getElem?_append_right (by rw[kV h (by omega)];omega),kV h (by omega),r2,List.getElem?_drop,Nat.add_zero,fj b]
theorem yM{d e:List Nat}(h:d.length=e.length){k:Nat}(b:k<d.length):(NZ d e k).set k (d[k]^^^e[k])=NZ d e (k+1):=by
 have c:=kV h (Nat.le_of_lt b)
 rw[NZ,NZ,List.set_append_right _ _ (by omega),c,r2,kb b,List.set_cons_zero,
  eX b,eX (by omega:k<e.length)]
 unfold over;rw[List.zipWith_append (by simp_all)];simp
theorem Bd:(shV an 0 0 0 0 0 0 0).length=23:=rfl
end
section
theorem nG{P:Program}(w:ek){t e:qc}{n c:Nat}{f:List o4}{d:Nat}{b:List Kd}{i:TypeInfo}(m:P.underlying t=some (.array n e))(o:flat P d e=some b)(g:P.info? e=some i)(k:P.cellsOf e=b.length)(p:b.length=c)(j:Nat)(hj:j<n)(u:f.length=n*c):(kd t (.agg f.toArray) (.int .i64 (j:Int))).run P w=.ok (Nz P e ((f.drop (j*c)).take c)) w:=by
 subst p;have l:=run_sizeOf (P:=P) (w:=w) g;rw[k]at l
 have z:j*b.length+b.length≤n*b.length:=by
  have:=Nat.mul_le_mul_right b.length (show j+1≤n by omega);rw[Nat.succ_mul]at this;exact this
 have q:=gB w o g k f (j*b.length) (by omega);have r:(0:Int)≤(j:Int)∧(j:Int)<(n:Int):=by omega
 simp only[kd,asIntOf,Sem.run_bind,Sem.run_pure,Result.andThen_ok,run_underlying m,if_pos r,l,jg,q]
theorem nH(w:ek){d:List Nat}(h:d.length=16)(j:Nat)(hj:j<16)(x:Nat)(b:d[j]? =some x):(kd 35 (.agg (An .u8 d).toArray) (.int .i64 (j:Int))).run hO w=.ok (.int .u8 (x:Int)) w:=by
 obtain⟨i,f⟩:=l6 (show Og hO 1 5 =true by rfl);rw[nG (c:=1) w hX (show flat hO 1 5 =some [.int .u8] by rfl) f (by rfl) rfl j hj (by rw[ah];omega)];have g:OK hO 5 =false:=rfl;simp only[Nz,g,Bool.false_eq_true,if_false,Nat.mul_one]
 have e:((An .u8 d).drop j).take 1=[.int .u8 (x:Int)]:=by
  have k:j<(An .u8 d).length:=by rw[ah];omega
  rw[kb k];obtain⟨l,rfl⟩:=List.getElem?_eq_some_iff.1 b;simp[An]
 grind
theorem Eh(a b:Nat)(c:a<18446744073709551616)(f:b<18446744073709551616):bits .xor .u64 (a:Int) (b:Int)=((a^^^b:Nat):Int):=by
 have g:a^^^b<2^64:=nr (by omega) (by omega);have e:∀x:Nat,x<18446744073709551616→(iP 64 (x:Int)).toNat=x:=fun x h=>by simp_all
 show IntKind.u64.wrap ((iP 64 (a:Int)^^^iP 64 (b:Int)).toNat:Int)=_;rw[ps,e a c,e b f,dP _ (by omega)]
theorem aH{w:ek}{B C n:Nat}{A:Option Addr}{c:List (List o4)}(h:Rds w B A C n c){k:Nat}(g:k<n){r:List o4}(i:c[k]? =some r):∃b o,A=some ⟨b,o,none⟩∧b<B∧w.rangeAt b (o+k*C) r:=by
 obtain⟨b,o,e,f,l⟩:=h.2.2 (by omega);refine⟨b,o,e,f,fun j v m=> ?_⟩;grind
def Sh.v(x:Sh):List o4:=shV x.d x.r x.l x.s x.k x.b x.o x.m
def Sh.ok(x:Sh):Prop:=x.d.length=16∧∀y∈x.d,y<256
def shs(l:List Sh):List (List o4):=l.map Sh.v
theorem tt(l:List Sh)(A:Option Addr)(n al B:Nat)(w:ek)(H:Rds w B A 23 n (shs l))(hB:B≤w.heap.size)(C:∀x∈l,x.ok)(hn:n≤1000):
 jt hO 204 #[.slice A n al] w fun e O=>e=.returned (.tuple #[.agg (An .u8 (KT l)).toArray,.int .u64 (KE l:Int)])∧jw w.heap.size w O:=by
 have P:l.length=n:=by have:=H.1;rwa [shs,List.length_map]at this
 have Q:=qZ P;clear P;have aC:(n:Int)≤1000:=by omega
 go_enter func204, ntmps204;go_wp2
 go_loopw [5,12] (fun aq i wr=>∃k:Nat,k≤n∧i=.int .i64 k∧aq=.int .u64 (KE (l.take k):Int)∧wr.heap[w.heap.size+1]? =some (.cells (An .u8 (KT (l.take k))).toArray 35 (0,0))∧wr.heap[w.heap.size]? =some (.cells (An .u8 an).toArray 35 (0,0))∧jw w.heap.size w wr) (fun _ i _=>n-(l8 i).toNat)
 case atStart=>exact⟨0,by omega,rfl,rfl,aj _ _ _ (by simp),bu _ _ _,cG _ _ _⟩
 case round=>
  obtain⟨k,hk,rfl,rfl,b,f,g⟩:=hrel;by_cases R:k<n
  · have S:k<l.length:=by rw[Q.out];exact R
    obtain⟨x,I⟩:∃x,l[k]? =some x:=⟨_,fj S⟩;have T:=H.same (w':=wr) fun p hp=>g.cell (by omega)
    obtain⟨au,aw,rfl,hb,U⟩:=aH T R (r:=x.v) (by rw[shs,pn,I];rfl);have t:=C x (List.mem_of_getElem? I);have u:=aQ x.d t.1 x.r x.l x.s x.k x.b x.o x.m;have V:=qZ (show l.take (k+1)=l.take k++[x] by rw[eX S];simp_all);have aF:(k:Int)<(n:Int):=by omega
    have ax:w.heap.size+1≠wr.heap.size:=by have:=af b;omega
    have ay:w.heap.size≠wr.heap.size:=by have:=af f;omega
    have W:=g.size;obtain⟨z,az⟩:∃z:ek,z=wr:=⟨_,rfl⟩;subst az;go_wp2_with (first|(refine ed rfl 62 (.tmp 14) rfl au (aw+k*23) rfl _ _ U eD rfl u ?_)|(refine ag rfl 62 (.tmp 7) (.tmp 15) rfl z.heap.size x.v rfl rfl 62 _ (aj z _ _ rfl) u (by rw[Sh.v,bc t.1];rfl) (aE _ _ _ _ _ _ _ _) ?_;intro w4 c;have m:=c.at_;have aA:=c.old (am b _) ax;have X:=c.old (am f _) ay;have Y:=c.below (g.alloc W _) W)|(refine ed rfl 35 (.tmp 16) rfl z.heap.size 0 rfl _ _ (iX m) hX rfl (by rw[ah,t.1];rfl) ?_));clear c U H T b f g;have Z:=qZ m;clear m;have o:=be (l:=l.take k) fun y q=>(C y (jm q)).1
    have J:=jZ (l:=l.take k) (fun y q=>(C y (jm q)).1) (fun y q=>(C y (jm q)).2);have HV:=qZ (show KT (l.take (k+1))=over (KT (l.take k)) x.d by rw[V.out,je]);have HM:=qZ (show KE (l.take (k+1))=KE (l.take k)^^^KM x.r x.l x.s by rw[V.out,nT]);have HX:=qZ (Eh (KE (l.take k)) (KM x.r x.l x.s) (gH _) (kj _ _ _));generalize KT (l.take k)=D at*;generalize KE (l.take k)=aG at*;have aa:=qZ (show D.length=x.d.length by rw[o,t.1]);have HD:=qZ o;have E:=qZ t;clear o t I
    go_loopw [18] (fun i G=>∃j:Nat,j≤16∧i=.int .i64 j∧G.heap[w.heap.size+1]? =some (.cells (An .u8 (NZ D x.d j)).toArray 35 (0,0))∧G.heap[w.heap.size]? =some (.cells (An .u8 an).toArray 35 (0,0))∧
     G.heap[z.heap.size]? =some (.cells x.v.toArray 62 (0,0))∧jw w.heap.size w G) (fun i _=>16-(l8 i).toNat)
    case atStart=>exact⟨0,by omega,rfl,by rw[vy];omega,X,Z.out,Y⟩
    case round=>
     clear aA X Z Y;obtain⟨j,hj,rfl,b,f,m,g⟩:=hrel;by_cases K:j<16
     · have L:j<D.length:=by rw[HD.out];exact K
       have ab:j<x.d.length:=by rw[E.out.1];exact K
       have aI:=fun w=>nH w E.out.1 j K x.d[j] (fj ab)
       have c1:wr.cell? ⟨w.heap.size+1,j,none⟩=some (.int .u8 (D[j]:Nat)):=by rw[ae b,ly,An,pn,yN aa.out L];rfl
       have f1:=ao b j;have HU:=qZ (AF D[j] x.d[j] (J _ (kk L)) (E.out.2 _ (kk ab)));have HP:=qZ (yM aa.out L);have M:=qZ f;have N:=qZ b;have H2:=qZ m;clear f b m J;generalize D[j]=p at*;generalize x.d[j]=ad at*;have b0:(0:Int)≤(j:Int):=by omega
       have b1:(j:Int)<16:=by omega
       go_wp2
       go_roundw
       case rel=>
        have c:=ar (i:=j) N.out (.int .u8 (bits .xor .u8 (p:Int) (ad:Int)));refine⟨j+1,by omega,by go_num,?_,c.old M.out (by omega),c.old H2.out (by omega),c.below g (by omega)⟩;have h:=c.at_;have he:(An .u8 (NZ D x.d j)).set j (.int .u8 (bits .xor .u8 (p:Int) (ad:Int)))=An .u8 (NZ D x.d (j+1)):=by rw[HU.out,←HP.out];simp only[An,List.map_set]
        simp_all
       case measure=>simp[l8];omega
     · obtain rfl:j=16:=by omega
       rw[yO HD.out E.out.1,←HV.out]at b;obtain⟨aJ,aK,aL,-⟩:=bq E.out.1 m;have M:=qZ f;have N:=qZ b;clear f b m J;go_wp2_with fail;refine(ol _ _ _ _).mono ?_;rintro e O ⟨rfl,rfl⟩;go_wp2
       go_roundw
       case rel=>exact⟨k+1,by omega,by go_num,by rw[HM.out,HX.out],N.out,M.out,g⟩
       case measure=>simp[l8];omega
  · obtain rfl:k=n:=by omega
    rw[jd (by rw[Q.out];omega)]at b⊢;have o:=be (l:=l) fun y q=>(C y q).1
    have u:(hO.info? 35).map (·.size)=some (An .u8 (KT l)).length:=by rw[ah,o];kernel_rfl
    have aB:=qZ (show(An .u8 (KT l)).length=16 by rw[ah,o]);clear o;go_wp2_with (first|(refine ed rfl 35 (.tmp 4) rfl (w.heap.size+1) 0 rfl _ _ (ai b) hX rfl u ?_)|(refine ag rfl 35 (.tmp 2) (.tmp 39) rfl w.heap.size (An .u8 (KT l)) rfl rfl 35 _ f u (by rw[aB.out];rfl) (av _ _) ?_;intro w6 ak));refine hZ (v:=.tuple #[.agg (An .u8 (KT l)).toArray,.int .u64 (KE l:Int)]) ?_ rfl ⟨rfl,ak.below g (by omega)⟩;rw[aD rfl _ _ _ _ _ _ _ rfl ak.at_ hX rfl u];rfl
end
section
theorem KX.owner{w:ek}{B g:Nat}{r:Option Nat}{l:List Bool}(h:KX w B g r l):∀k,r=some k→B≤k:=by
 obtain⟨c,v,e,f,b⟩:=h;intro k i;exact(b.lt k (by simp_all)).1
theorem KX.base{w:ek}{B g:Nat}{r:Option Nat}{l:List Bool}(h:KX w B g r l):B≤g:=h.1
theorem KX.blk{w:ek}{B g:Nat}{r:Option Nat}{l:List Bool}(h:KX w B g r l):g<w.heap.size:=by
 obtain⟨b,v,c,e,f⟩:=h;grind
end
section
def Kp:List Nat:=jI 32 0
theorem bf{P:List Nat}(h:P.length=32):(hO.info? 55).map (·.size)=some (An .u8 P).length:=by rw[ah,h];rfl
theorem qJ:(hO.info? 5).map (·.size)=some 1:=by rfl
theorem KX.below{w w':ek}{B g:Nat}{r:Option Nat}{l:List Bool}(h:KX w B g r l)(hb:jw w.heap.size w w'):KX w' B g r l:=
 h.keep (Kj.Mj (S:=fun _=>False) hb) id fun _ _=>id
theorem KX.upd{w b:ek}{B g:Nat}{r:Option Nat}{l:List Bool}(h:KX w B g r l){G:Nat}{o:Obj}(c:Upd G o w b)(i:G<B):KX b B g r l:=
 h.keep (c.keep (S:=fun k=>k=G) rfl) (by have:=h.base;omega) fun k f e=>by have:=h.owner k f;omega
theorem kU(G g:Nat)(r:Option Nat)(l:List Bool)(u V:Int)(w:ek)(b:KX w G g r l)(j:0≤u)(q:1≤V)(t:V≤64)(k:u.toNat<2^V.toNat)(m:l.length+V.toNat≤4096)(h:G≤w.heap.size):
 jt hO 120 #[g,.int .u64 u,V] w fun e c=>e=.returned (.bool true)∧∃f,KX c G g f (l++Ke u.toNat V.toNat)∧jw G w c:=by
 obtain⟨U,rfl⟩:=hG j;obtain⟨K,rfl⟩:=hG (show 0≤V by omega);simp only[jg]at*;refine(th G g r l U K w b (by omega) (by omega) k m h).mono ?_;rintro e c ⟨rfl,f,n,z,o⟩;refine⟨rfl,f,n,o.below h ?_⟩;rintro i (rfl|p)
 · exact b.base
 · exact b.owner i p.symm
theorem jj{d:List Nat}{r l s k b o m:Int}(h:K0 d r l s k b o m=true):0≤r∧r<256∧0≤l∧l<65536∧0≤s∧s<1099511627776∧1≤k∧k≤2∧0≤b∧b<16∧0≤o∧o<8∧0≤m∧m<256:=by
 unfold K0 OW MW at h;simp only[Bool.and_eq_true,Bool.or_eq_true,xR,decide_eq_true_eq,beq_iff_eq]at h;have c:=dQ (m:=m) (by omega);omega
def OC(b o m k:Int)(j:Nat):List Bool:=match j with
 |0=> []
 |1=>Ke b.toNat 8
 |2=>Ke b.toNat 8++Ke o.toNat 8
 |3=>Ke b.toNat 8++(Ke o.toNat 8++Ke m.toNat 8)
 |_=>Ke b.toNat 8++(Ke o.toNat 8++(Ke m.toNat 8++Ke k.toNat 8))
theorem Upd.QM{g:Nat}{o:Obj}{w b:ek}(h:Upd g o w.drew b):Upd g o w b:=⟨h.os,h.tape,h.output,h.size,h.at_,h.block⟩
theorem gk{B:Nat}{w b:ek}(h:jw B w.drew b):jw B w b:=⟨h.os,h.tape,h.output,h.size,h.block⟩
theorem AS{d:List Nat}(b:d.length=16):px (An .u8 Kp) 0 (An .u8 d)=An .u8 (d++an):=by
 unfold px;rw[List.take_zero,qa,ah,b];simp[An,Kp,an]
theorem AR{d x y z:List Nat}(b:d.length=16)(c:x.length=12)(e:y.length=12):px (An .u8 (d++(y++z))) 16 (An .u8 x)=An .u8 (d++(x++z)):=by
 unfold px;rw[ah,c]
 have e1:(An .u8 (d++(y++z))).take 16=An .u8 d:=by
  simp only[An,js];simp_all
 have e2:(An .u8 (d++(y++z))).drop (16+12)=An .u8 z:=by
  rw[show An .u8 (d++(y++z))=An .u8 (d++y)++An .u8 z by simp[An]];have f:(An .u8 (d++y)).length=16+12:=by rw[ah,ej,b,e]
  simp_all
 rw[e1,e2];simp[An]
theorem AQ{d x y:List Nat}(c:d.length=16)(b:x.length=16)(e:y.length=16):px (An .u8 (d++y)) 16 (An .u8 x)=An .u8 (d++x):=by
 unfold px;rw[ah,b]
 have e1:(An .u8 (d++y)).take 16=An .u8 d:=by
  simp only[An,js];simp_all
 have e2:(An .u8 (d++y)).drop (16+16)=[]:=kr (by rw[ah,ej];omega);rw[e1,e2];simp[An]
theorem pU{w:ek}{base:Nat}{e:qc}{g c n:Nat}{b:List o4}(h:w.ownsRow base e 1 (.slice (some ⟨g,0,none⟩) n c) n b):w.rangeAt g 0 b:=by
 intro j v f;have:=h.cells (g:=g) rfl j v f;rwa [Addr.add_mid]at this
theorem EC{w:ek}{g:Nat}{d H z:List Nat}{t:qc}{fr:Nat×Nat}(h:w.heap[g]? =some (.cells (An .u8 (d++(H++z))).toArray t fr))(b:d.length=16)(c:H.length=12):Rd w w.heap.size (some ⟨g,0,none⟩) 28 (An .u8 (d++H)):=
 gD (C:=w.heap.size) (bN h [] (An .u8 (d++H)) (An .u8 z) (by simp[An]) 0 rfl) (show _=28 by rw[ah,ej,b,c]) (af h)
theorem Di(w:ek)(B:Nat)(b:B≤w.heap.size):KX (w.alloc (.cells #[.slice none 0 0,.int .i64 0] 206)) B w.heap.size none []:=
 ⟨b,.slice none 0 0,rfl,l5 _ _,World.ownsRow_nil _ _ _ _⟩
theorem GC(d:List Nat)(r l s k b o m:Int)(w:ek)(f:d.length=16)(j:∀x∈d,x<256)(g:K0 d r l s k b o m=false):
 jt hO 75 #[.agg (shV d r l s k b o m).toArray] w fun e n=>e=.returned (.tuple #[.agg (An .u8 Kp).toArray,.bool false])∧jw w.heap.size w n:=by
 have p:=aQ d f r l s k b o m;have q:=qZ g;clear g;go_enter func75, ntmps75;go_wp2_with (first|(refine ed rfl 62 (.tmp 1) rfl w.heap.size 0 rfl _ _ (ai (i5 _ _ _ _)) eD rfl p ?_));refine(bW d r l s k b o m _ f j).mono ?_;rw[q.out];rintro e h ⟨rfl,c⟩;have t:h.heap[w.heap.size+1]? =some (.cells (An .u8 Kp).toArray 55 (0,0)):=aa (gS _ _ _ _) c;have u:h.heap[w.heap.size+1+1]? =some (.cells (An .u8 Kp).toArray 55 (0,0)):=aa (aj _ _ _ (by simp)) c;have z:=(ij _ _ _ _).trans (c.mono (ij _ _ _ _).size);clear c;go_wp2_with (first|(refine ed rfl 55 (.tmp 4) rfl (w.heap.size+1+1) 0 rfl _ _ (ai u) fo rfl (bf rfl) ?_)|(refine ag rfl 55 (.tmp 2) (.tmp 11) rfl (w.heap.size+1) (An .u8 Kp) rfl rfl 55 _ t (bf rfl) rfl (av _ _) ?_;intro A i));refine hZ (v:=.tuple #[.agg (An .u8 Kp).toArray,.bool false]) ?_ rfl ⟨rfl,i.below z (by omega)⟩;rw[aD rfl _ _ _ _ _ _ _ rfl i.at_ fo rfl (bf rfl)];rfl
theorem ED(d:List Nat)(r l s k b o m:Int)(w:ek)(c:d.length=16)(hb:∀x∈d,x<256)(Y:K0 d r l s k b o m=true):
 jt hO 75 #[.agg (shV d r l s k b o m).toArray] w fun e f=>e=.returned (.tuple #[.agg (An .u8 (Lo d r l s k b o m)).toArray,.bool true])∧jw w.heap.size w f:=by
 have hV:=aQ d c r l s k b o m;have HM:=qZ Y;obtain⟨r0,D,l0,l1,s0,s1,k0,k1,b0,b1,o0,o1,m0,m1⟩:=jj Y;clear Y;go_enter func75, ntmps75;go_wp2_with (first|(refine ed rfl 62 (.tmp 1) rfl w.heap.size 0 rfl _ _ (ai (i5 _ _ _ _)) eD rfl hV ?_));refine(bW d r l s k b o m _ c hb).mono ?_;rw[HM.out];rintro e q ⟨rfl,L⟩;have g:q.heap[w.heap.size]? =some (.cells (shV d r l s k b o m).toArray 62 (0,0)):=aa (i5 _ _ _ _) L;have p:q.heap[w.heap.size+1]? =some (.cells (An .u8 Kp).toArray 55 (0,0)):=aa (gS _ _ _ _) L;have i:q.heap[w.heap.size+1+1]? =some (.cells (An .u8 Kp).toArray 55 (0,0)):=aa (aj _ _ _ (by simp)) L;have n:=(ij _ _ _ _).trans (L.mono (ij _ _ _ _).size);clear L;go_upto_region 5 with fail
 have B:=Di q q.heap.size (r4 _);have g:=am g (.cells #[.slice none 0 0,.int .i64 0] 206);have p:=am p (.cells #[.slice none 0 0,.int .i64 0] 206);have g2:=af i;have i:=am i (.cells #[.slice none 0 0,.int .i64 0] 206);have n:=n.alloc n.size (.cells #[.slice none 0 0,.int .i64 0] 206);have t:q.heap.size≤(q.alloc (.cells #[.slice none 0 0,.int .i64 0] 206)).heap.size:=by simp
 generalize a3:q.alloc (.cells #[.slice none 0 0,.int .i64 0] 206)=w6 at*;clear a3;generalize q.heap.size=G at*;obtain⟨Z,ab,ad,ae,ak,al,ao⟩:=bq c g;go_wp2_with fail;refine(ol _ _ _ _).mono ?_;rintro e f ⟨rfl,rfl⟩;go_wp2_with fail;have bh:=kj r l s;refine(kU G G none [] _ _ _ B (by omega) (by omega) (by omega) (by simp_all) (by simp) t).mono ?_;rintro e w7 ⟨rfl,r7,aq,E⟩;clear Z ab ad ae ak al ao B;have C:([]:List Bool)++Ke ((KM r l s:Int)).toNat ((64:Int)).toNat=Ke (KM r l s) 64++OC b o m k 0:=rfl;rw[C]at aq;clear C;have ar:=(E.block _ (by omega)).trans g;have aC:=(E.block _ (by omega)).trans p;have aE:=(E.block _ g2).trans i;have aF:=n.trans (E.mono (by omega));have aG:=lx t E.size;clear g p i n E t;clear g p i n;obtain⟨Z,ab,ad,ae,ak,al,ao⟩:=bq c ar;have H0:=qZ ar;have H1:=qZ aC;have H2:=qZ aE;clear ar aC aE;go_wp2_with fail;clear Z ab ad ae ak al ao
 go_loopw [32] (fun au wr=>∃(j:Nat) (I:Option Nat),j≤4∧au=.int .i64 j∧KX wr G G I (Ke (KM r l s) 64++OC b o m k j)∧wr.heap[w.heap.size]? =some (.cells (shV d r l s k b o m).toArray 62 (0,0))∧
  wr.heap[w.heap.size+1]? =some (.cells (An .u8 Kp).toArray 55 (0,0))∧wr.heap[w.heap.size+1+1]? =some (.cells (An .u8 Kp).toArray 55 (0,0))∧jw w.heap.size w wr∧G≤wr.heap.size) (fun au _=>4-(l8 au).toNat)
 case atStart=>exact⟨0,r7,by omega,rfl,aq,H0.out,H1.out,H2.out,aF,aG⟩
 case round=>
  clear aq H0 H1 H2 aF aG;obtain⟨j,D,hj,rfl,B,g,p,i,n,t⟩:=hrel;by_cases aH:j=4
  · subst aH
    have aI:=iX g;go_wp2_with fail;go_region_law (refine dA rfl (.tmp 40) (.tmp 42) 128 128 rfl 5 underlying128 qJ (some ⟨w.heap.size+1+1,0,none⟩) (some ⟨w.heap.size,0,none⟩) 32 32 16 16 (by go_simp) (by go_simp) (w.heap.size+1+1) 0 (An .u8 Kp) 55 i (An .u8 d) (by rw[ah,c];rfl) (fun _=>⟨rfl,_,_,rfl,aI⟩) (by rw[ah,ah,c];decide) (av _ _) ?_;intro w8 u;replace u:=u.QM)
    as_aux_lemma=>
     have aw:=u.at_;have aJ:=u.old p (by omega);have O:=B.upd u g2;have ax:=u.below n (by omega);have a4:=lx t (Nat.le_of_eq u.size.symm);rw[AS c]at aw;have aK:=fV r l s k b o m;have P:=qZ aK;change KX w8 G G D (Ng r l s k b o m)at O;clear B g p i n u aI t aK;go_wp2_with fail
     go_region_law (first
      |(go_simp;go_at_call 122;refine(fT G G D _ _ (show KX w8.drew G G D _ from O) (by rw[P.out];omega)).mono ?_;rintro e w9 ⟨v9,rfl,Q,z⟩;replace z:=gk z;rw[P.out]at Q;obtain⟨g9,c9,rfl,q1,q2,q3,q4⟩:=aS Q (by decide);have aL:=aa aw z;have aM:=pU Q)
      |(refine dA rfl (.tmp 44) (.tmp 46) 128 128 rfl 5 underlying128 qJ (some ⟨w.heap.size+1+1,16,none⟩) (some ⟨g9,0,none⟩) 16 16 12 c9 (by go_simp) (by go_simp) (w.heap.size+1+1) 16 _ 55 aL (An .u8 (NX r l s k b o m)) (by rw[ah,dj];rfl) (fun _=>⟨rfl,_,_,rfl,aM⟩) (by rw[ah,ah,dj,ej,c];decide) (av _ _) ?_;intro a5 J))
     have R:=J.at_;have a6:=z.size;have aN:=J.old (aa aJ z) (by omega);have aO:=(O.below z).upd J g2;have aP:=J.below (ax.trans (z.mono ax.size)) (by omega);have az:G≤a5.heap.size:=by rw[J.size];omega
     rw[show d++an=d++(jI 12 0++jI 4 0) by rfl,AR c (dj r l s k b o m) (by simp)]at R;have hh:=dj r l s k b o m;have a7:=tX r l s k b o m;generalize hH:NX r l s k b o m=H at*;have HH:=qZ hH;clear hH;have aR:=EC R c hh;have aT:=iD d H hb a7;have bj:kof (d++H)<4294967296:=rj _ _ (by decide) aT;clear J aw aJ O ax a4 Q aM aL z a6;go_wp2_with (go_at_call 123;refine(xM _ _ _ _ _ _ aR aT (by unfold maxLen;omega)).mono ?_;rintro e f ⟨rfl,rfl⟩);refine(kU G G D _ _ _ _ aO (by omega) (by omega) (by omega) (by simp_all) (by rw[P.out];decide) az).mono ?_;rintro e aU ⟨rfl,aA,S,M⟩;have aV:=(M.block _ (by omega)).trans R;have aW:=(M.block _ (by omega)).trans aN;have aB:=aP.trans (M.mono (by omega));have a8:=lx az M.size;simp only[jg]at S;have aX:=qZ (show(Ng r l s k b o m++Ke (kof (d++H)) 32).length=128 by rfl);change KX aU G G aA (Ng r l s k b o m++Ke (kof (d++H)) 32)at S;clear aR aO R aN aP az M;go_wp2_with fail
     have HB:=qZ (show KG (Ng r l s k b o m++Ke (kof (d++H)) 32)=H++OS (d++H) by
      rw[wG _ _ (by rw[P.out]) (by rw[ay]),←HH.out];rfl)
     have T:=qZ (show(H++OS (d++H)).length=16 by rw[ej,hh,m9]);have HP:=qZ (show Lo d r l s k b o m=d++(H++OS (d++H)) by rw[Lo,HH.out,List.append_assoc]);have U:=qZ (df c r l s k b o m);generalize Ng r l s k b o m++Ke (kof (d++H)) 32=bk at*
     go_region_law (first
      |(go_simp;go_at_call 122;refine(fT G G aA _ _ (show KX aU.drew G G aA _ from S) (by rw[aX.out];omega)).mono ?_;rintro e bl ⟨bm,rfl,V,K⟩;replace K:=gk K;rw[aX.out,HB.out]at V;obtain⟨a9,ba,rfl,q5,q6,q7,q8⟩:=aS V (by decide);have aY:=aa aV K;have aZ:=pU V)
      |(refine dA rfl (.tmp 53) (.tmp 55) 128 128 rfl 5 underlying128 qJ (some ⟨w.heap.size+1+1,16,none⟩) (some ⟨a9,0,none⟩) 16 16 16 ba (by go_simp) (by go_simp) (w.heap.size+1+1) 16 _ 55 aY (An .u8 (H++OS (d++H))) (by rw[ah,T.out];rfl) (fun _=>⟨rfl,_,_,rfl,aZ⟩) (by rw[ah,ah,T.out,ej,ej,c,hh];decide) (av _ _) ?_;intro bn W))
     have a0:=W.at_;rw[AQ c T.out (by simp_all),←HP.out]at a0;have bb:=W.old (aa aW K) (by omega);have bc:=W.below (aB.trans (K.mono aB.size)) (by omega);clear W aY aZ V K aV aW S aB a8 HB T HP;go_wp2_with (first|(refine ed rfl 55 (.tmp 4) rfl (w.heap.size+1+1) 0 rfl _ _ (ai a0) fo rfl (bf U.out) ?_)|(refine ag rfl 55 (.tmp 2) (.tmp 57) rfl (w.heap.size+1) (An .u8 (Lo d r l s k b o m)) rfl rfl 55 _ bb (bf U.out) (by rw[ah,U.out];rfl) (av _ _) ?_;intro bo a1));refine hZ (v:=.tuple #[.agg (An .u8 (Lo d r l s k b o m)).toArray,.bool true]) ?_ rfl ⟨rfl,a1.below bc (by omega)⟩;rw[aD rfl _ _ _ _ _ _ _ rfl a1.at_ fo rfl (bf U.out)];rfl
  · have a2:∀x:Int,0≤x→x<256→Ke (KM r l s) 64++OC b o m k j++Ke x.toNat 8=Ke (KM r l s) 64++OC b o m k (j+1)→∀X:ek,X=wr→jt hO 120 #[G,.int .u64 x,.int .i64 8] X fun e f=>e=.returned (.bool true)∧∃I,KX f G G I (Ke (KM r l s) 64++OC b o m k (j+1))∧f.heap[w.heap.size]? =some (.cells (shV d r l s k b o m).toArray 62 (0,0))∧
     f.heap[w.heap.size+1]? =some (.cells (An .u8 Kp).toArray 55 (0,0))∧f.heap[w.heap.size+1+1]? =some (.cells (An .u8 Kp).toArray 55 (0,0))∧jw w.heap.size w f∧G≤f.heap.size:=by
     rintro x x0 x1 C X rfl
     have bp:(Ke (KM r l s) 64++OC b o m k j).length≤1000:=by
      rw[ej,ay]
      have:(OC b o m k j).length≤32:=by
       rcases(show j=0∨j=1∨j=2∨j=3 by omega)with rfl|rfl|rfl|rfl<;>simp[OC,ay]
      omega
     refine(kU G G D _ x 8 X B x0 (by omega) (by omega) (by simp_all) (by omega) t).mono ?_;rintro e f ⟨rfl,I,bd,N⟩;refine⟨rfl,I,?_,(N.block _ (by omega)).trans g,(N.block _ (by omega)).trans p,(N.block _ (by omega)).trans i,n.trans (N.mono (by omega)),lx t N.size⟩;rw[←C];exact bd
    obtain⟨x,x0,x1,C,br⟩:∃x:Int,0≤x∧x<256∧Ke (KM r l s) 64++OC b o m k j++Ke x.toNat 8=Ke (KM r l s) 64++OC b o m k (j+1)∧∀w,(kd 209 (.agg #[b,o,m,k]) (.int .i64 (j:Int))).run hO w=.ok (.int .i64 x) w:=by
     rcases(show j=0∨j=1∨j=2∨j=3 by omega)with rfl|rfl|rfl|rfl
     · exact⟨b,b0,by omega,by rfl,fun _=>by rfl⟩
     · exact⟨o,o0,by omega,by rfl,fun _=>by rfl⟩
     · exact⟨m,m0,m1,by rfl,fun _=>by rfl⟩
     · exact⟨k,by omega,by omega,by rfl,fun _=>by rfl⟩
    have bg:=qZ (a2 x x0 x1 C);have bs:(j:Int)<4:=by omega
    clear a2 B g p i n C aH;go_wp2_with fail;refine(bg.out _ rfl).mono ?_;rintro e f ⟨rfl,I,hp⟩;go_wp2_with fail;go_roundw
    case rel=>grind
    case measure=>simp[l8];omega
def Om(d:List Nat)(r l s k b o m:Int):List Nat:=if K0 d r l s k b o m then Lo d r l s k b o m else Kp
theorem iq(d:List Nat)(r l s k b o m:Int)(w:ek)(c:d.length=16)(f:∀x∈d,x<256):
 jt hO 75 #[.agg (shV d r l s k b o m).toArray] w fun e h=>e=.returned (.tuple #[.agg (An .u8 (Om d r l s k b o m)).toArray,.bool (K0 d r l s k b o m)])∧jw w.heap.size w h:=by
 unfold Om;cases g:K0 d r l s k b o m with
 |false=>exact GC d r l s k b o m w c f g
 |true=>exact ED d r l s k b o m w c f g
end
theorem ycc{A:Prop}(h:A:=by
 refine bodyPost_ret (v:=.tuple #[.agg (shV an 0 0 0 0 0 0 0).toArray,.int .i64 1]) ?_ rfl ⟨by rw[HE.out],hU8.below hbel7 (by omega)⟩;rw[aD rfl _ _ _ _ _ _ _ rfl hU8.at_ underlying62 rfl (aQ _ rfl _ _ _ _ _ _ _)];rfl):A:=h
section
theorem au{P:Program}{g:Array Oper}{rest:List Oper}{c:Oper}{a:Act}{w:ek}{Q:Exit→Act→ek→Prop}(e:qc)(x:Operand)(j:c.op=.load e x)(b i:Nat)(k:a.eval x=.pointer (some ⟨b,i,none⟩))(l:Region.wanted c (yielded g a.tmps)=true)(f:List o4)(d:TypeDesc)(m:w.rangeAt b i f)(n:P.underlying e=some d)(o:d.isRow=true)(p:(P.info? e).map (·.size)=some f.length)(h:wpList P g Q rest (a.put c.dst (.agg f.toArray)) w):wpList P g Q (c::rest) a w:=by
 unfold wpList;rw[if_pos l];exact .inl (wp_load_mid e x j b i k f d m n o p h)
theorem ug:flat hO 4 55 =some (jI 32 (Kd.int .u8)):=by rfl
theorem De:Og hO 4 55 =true:=by rfl
theorem BX(w:ek)(a b:List Nat)(c:∀x∈a,x<256)(e:∀x∈b,x<256)(la:a.length=32)(lb:b.length=32):
 (binOp .neq 55 (.agg (An .u8 a).toArray) (.agg (An .u8 b).toArray)).run hO w=.ok (.bool (!(a==b))) w:=by
 have f:=cK a c;have g:=cK b e;rw[la]at f;rw[lb]at g;rw[jV w ug De (by kernel_rfl) (by decide) f g,kw c e (by omega)]
theorem Dc(w:ek)(a b:List Nat)(c:∀x∈a,x<256)(e:∀x∈b,x<256)(la:a.length=32)(lb:b.length=32):
 (binOp .eql 55 (.agg (An .u8 a).toArray) (.agg (An .u8 b).toArray)).run hO w=.ok (.bool (a==b)) w:=by
 have f:=cK a c;have g:=cK b e;rw[la]at f;rw[lb]at g;rw[dR w ug De (by kernel_rfl) (by decide) f g,kw c e (by omega)]
theorem y6{P:List Nat}(h:P.length=32):px (shV an 0 0 0 0 0 0 0) 0 (An .u8 (P.take 16))=shV (P.take 16) 0 0 0 0 0 0 0:=by
 have b:(P.take 16).length=16:=by rw[kn];omega
 obtain⟨d0,d1,d2,d3,d4,d5,d6,d7,d8,d9,d10,d11,d12,d13,d14,d15,c⟩:=eO b;rw[c];rfl
theorem vt{w:ek}{g:Nat}{P:List Nat}{t:qc}{fr:Nat×Nat}(n:Nat)(h:w.heap[g]? =some (.cells (An .u8 P).toArray t fr)):w.rangeAt g 0 (An .u8 (P.take n)):=
 bN h [] (An .u8 (P.take n)) (An .u8 (P.drop n)) (by rw[qa];simp only[An,←js,l4]) 0 rfl
theorem xq{w:ek}{g C n m:Nat}{P:List Nat}{t:qc}{fr:Nat×Nat}(h:w.heap[g]? =some (.cells (An .u8 P).toArray t fr))(c:n≤P.length)(e:P.length-n=m)(b:g<C):Rd w C (some ⟨g,n,none⟩) m (An .u8 (P.drop n)):=
 gD (bN h (An .u8 (P.take n)) (An .u8 (P.drop n)) [] (by rw[pz];simp only[An,←js,l4]) n (by rw[ah,kn];omega)) (by rw[ah,py];omega) b
def OM(P:List Nat)(j:Nat):List o4:=shV (P.take 16) (rR P) (rL P) (rS P) (if 4≤j then rK P else 0) (if 1≤j then rB P else 0) (if 2≤j then rO P else 0) (if 3≤j then L7 P else 0)
theorem fQ{d:List Nat}(c:d.length=16)(r l s k b o m x:Int):(shV d r l s k b o m).set 16 (.int .i64 x)=shV d x l s k b o m∧(shV d r l s k b o m).set 17 (.int .i64 x)=shV d r x s k b o m∧(shV d r l s k b o m).set 18 (.int .i64 x)=shV d r l x k b o m∧
 (shV d r l s k b o m).set 19 (.int .i64 x)=shV d r l s x b o m∧(shV d r l s k b o m).set 20 (.int .i64 x)=shV d r l s k x o m∧(shV d r l s k b o m).set 21 (.int .i64 x)=shV d r l s k b x m∧(shV d r l s k b o m).set 22 (.int .i64 x)=shV d r l s k b o x:=by
 obtain⟨d0,d1,d2,d3,d4,d5,d6,d7,d8,d9,d10,d11,d12,d13,d14,d15,rfl⟩:=eO c;exact⟨rfl,rfl,rfl,rfl,rfl,rfl,rfl⟩
theorem NW.upd{w b:ek}{C g:Nat}{l:List Nat}{a:Nat}(h:NW w C g l a){G:Nat}{o:Obj}(e:Upd G o w b)(f:g≠G)(i:C≤G):NW b C g l a:=by
 obtain⟨A,c,j,k,m⟩:=h;exact⟨A,c,e.old j f,e.rd k i,m⟩
theorem xU(C g:Nat)(P:List Nat)(at_:Nat)(V:Int)(w:ek)(c:NW w C g (P.drop 16) at_)(i:P.length=32)(f:∀x∈P,x<256)(j:1≤V)(l:V≤64)(m:at_+V.toNat≤128):
 jt hO 73 #[g,V] w fun e b=>e=.returned (.tuple #[.int .u64 (fld P (128+at_) V.toNat:Int),.bool true])∧NW b C g (P.drop 16) (at_+V.toNat)∧Kj (fun k=>k=g) w b:=by
 obtain⟨K,rfl⟩:=hG (show 0≤V by omega);simp only[jg]at*;have n:(P.drop 16).length=16:=by rw[py];omega
 have h:=xS C g (P.drop 16) at_ K w c (r8 f _) (by omega) (by omega) (by omega) (by omega);rw[wB]at h;exact h
def NV(P:List Nat):Bool:=K0 (P.take 16) (rR P) (rL P) (rS P) (rK P) (rB P) (rO P) (L7 P)&&(fld P 224 32==kof (P.take 28))
def Oo(P:List Nat):List o4:=if NV P then OM P 4 else shV an 0 0 0 0 0 0 0
def Kh(P:List Nat):Int:=if NV P then 0 else 1
theorem fH(P:List Nat)(w:ek)(hP:P.length=32)(E:∀x∈P,x<256):
 jt hO 35 #[.agg (An .u8 P).toArray] w fun e k=>e=.returned (.tuple #[.agg (Oo P).toArray,.int .i64 (Kh P)])∧jw w.heap.size w k:=by
 have aA:(P.take 16).length=16:=by rw[kn];omega
 have l:=qZ hP;have g:=qZ aA;clear hP aA;go_enter func35, ntmps35;go_upto_region 2 with fail
 have p:=i5 w (.cells (An .u8 P).toArray 55) (.cells (shV an 0 0 0 0 0 0 0).toArray 62) (.cells (shV an 0 0 0 0 0 0 0).toArray 62);have t:=gS w (.cells (An .u8 P).toArray 55) (.cells (shV an 0 0 0 0 0 0 0).toArray 62) (.cells (shV an 0 0 0 0 0 0 0).toArray 62);have c:=aj ((w.alloc (.cells (An .u8 P).toArray 55)).alloc (.cells (shV an 0 0 0 0 0 0 0).toArray 62)) (.cells (shV an 0 0 0 0 0 0 0).toArray 62) (w.heap.size+1+1) (by simp);have u:=ij w (.cells (An .u8 P).toArray 55) (.cells (shV an 0 0 0 0 0 0 0).toArray 62) (.cells (shV an 0 0 0 0 0 0 0).toArray 62);change Code.wp _ _ _ _ (((w.alloc (.cells (An .u8 P).toArray 55)).alloc (.cells (shV an 0 0 0 0 0 0 0).toArray 62)).alloc (.cells (shV an 0 0 0 0 0 0 0).toArray 62));generalize ((w.alloc (.cells (An .u8 P).toArray 55)).alloc (.cells (shV an 0 0 0 0 0 0 0).toArray 62)).alloc (.cells (shV an 0 0 0 0 0 0 0).toArray 62)=w1 at*;have aB:=vt 16 p;go_region_law (refine dA rfl (.tmp 15) (.tmp 16) 128 128 rfl 5 underlying128 qJ (some ⟨w.heap.size+1+1,0,none⟩) (some ⟨w.heap.size,0,none⟩) 16 16 32 32 (by go_simp) (by go_simp) (w.heap.size+1+1) 0 (shV an 0 0 0 0 0 0 0) 62 c (An .u8 (P.take 16)) (by rw[ah,g.out];rfl) (fun _=>⟨rfl,_,_,rfl,aB⟩) (by rw[ah,g.out,Bd];decide) (av _ _) ?_;intro w2 z;replace z:=z.QM)
 have V:=z.at_;rw[y6 l.out]at V;have al:=z.old p (by omega);have aC:=z.old t (by omega);have aq:=z.below u (by omega);have aF:=xq (n:=16) (m:=16) (C:=w.heap.size+1) al (by rw[l.out];decide) (by rw[l.out]) (by omega);have a5:=af V;have q:=qZ aF;clear p t c u aB z aF;go_wp2_with fail;refine(dH _ _ _ _ _ _ q (by omega)).mono ?_;rintro e w3 ⟨rfl,H,O⟩;have aG:=aa V O;have aH:=aa aC O;have aI:=aa al O;have aJ:=aq.trans (O.mono aq.size);generalize w2.heap.size=G at*;clear V aC al aq O q;go_wp2_with fail;have I:jt hO 73 #[G,.int .i64 64] w3 fun e k=>e=.returned (.tuple #[.int .u64 (rM P:Int),.bool true])∧NW k (w.heap.size+1) G (P.drop 16) 64∧Kj (fun aw=>aw=G) w3 k:=xU _ _ _ _ _ _ H l E (by omega) (by omega) (by decide)
 refine I.mono ?_;rintro e w4 ⟨rfl,aK,Q⟩;have J:=bE aG Q (by omega);have aL:=bE aH Q (by omega);have aM:=bE aI Q (by omega);have aN:=aJ.trans (Q.below (B:=w.heap.size) (by grind) (fun i hi=>by omega));have hM:=Gi l;clear I aG aH aI aJ H Q;go_wp2_with fail;refine(kf _ _ (by omega) (by omega)).mono ?_;rintro e k ⟨rfl,rfl⟩;have f16:=ao J 16;have f17:=ao J 17;have f18:=ao J 18;obtain⟨aV,aW,aX,-⟩:=bq g J;go_wp2_with fail;have K:=ar (i:=16) J (.int .i64 (KQ (rM P:Int)));have L:=ar (i:=17) K.at_ (.int .i64 (LB (rM P:Int)));have M:=ar (i:=18) L.at_ (.int .i64 (LC (rM P:Int)));have ax:=M.at_;rw[(fQ g.out _ _ _ _ _ _ _ _).1,(fQ g.out _ _ _ _ _ _ _ _).2.1,(fQ g.out _ _ _ _ _ _ _ _).2.2.1]at ax;have aY:=M.old (L.old (K.old aL (by omega)) (by omega)) (by omega);have aZ:=M.old (L.old (K.old aM (by omega)) (by omega)) (by omega);have a0:=((aK.upd K (by omega) (by omega)).upd L (by omega) (by omega)).upd M (by omega) (by omega);have a1:=M.below (L.below (K.below aN (by omega)) (by omega)) (by omega);change (((w4.setCell _ _).setCell _ _).setCell _ _).heap[w.heap.size+1+1]? =some (.cells (OM P 0).toArray 62 (0,0))at ax;clear K L M aV aW aX f16 f17 f18 J aL aM aK aN;generalize ((w4.setCell ⟨w.heap.size+1+1,16,none⟩ (.int .i64 (KQ (rM P:Int)))).setCell ⟨w.heap.size+1+1,17,none⟩ (.int .i64 (LB (rM P:Int)))).setCell ⟨w.heap.size+1+1,18,none⟩ (.int .i64 (LC (rM P:Int)))=w5 at*
 go_loopw [39] (fun i wr=>∃j:Nat,j≤4∧i=.int .i64 j∧wr.heap[w.heap.size+1+1]? =some (.cells (OM P j).toArray 62 (0,0))∧wr.heap[w.heap.size+1]? =some (.cells (shV an 0 0 0 0 0 0 0).toArray 62 (0,0))∧
  wr.heap[w.heap.size]? =some (.cells (An .u8 P).toArray 55 (0,0))∧NW wr (w.heap.size+1) G (P.drop 16) (64+8*j)∧jw w.heap.size w wr) (fun i _=>4-(l8 i).toNat)
 case atStart=>grind
 case round=>
  clear ax aY aZ a0 a1;obtain⟨j,hj,rfl,c,t,p,H,u⟩:=hrel;by_cases a2:j=4
  · subst a2
    clear H;have W:=aQ (P.take 16) g (rR P) (rL P) (rS P) (rK P) (rB P) (rO P) (L7 P);change wr.heap[w.heap.size+1+1]? =some (.cells (shV (P.take 16) (rR P) (rL P) (rS P) (rK P) (rB P) (rO P) (L7 P)).toArray 62 (0,0))at c;go_wp2_with (first|(refine ed rfl 62 (.tmp 4) rfl (w.heap.size+1+1) 0 rfl _ _ (ai c) eD rfl W ?_));refine(iq _ _ _ _ _ _ _ _ _ g (jO E 16)).mono ?_;rintro e f ⟨rfl,R⟩;have r:=aa c R;have X:=aa t R;have Y:=aa p R;have o:=u.trans (R.mono u.size);clear c t p u R;have n0:w.heap.size≠f.heap.size:=by have:=af Y;omega
    have n1:w.heap.size+1≠f.heap.size:=by have:=af X;omega
    have n2:w.heap.size+1+1≠f.heap.size:=by have:=af r;omega
    unfold Om;cases Z:K0 (P.take 16) (rR P) (rL P) (rS P) (rK P) (rB P) (rO P) (L7 P)with
    |false=>
     have HE:=qZ (show(gg (.tuple #[.agg (Oo P).toArray,.int .i64 (Kh P)]))=gg (.tuple #[.agg (shV an 0 0 0 0 0 0 0).toArray,.int .i64 1]) by unfold Oo Kh NV;simp_all);clear Z;go_wp2_with (first|(refine ag rfl 55 (.tmp 12) (.tmp 55) rfl f.heap.size (An .u8 Kp) rfl rfl 55 _ (aj f _ _ rfl) (bf rfl) rfl (av _ _) ?_;intro w7 b;have S:=b.old (am X _) n1;have ay:=b.old (am r _) n2;have ab:=b.old (am Y _) n0;have ad:=b.at_;have hbel7:=b.below (o.alloc o.size _) o.size)|(refine ac rfl 62 _ rfl _ rfl _ cR ?_)|(refine ag rfl 62 (.tmp 2) (.tmp 64) rfl (w.heap.size+1) (shV an 0 0 0 0 0 0 0) rfl rfl 62 _ S (aQ _ rfl _ _ _ _ _ _ _) rfl (aE _ _ _ _ _ _ _ _) ?_;intro w8 hU8));exact ycc
    |true=>
     have hp:=tp l E;have ak:=df g (rR P) (rL P) (rS P) (rK P) (rB P) (rO P) (L7 P);have aO:=jY (jO E 16) (rR P) (rL P) (rS P) (rK P) (rB P) (rO P) (L7 P);simp only[if_true];have aP:=fun w=>BX w _ P aO E ak l
     have hQ:=bf ak;have aR:=qZ ak;clear ak aO;have aS:=bf l;cases D:fld P 224 32==kof (P.take 28)with
     |false=>
      have HE:=qZ (show(gg (.tuple #[.agg (Oo P).toArray,.int .i64 (Kh P)]))=gg (.tuple #[.agg (shV an 0 0 0 0 0 0 0).toArray,.int .i64 1]) by unfold Oo Kh NV;simp_all);have T:(Lo (P.take 16) (rR P) (rL P) (rS P) (rK P) (rB P) (rO P) (L7 P)==P)=false:=by rw[beq_eq_false_iff_ne];intro e;rw[beq_eq_false_iff_ne]at D;exact D (hp.1 e)
      rw[T]at aP;clear Z D hp T;generalize Lo (P.take 16) (rR P) (rL P) (rS P) (rK P) (rB P) (rO P) (L7 P)=pg at*;go_wp2_with (first|(refine ag rfl 55 (.tmp 12) (.tmp 55) rfl f.heap.size (An .u8 pg) rfl rfl 55 _ (aj f _ _ rfl) hQ (by rw[ah,aR.out];rfl) (av _ _) ?_;intro w7 b;have S:=b.old (am X _) n1;have ay:=b.old (am r _) n2;have ab:=b.old (am Y _) n0;have ad:=b.at_;have hbel7:=b.below (o.alloc o.size _) o.size)|(refine au 55 (.tmp 12) rfl f.heap.size 0 rfl rfl _ _ (ai ad) fo rfl hQ ?_)|(refine au 55 (.tmp 1) rfl w.heap.size 0 rfl rfl _ _ (ai ab) fo rfl aS ?_)|(refine ac rfl 62 _ rfl _ rfl _ cR ?_)|(refine ag rfl 62 (.tmp 2) (.tmp 64) rfl (w.heap.size+1) (shV an 0 0 0 0 0 0 0) rfl rfl 62 _ S (aQ _ rfl _ _ _ _ _ _ _) rfl (aE _ _ _ _ _ _ _ _) ?_;intro w8 hU8));exact ycc
     |true=>
      have HE:=qZ (show(gg (.tuple #[.agg (Oo P).toArray,.int .i64 (Kh P)]))=gg (.tuple #[.agg (shV (P.take 16) (rR P) (rL P) (rS P) (rK P) (rB P) (rO P) (L7 P)).toArray,.int .i64 0]) by unfold Oo Kh NV;rw[Z,D];rfl);have T:(Lo (P.take 16) (rR P) (rL P) (rS P) (rK P) (rB P) (rO P) (L7 P)==P)=true:=by rw[beq_iff_eq]at D⊢;exact hp.2 D
      rw[T]at aP;clear Z D hp T;generalize Lo (P.take 16) (rR P) (rL P) (rS P) (rK P) (rB P) (rO P) (L7 P)=pg at*;have a3:=qZ (bc g (rR P) (rL P) (rS P) (rK P) (rB P) (rO P) (L7 P));go_wp2_with (first|(refine ag rfl 55 (.tmp 12) (.tmp 55) rfl f.heap.size (An .u8 pg) rfl rfl 55 _ (aj f _ _ rfl) hQ (by rw[ah,aR.out];rfl) (av _ _) ?_;intro w7 b;have S:=b.old (am X _) n1;have ay:=b.old (am r _) n2;have ab:=b.old (am Y _) n0;have ad:=b.at_;have hbel7:=b.below (o.alloc o.size _) o.size)|(refine au 55 (.tmp 12) rfl f.heap.size 0 rfl rfl _ _ (ai ad) fo rfl hQ ?_)|(refine au 55 (.tmp 1) rfl w.heap.size 0 rfl rfl _ _ (ai ab) fo rfl aS ?_)|(refine ed rfl 62 (.tmp 4) rfl (w.heap.size+1+1) 0 rfl _ _ (ai ay) eD rfl W ?_)|(refine ag rfl 62 (.tmp 2) (.tmp 65) rfl (w.heap.size+1) (shV (P.take 16) (rR P) (rL P) (rS P) (rK P) (rB P) (rO P) (L7 P)) rfl rfl 62 _ S W (by rw[a3.out];rfl) (aE _ _ _ _ _ _ _ _) ?_;intro w8 hU8));refine hZ (v:=.tuple #[.agg (shV (P.take 16) (rR P) (rL P) (rS P) (rK P) (rB P) (rO P) (L7 P)).toArray,.int .i64 0]) ?_ rfl ⟨by rw[HE.out],hU8.below hbel7 (by omega)⟩;rw[aD rfl _ _ _ _ _ _ _ rfl hU8.at_ eD rfl W];rfl
  · obtain⟨off,a6,a7,aT⟩:∃off:Nat,off<23∧(∀k,(kd 137 (.agg #[.pointer (some ⟨w.heap.size+1+1,20,none⟩),.pointer (some ⟨w.heap.size+1+1,21,none⟩),.pointer (some ⟨w.heap.size+1+1,22,none⟩),.pointer (some ⟨w.heap.size+1+1,19,none⟩)]) (.int .i64 (j:Int))).run hO k=.ok (.pointer (some ⟨w.heap.size+1+1,off,none⟩)) k)∧
     (OM P j).set off (.int .i64 (fld P (192+8*j) 8:Int))=OM P (j+1):=by
     have hs:=fQ g;rcases(show j=0∨j=1∨j=2∨j=3 by omega)with rfl|rfl|rfl|rfl
     · exact⟨20,by decide,fun _=>by rfl,(hs ..).2.2.2.2.1⟩
     · exact⟨21,by decide,fun _=>by rfl,(hs ..).2.2.2.2.2.1⟩
     · exact⟨22,by decide,fun _=>by rfl,(hs ..).2.2.2.2.2.2⟩
     · exact⟨19,by decide,fun _=>by rfl,(hs ..).2.2.2.1⟩
    have e1:128+(64+8*j)=192+8*j:=by omega
    have I:=xU _ _ _ _ 8 _ H l E (by omega) (by omega) (by omega);rw[e1]at I;have C2:jt hO 73 #[G,.int .i64 8] wr fun e k=>e=.returned (.tuple #[.int .u64 (fld P (192+8*j) 8:Int),.bool true])∧NW k (w.heap.size+1) G (P.drop 16) (64+8*j+8)∧Kj (fun aw=>aw=G) wr k:=I
    have hx:=CU P (192+8*j) 8 (by rw[l.out];omega);have HS:=qZ aT;have HC:=qZ C2;have H2:=qZ c;have H1:=qZ t;have H0:=qZ p;clear e1 I C2 aT c t p H;generalize fld P (192+8*j) 8=x at*;have a8:(j:Int)<4:=by omega
    have a9:(x:Int)<256:=by omega
    go_wp2_with fail;refine HC.mono ?_;rintro e f ⟨rfl,aU,U⟩;have c:=bE H2 U (by omega);have a4:(OM P j).length=23:=bc g _ _ _ _ _ _ _;obtain⟨az,hz⟩:∃az,(OM P j)[off]? =some az:=⟨_,fj (by omega)⟩;have c6:f.cell? ⟨w.heap.size+1+1,off,none⟩=some az:=by rw[ae c,ly,hz]
    have f6:=ao c off;have N:=ar (i:=off) c (.int .i64 (x:Int));have r:=N.at_;rw[HS.out]at r;have q:=qZ (And.intro r (And.intro (N.old (bE H1 U (by omega)) (by omega)) (And.intro (N.old (bE H0 U (by omega)) (by omega)) (And.intro (aU.upd N (by omega) (by omega)) (N.below (u.trans (U.below (B:=w.heap.size) (by have:=af H2;omega) (fun i hi=>by omega))) (by omega))))));clear r N c aU U a4 hz;go_wp2_with fail;go_roundw
    case rel=>exact⟨j+1,by omega,by go_num,q.1,q.2.1,q.2.2.1,by have:=q.out.2.2.2.1;omega,q.2.2.2.2⟩
    case measure=>simp[l8];omega
end
section
theorem wO(x:Nat)(w:ek):jt hO 290 #[.int .u8 (x:Int)] w fun e b=>e=.returned (.bool ((x:Int) !=255))∧w=b:=by
 go_enter func290, ntmps290;go_wp2
 go_ret;exact⟨rfl,rfl⟩
def QT(w:ek)(e:Ending)(b:ek):Prop:=∃i:Nat,i≤1000∧e=.returned (.int .i64 (i:Int))∧w=b
theorem vP(A:Option Addr)(n c B:Nat)(l:List Nat)(w:ek)(f:Rd w B A n (An .u8 l))(t:n≤1000)(h:∀x∈l,x=255):
 jt hO 301 #[.slice A n c,.func (.func 290) #[] #[]] w fun e g=>e=.returned (.int .i64 (-1))∧w=g:=by
 have j:l.length=n:=by have:=f.1;rwa [ah]at this
 have q:=qZ j;clear j;go_enter func301, ntmps301;go_wp2
 go_loop [8] (fun i=>∃k:Nat,k≤n∧i=.int .i64 k) (fun i=>n-(l8 i).toNat)
 case atStart=>exact⟨0,by omega,rfl⟩
 case round=>
  obtain⟨k,u,rfl⟩:=hrel;by_cases m:k<n
  · have p:k<l.length:=by rw[q.out];exact m
    obtain⟨b,o,rfl,z,r⟩:=f.at_ m;rw[mS .u8 l k p,h _ (kk p)]at r;have C:(k:Int)<(n:Int):=by omega
    go_wp2_with fail;refine(wO 255 _).mono ?_;rintro e g ⟨rfl,rfl⟩;go_wp2
    go_round
    case rel=>exact⟨k+1,by omega,by go_num⟩
    case measure=>simp[l8];omega
  · obtain rfl:k=n:=by omega
    exact ydv
theorem vO(A:Option Addr)(n c B:Nat)(l:List Nat)(w:ek)(g:Rd w B A n (An .u8 l))(H:n≤1000)(h:¬∀x∈l,x=255):
 jt hO 301 #[.slice A n c,.func (.func 290) #[] #[]] w (QT w):=by
 have m:l.length=n:=by have:=g.1;rwa [ah]at this
 have p:=qZ m;clear m;go_enter func301, ntmps301;go_wp2
 go_loop [8] (fun i=>∃k:Nat,k≤n∧i=.int .i64 k∧∀j (hj:j<l.length),j<k→l[j]=255) (fun i=>n-(l8 i).toNat)
 case atStart=>exact⟨0,by omega,rfl,fun _ _ h=>by omega⟩
 case round=>
  obtain⟨k,I,rfl,q⟩:=hrel;have r:=qZ q;clear q;by_cases t:k<n
  · have C:k<l.length:=by rw[p.out];exact t
    obtain⟨b,o,rfl,J,u⟩:=g.at_ t;rw[mS .u8 l k C]at u;have K:(k:Int)<(n:Int):=by omega
    have L:=qZ h;clear h;by_cases f:l[k]=255
    · rw[f]at u
      have D:=qZ f;clear f;go_wp2_with fail;refine(wO 255 _).mono ?_;rintro e E ⟨rfl,rfl⟩;go_wp2
      go_round
      case rel=>exact⟨k+1,by omega,by go_num,fun j hj h=>by
       rcases Nat.lt_or_ge j k with z|z
       · exact r.out j hj z
       · obtain rfl:j=k:=by omega
         exact D.out⟩
      case measure=>simp[l8];omega
    · have G:((l[k]:Int) !=255)=true:=by rw[bne_iff_ne];omega
      generalize l[k]=x at*;clear f;go_wp2_with fail;refine(wO x _).mono ?_;rw[G];rintro e E ⟨rfl,rfl⟩;go_wp2
      go_ret;exact⟨k,by omega,rfl,rfl⟩
  · obtain rfl:k=n:=by omega
    exact absurd (fun x f=>by obtain⟨j,hj,rfl⟩:=List.getElem_of_mem f;exact r.out j hj (by rw[←p.out];exact hj)) h
def Oe(P:List Nat):Bool:=P.all (· ==255)
theorem pd(A:Option Addr)(n c B:Nat)(l:List Nat)(w:ek)(g:Rd w B A n (An .u8 l))(j:n≤1000):
 jt hO 289 #[.slice A n c,.func (.func 290) #[] #[]] w fun e b=>e=.returned (.bool (!Oe l))∧w=b:=by
 by_cases h:∀x∈l,x=255
 · have f:=qZ (show Oe l=true by unfold Oe;simpa using h)
   rw[f.out];have H:=qZ h;clear h;go_enter func289, ntmps289;go_wp2_with fail;refine(vP _ _ _ _ _ _ g j H.out).mono ?_;rintro e b ⟨rfl,rfl⟩;go_wp2
   go_ret;exact⟨rfl,rfl⟩
 · have f:=qZ (show Oe l=false by
    unfold Oe;rw[Bool.eq_false_iff];intro e;exact h (by simpa using e))
   rw[f.out];have H:=qZ h;clear h;go_enter func289, ntmps289;go_wp2_with fail;refine(vO _ _ _ _ _ _ g j H.out).mono ?_;rintro e b ⟨i,k,rfl,rfl⟩;go_wp2
   go_ret;exact⟨by simp,rfl⟩
theorem qA(P:List Nat)(w:ek)(k:P.length=32):
 jt hO 286 #[.agg (An .u8 P).toArray] w fun e c=>e=.returned (.bool (Oe P))∧jw w.heap.size w c:=by
 have f:=l5 w (.cells (An .u8 P).toArray 55);have g:=qZ (xq (n:=0) (m:=32) (C:=w.heap.size+1) f (by omega) (by omega) (by omega));have i:=(Below.refl _ w).alloc (r4 _) (.cells (An .u8 P).toArray 55);rw[List.drop_zero]at g;clear f;generalize h:Oe P=b;have j:=qZ h;clear h;go_enter func286, ntmps286;go_wp2_with fail;refine(pd _ _ _ _ _ _ g.out (by decide)).mono ?_;rw[j.out];rintro e c ⟨rfl,rfl⟩;go_wp2
 go_ret;exact⟨by simp,i⟩
end
end Go.Proofs.YtlkpfnjdbgeifaaGreat
