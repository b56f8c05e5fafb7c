import Derived.Deep.DeepCutAuto
import Derived.Deep.MidRow
import Derived.Laws.Tables
import Derived.Test.YtlkpfnjdbgeifaaGreatFGeo
import Derived.Test.YtlkpfnjdbgeifaaGreatFFlatEq
set_option maxRecDepth 100000
set_option maxHeartbeats 2000000
open List renaming getElem?_toArray→ed,getElem?_append_right→ek,replicate→eD,map_cons→fo
open Go renaming World→ej,heap_alloc_new→fj,Value→gg,wp_load_mid→hO,Calls→hX
open Nat renaming le_refl→eX,zero_add→hG
namespace Go.Proofs.YtlkpfnjdbgeifaaGreat
open Go.Proofs.Tryz
open Go.RowKit
section
theorem ol(r l s:Int)(w:ej):hX prog 121 #[.int .i64 r,.int .i64 l,.int .i64 s] w fun e b=>e=.returned (.int .u64 (KM r l s:Int))∧w=b:=by
 have H:=qZ (ze r l s);go_enter func121, ntmps121;exact I4
theorem kf(m:Int)(w:ej)(b:0≤m)(c:m<18446744073709551616):hX prog 74 #[.int .u64 m] w fun e f=>e=.returned (.tuple #[.int .i64 (KQ m),.int .i64 (LB m),.int .i64 (LC m)])∧w=f:=by
 have H:=qZ (xB m b c);clear b c;go_enter func74, ntmps74;go_wp2
 go_ret3
 exact⟨by rw[←H.out.1,←H.out.2.1,←H.out.2.2];rfl,rfl⟩
def inB(n b:Int):Bool:=decide (0≤n)&&decide (n≤b)
theorem dN(n b:Int)(w:ej):hX prog 185 #[.int .i64 n,.int .i64 b] w fun e f=>e=.returned (.bool (inB n b))∧w=f:=by
 unfold inB;by_cases h:0≤n
 · by_cases c:n≤b
   · go_enter func185, ntmps185
     go_wp2
     go_ret;exact⟨by simp[h,c],rfl⟩
   · go_enter func185, ntmps185
     go_wp2
     go_ret;exact⟨by simp[c],rfl⟩
 · go_enter func185, ntmps185
   go_wp2
   go_ret;exact⟨by simp;omega,rfl⟩
end
theorem Is{A:Prop}(h:A:=by
 go_enter func186, ntmps186;go_wp2_with (refine wpList_load_mid rfl 35 (.tmp 4) rfl w.heap.size 0 rfl _ _ hR underlying35 rfl (by rw[ah,hd];kernel_rfl) ?_);go_ret;exact⟨rfl,hbel⟩):A:=h
theorem ydi{A:Prop}(h:A:=by
 have oa:=cK a ha;have ob:=cK b hb;rw[la]at oa;rw[lb]at ob;rw[dR w uh Df (by kernel_rfl) (by decide) oa ob,kw ha hb (by omega)]):A:=h
section
def shV(d:List Nat)(r l s k b o m:Int):List gg:=An .u8 d++[.int .i64 r,.int .i64 l,.int .i64 s,.int .i64 k,.int .i64 b,.int .i64 o,.int .i64 m]
theorem bc{d:List Nat}(h:d.length=16)(r l s k b o m:Int):(shV d r l s k b o m).length=23:=by simp[shV,An,h]
def an:List Nat:=eD 16 0
def Qp(d:List Nat):Bool:=d==an
theorem iX{w:ej}{g:Nat}{d:List Nat}{r l s k b o m:Int}{t:TypeId}(h:w.heap[g]? =some (.cells (shV d r l s k b o m).toArray t (0,0))):w.rangeAt g 0 (An .u8 d):=by
 intro j v c;rw[hG,ae h,shV,ed,List.getElem?_append_left (List.getElem?_eq_some_iff.1 c).1];exact c
theorem bq{w:ej}{g:Nat}{d:List Nat}{r l s k b o m:Int}{t:TypeId}(c:d.length=16)(h:w.heap[g]? =some (.cells (shV d r l s k b o m).toArray t (0,0))):
 w.cell? ⟨g,16,none⟩=some (.int .i64 r)∧w.cell? ⟨g,17,none⟩=some (.int .i64 l)∧w.cell? ⟨g,18,none⟩=some (.int .i64 s)∧w.cell? ⟨g,19,none⟩=some (.int .i64 k)∧w.cell? ⟨g,20,none⟩=some (.int .i64 b)∧w.cell? ⟨g,21,none⟩=some (.int .i64 o)∧w.cell? ⟨g,22,none⟩=some (.int .i64 m):=by
 have f:(An .u8 d).length=16:=by rw[ah,c]
 have e:∀i,w.cell? ⟨g,16+i,none⟩=([.int .i64 r,.int .i64 l,.int .i64 s,.int .i64 k,.int .i64 b,.int .i64 o,.int .i64 m]:List gg)[i]? :=by
  intro i;rw[ae h,shV,ed,ek (by omega),f,Nat.add_sub_cancel_left]
 exact⟨e 0,e 1,e 2,e 3,e 4,e 5,e 6⟩
def Ru:List Kd:=eD 16 (Kd.int .u8)
theorem uh:flat prog 4 35 =some Ru:=by kernel_rfl
theorem Df:Og prog 4 35 =true:=by kernel_rfl
theorem cK:∀(d:List Nat),(∀x∈d,x<256)→Ku (eD d.length (Kd.int .u8)) (An .u8 d)=true
 |[],_=>rfl
 |x::d,h=>by
  have b:=cK d fun y c=>h y (by simp[c])
  have e:=h x (by simp);rw[List.length_cons,List.replicate_succ];simp only[An,fo,Ku,Kd.ok,Bool.and_eq_true,beq_self_eq_true,true_and];refine⟨?_,b⟩;simp[Lit.wf,IntKind.min,IntKind.max,IntKind.bits,IntKind.signed];omega
theorem kh{k:IntKind}:∀{a b:List Nat},An k a=An k b↔a=b
 |[],[]=>by simp[An]
 |[],_::_=>by simp[An]
 |_::_,[]=>by simp[An]
 |x::a,y::b=>by
  have:=kh (k:=k) (a:=a) (b:=b);simp only[An,fo,List.cons.injEq,Value.int.injEq,true_and]at*;rw[this];constructor
  · rintro ⟨e,c⟩;exact⟨by omega,c⟩
  · rintro ⟨e,c⟩;exact⟨by omega,c⟩
theorem kw{a b:List Nat}(e:∀x∈a,x<256)(f:∀x∈b,x<256)(g:a.length=b.length):lEq (An .u8 a) (An .u8 b)=(a==b):=by
 have h:=cK a e;have c:=cK b f;rw[←g]at c;rw[Bool.eq_iff_iff,ri h c,kh,beq_iff_eq]
theorem oS(w:ej)(a b:List Nat)(ha:∀x∈a,x<256)(hb:∀x∈b,x<256)(la:a.length=16)(lb:b.length=16):
 (binOp .eql 35 (.agg (An .u8 a).toArray) (.agg (An .u8 b).toArray)).run prog w=.ok (.bool (a==b)) w:=by
 exact ydi
def MS(d:List Nat)(r l s:Int):Bool:=if r=1 then true else if r=2∨r=4 then Qp d else if r=3 then Qp d&&(l==0&&s==0)else false
theorem ik:∀x∈an,x<256:=by unfold an;simp
theorem i9(d:List Nat)(r l s k b o m:Int)(w:ej)(hd:d.length=16)(t:∀x∈d,x<256):
 hX prog 186 #[.agg (shV d r l s k b o m).toArray] w fun e u=>e=.returned (.bool (MS d r l s))∧Below w.heap.size w u:=by
 have j:=fj w (.cells (shV d r l s k b o m).toArray 62);obtain⟨H,I,J,z,B,C,D⟩:=bq hd j;have hR:=iX j;clear j;have K:∀w,(binOp .eql 35 (.agg (An .u8 d).toArray) (.agg #[.int .u8 0,.int .u8 0,.int .u8 0,.int .u8 0,.int .u8 0,.int .u8 0,.int .u8 0,.int .u8 0,.int .u8 0,.int .u8 0,.int .u8 0,.int .u8 0,.int .u8 0,.int .u8 0,.int .u8 0,.int .u8 0])).run prog w=.ok (.bool (Qp d)) w:=fun w=>oS w d an t ik hd rfl
 have hbel:=(Below.refl _ w).alloc (eX _) (.cells (shV d r l s k b o m).toArray 62);clear z B C D;generalize q:Qp d=N at*;have n:=qZ q;clear q;by_cases c:r=1
 · have E:=qZ (show MS d r l s=true by unfold MS;rw[if_pos c])
   rw[E.out];subst c;exact Is
 · have t1:(r==1)=false:=by simpa using c
   by_cases f:r=2
   · have E:=qZ (show MS d r l s=N by unfold MS;rw[if_neg c,if_pos (.inl f)];exact n.out)
     rw[E.out];subst f;exact Is
   · have t2:(r==2)=false:=by simpa using f
     by_cases g:r=4
     · have E:=qZ (show MS d r l s=N by unfold MS;rw[if_neg c,if_pos (.inr g)];exact n.out)
       rw[E.out];subst g;exact Is
     · have t4:(r==4)=false:=by simpa using g
       by_cases i:r=3
       · have E:=qZ (show MS d r l s=(N&&(l==0&&s==0)) by unfold MS;rw[if_neg c,if_neg (by omega),if_pos i,n.out])
         rw[E.out];subst i;cases N
         · clear t1 t2 t4 c f g
           exact Is
         · by_cases p:l=0
           · subst p
             clear t1 t2 t4 c f g;go_enter func186, ntmps186;go_wp2_with (refine wpList_load_mid rfl 35 (.tmp 4) rfl w.heap.size 0 rfl _ _ hR underlying35 rfl (by rw[ah,hd];kernel_rfl) ?_);go_ret;exact⟨by simp,hbel⟩
           · have G:(l==0)=false:=by simpa using p
             rw[G];clear t1 t2 t4 c f g p;exact Is
       · have t3:(r==3)=false:=by simpa using i
         have E:=qZ (show MS d r l s=false by unfold MS;rw[if_neg c,if_neg (by omega),if_neg i]);rw[E.out];clear c f i g;exact Is
end
theorem yd8{A:Prop}(h:A:=by
 go_wp2_with fail;go_ret;exact⟨by simp,hbel⟩):A:=h
section
def OW(b o m:Int):Bool:=inB b 15&&(inB o 7&&decide (2≤Ky m))
def MW(r l s:Int):Bool:=inB s 1099511627775&&(inB l 65535&&inB r 255)
def K0(d:List Nat)(r l s k b o m:Int):Bool:=(OW b o m&&MW r l s)&&(k==2 ||(k==1&&MS d r l s))
theorem mF{f:Array Oper}{rest:List Oper}{c:Oper}{a:Act}{w:ej}{Q:Exit→Act→ej→Prop}(x:Operand)(g:c.op=.load 62 x)(b:Nat)(i:a.eval x=.pointer (some ⟨b,0,none⟩))(j:Region.wanted c (yielded f a.tmps)=true){e:List gg}(k:w.rangeAt b 0 e)(l:(prog.info? 62).map (·.size)=some e.length)(h:wpList prog f Q rest (a.put c.dst (.agg e.toArray)) w):wpList prog f Q (c::rest) a w:=by
 unfold wpList;rw[if_pos j];exact .inl (hO 62 x g b 0 i e _ k underlying62 rfl l h)
theorem bW(d:List Nat)(r l s k b o m:Int)(w:ej)(t:d.length=16)(G:∀x∈d,x<256):
 hX prog 119 #[.agg (shV d r l s k b o m).toArray] w fun e f=>e=.returned (.bool (K0 d r l s k b o m))∧Below w.heap.size w f:=by
 have u:=fj w (.cells (shV d r l s k b o m).toArray 62);obtain⟨T,U,V,W,X,Y,Z⟩:=bq t u;have hbel:=(Below.refl _ w).alloc (eX _) (.cells (shV d r l s k b o m).toArray 62)
 have H:(w.alloc (.cells (shV d r l s k b o m).toArray 62)).rangeAt w.heap.size 0 (shV d r l s k b o m):=by
  intro j v O;rw[hG,ae u,ed];exact O
 have z:=qZ t;have P:=qZ G;clear u t G;unfold K0;generalize I:OW b o m=J;generalize K:MW r l s=L;generalize M:MS d r l s=EB;have B:=qZ I;have C:=qZ K;have Q:=qZ M;clear I K M;generalize N:w.alloc (.cells (shV d r l s k b o m).toArray 62)=p at*;have HW:=qZ N;go_enter func119, ntmps119;go_upto_region 1 with fail
 clear N;go_cut [3] (fun v D=>v=.bool J∧D=p)
 case first=>
  cases i:inB b 15
  · have c:=qZ i
    clear i;go_wp2_with fail;refine(dN _ _ _).mono ?_;rw[c.out];rintro e f ⟨rfl,rfl⟩;go_wp2_with fail;go_meet
    exact⟨by rw[←B.out,OW,c.out];rfl,rfl⟩
  · have c:=qZ i
    clear i;cases n:inB o 7
    · have g:=qZ n
      clear n;go_wp2_with fail;refine(dN _ _ _).mono ?_;rw[c.out];rintro e f ⟨rfl,rfl⟩;go_wp2_with fail;refine(dN _ _ _).mono ?_;rw[g.out];rintro e f ⟨rfl,rfl⟩;go_wp2_with fail;go_meet
      exact⟨by rw[←B.out,OW,c.out,g.out];rfl,rfl⟩
    · have g:=qZ n
      clear n;go_wp2_with fail;refine(dN _ _ _).mono ?_;rw[c.out];rintro e f ⟨rfl,rfl⟩;go_wp2_with fail;refine(dN _ _ _).mono ?_;rw[g.out];rintro e f ⟨rfl,rfl⟩;go_wp2_with fail;refine(cE _ _).mono ?_;rintro e f ⟨rfl,rfl⟩;go_wp2_with fail;go_meet
      exact⟨by rw[←B.out,OW,c.out,g.out];simp,rfl⟩
 case rest=>
  obtain⟨rfl,rfl⟩:=hcut;obtain⟨p,rfl⟩:∃x:ej,x=wc:=⟨_,rfl⟩;go_upto_region 2 with fail
  go_cut [4] (fun v D=>v=.bool L∧D=p)
  case first=>
   cases i:inB s 1099511627775
   · have c:=qZ i
     clear i;go_wp2_with fail;refine(dN _ _ _).mono ?_;rw[c.out];rintro e f ⟨rfl,rfl⟩;go_wp2_with fail;go_meet
     exact⟨by rw[←C.out,MW,c.out];rfl,rfl⟩
   · have c:=qZ i
     clear i;cases n:inB l 65535
     · have g:=qZ n
       clear n;go_wp2_with fail;refine(dN _ _ _).mono ?_;rw[c.out];rintro e f ⟨rfl,rfl⟩;go_wp2_with fail;refine(dN _ _ _).mono ?_;rw[g.out];rintro e f ⟨rfl,rfl⟩;go_wp2_with fail;go_meet
       exact⟨by rw[←C.out,MW,c.out,g.out];rfl,rfl⟩
     · have g:=qZ n
       clear n;go_wp2_with fail;refine(dN _ _ _).mono ?_;rw[c.out];rintro e f ⟨rfl,rfl⟩;go_wp2_with fail;refine(dN _ _ _).mono ?_;rw[g.out];rintro e f ⟨rfl,rfl⟩;go_wp2_with fail;refine(dN _ _ _).mono ?_;rintro e f ⟨rfl,rfl⟩;go_wp2_with fail;go_meet
       exact⟨by rw[←C.out,MW,c.out,g.out];simp,rfl⟩
  case rest=>
   obtain⟨rfl,rfl⟩:=hcut;obtain⟨p,rfl⟩:∃x:ej,x=wc:=⟨_,rfl⟩;cases J
   · exact yd8
   · cases L
     · exact yd8
     · by_cases q:k=2
       · subst q
         exact yd8
       · have t2:(k==2)=false:=by simpa using q
         by_cases E:k=1
         · subst E
           clear q t2;have tok:True:=trivial;go_wp2_with (first|(rw[if_pos (by rfl)];refine hO 62 (.tmp 1) rfl w.heap.size 0 rfl _ _ H underlying62 rfl (by rw[bc z.out];kernel_rfl) ?_)|(refine mF (.tmp 1) rfl w.heap.size rfl rfl H (by rw[bc z.out];kernel_rfl) ?_));refine(i9 d r l s 1 b o m _ z.out P.out).mono ?_;rw[Q.out];rintro e w2 ⟨rfl,R⟩;have S:=hbel.trans (R.mono hbel.size);go_wp2_with fail;go_ret;exact⟨by simp,S⟩
         · have t1:(k==1)=false:=by simpa using E
           clear E q;go_wp2_with fail;go_ret;exact⟨by simp[t1,t2],hbel⟩
end
theorem I7{A:Prop}(h:A:=by
 obtain⟨d0,d1,d2,d3,d4,d5,d6,d7,d8,d9,d10,d11,d12,d13,d14,d15,rfl⟩:=eO h;kernel_rfl):A:=h
section
theorem eO{d:List Nat}(h:d.length=16):∃d0 d1 d2 d3 d4 d5 d6 d7 d8 d9 d10 d11 d12 d13 d14 d15,d=[d0,d1,d2,d3,d4,d5,d6,d7,d8,d9,d10,d11,d12,d13,d14,d15]:=by
 match d,h with
 |[d0,d1,d2,d3,d4,d5,d6,d7,d8,d9,d10,d11,d12,d13,d14,d15],_=>simp
theorem mE{d:List Nat}(h:d.length=16)(r l s k b o m:Int):
 prog.built 62 [(0,.agg (An .u8 d).toArray),(1,.int .i64 r),(2,.int .i64 l),(3,.int .i64 s),(4,.int .i64 k),(5,.int .i64 b),(6,.int .i64 o),(7,.int .i64 m)]=some (shV d r l s k b o m).toArray:=by
 exact I7
def enV(l s r:Int)(d:List Nat):List gg:=[.int .i64 l,.int .i64 s,.int .i64 r]++An .u8 d
theorem ax{d:List Nat}(h:d.length=16)(l s r:Int):(enV l s r d).length=19:=by simp[enV,An,h]
theorem oU{w:ej}{g:Nat}{d:List Nat}{l s r:Int}{t:TypeId}(h:w.heap[g]? =some (.cells (enV l s r d).toArray t (0,0))):
 w.cell? ⟨g,0,none⟩=some (.int .i64 l)∧w.cell? ⟨g,1,none⟩=some (.int .i64 s)∧w.cell? ⟨g,2,none⟩=some (.int .i64 r)∧w.rangeAt g 3 (An .u8 d):=by
 refine⟨by rw[ae h];rfl,by rw[ae h];rfl,by rw[ae h];rfl,?_⟩;intro j v b;rw[ae h,ed,enV,ek (by simp)];simp_all
theorem sV{b c:ej}{g off:Nat}{e:List gg}(h:b.rangeAt g off e)(i:Below b.heap.size b c):c.rangeAt g off e:=by
 intro j v k;have f:=h j v k;exact(i.cell (p:=⟨g,off+j,none⟩) (World.block_lt_of_cell? b _ f)).trans f
theorem lS{b:ej}{g off:Nat}{c:List gg}(h:b.rangeAt g off c)(o:Obj):(b.alloc o).rangeAt g off c:=
 sV h ((Below.refl _ b).alloc (eX _) o)
theorem cQ{c:ej}{b i:Nat}{v:gg}(h:c.cell? ⟨b,i,none⟩=some v)(o:Obj):(c.alloc o).cell? ⟨b,i,none⟩=some v:=
 ((Below.refl _ c).alloc (eX _) o |>.cell (p:=⟨b,i,none⟩) (World.block_lt_of_cell? c _ h)).trans h
def PI:Obj:=.cells #[.int .u8 0,.int .u8 0,.int .u8 0,.int .u8 0,.int .u8 0,.int .u8 0,.int .u8 0,.int .u8 0,.int .u8 0,.int .u8 0,.int .u8 0,.int .u8 0,.int .u8 0,.int .u8 0,.int .u8 0,.int .u8 0,.int .i64 0,.int .i64 0,.int .i64 0,.int .i64 0,.int .i64 0,.int .i64 0,.int .i64 0] 62
end
section
theorem xR{n t:Int}:inB n t=true↔0≤n∧n≤t:=by simp[inB]
end
end Go.Proofs.YtlkpfnjdbgeifaaGreat
