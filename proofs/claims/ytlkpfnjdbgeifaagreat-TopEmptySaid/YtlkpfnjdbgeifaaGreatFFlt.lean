import Derived.Lib.LazyBuf
import Derived.Test.YtlkpfnjdbgeifaaGreatFNandNew
set_option linter.unusedSimpArgs false
set_option linter.unusedVariables false
set_option maxRecDepth 100000
set_option maxHeartbeats 8000000
open List renaming getElem?_eq_getElem→ed,getElem?_eq_some_iff→ej,replicate→gg,foldl_append→hG,take_of_length_le→hZ,take_succ_eq_append_getElem→jd,foldl_cons→jm,range_succ→js,mem_of_getElem?→jw,range→jI,foldl_nil→kb,eq_nil_of_length_eq_zero→ly,mem_filter→l8,length_replicate→o4,getElem?_eq_none→pn,length_filter_le→ps,mem_of_mem_take→py,getD→pz,take_succ_cons→qa,length_append→qc,take_add_one→r4,mem_range→tr
open Go.RowKit renaming Below→ek,intOf→jg
open Go.Proofs.Tryz renaming prog→eD,underlying261→jt,underlying23→kr,underlying75→lx,func174→z6
open Go renaming World→eX,wpList_load_mid→hO,Value→iP,Addr→px,wp_load_mid→sT,wpList→tm,madeCells→xa,maxLen→y0,TypeId→zl,Oper→z7,undef→z8
open Nat renaming le_refl→fj,le_trans→kk
open Go.RowKit.Below renaming refl→fo
open And renaming intro→hX
open Go.Instr renaming makeFunc→kd,makeSlice→tl,field→zd
open Int renaming eq_ofNat_of_zero_le→kn,toNat_natCast→r2
open Go.Calls renaming quiet_of_same→l4
open Go.Proofs renaming enters_of→l5
open Option renaming map_some→nr
namespace Go.Proofs.YtlkpfnjdbgeifaaGreat
open Go.Proofs.Tryz
open Go.RowKit
theorem yc5{A:Prop}(h:A:=by
 go_wp2_with fail;go_end0
 exact⟨rfl,rfl⟩):A:=h
theorem yex{A:Prop}(h:A:=by
 go_wp2_with fail;go_ret;exact⟨by rw[HR2.out,hIg];rfl,HB4⟩):A:=h
namespace JT
def L3(l:List Flt):List (List iP):=l.map Flt.v
theorem dl:(eD.info? 75).map (·.size)=some 7:=by kernel_rfl
theorem oN:(eD.info? 75).map (fun i=>(i.zero,i.size,i.bytes))=some (some (.agg #[.int .i64 0,.int .i64 0,.int .i64 0,.int .i64 0,.int .i64 0,.int .i64 0,.int .i64 0]),7,56):=by kernel_rfl
theorem kc(f:Flt):∀u∈f.v,u.oneCell'=true:=by
 intro u b;simp[Flt.v]at b;rcases b with rfl|rfl|rfl|rfl|rfl|rfl|rfl<;>rfl
theorem BR(l:List Flt):∀r∈L3 l,∀u∈r,u.oneCell'=true:=by
 intro r b;obtain⟨x,_,rfl⟩:=List.mem_map.1 b;exact kc x
theorem mX{l:List Flt}{k:Nat}{f:Flt}(h:l[k]? =some f):(L3 l)[k]? =some f.v:=by rw[L3,List.getElem?_map,h];rfl
theorem Hx{w:eX}{k:Nat}{f:Flt}{t:zl}{fr:Nat×Nat}(h:w.heap[k]? =some (.cells f.v.toArray t fr)):w.cell? ⟨k,0,none⟩=some (.int .i64 f.at_):=by rw[ae h];rfl
theorem A5{f:Array z7}{rest:List z7}{c:z7}{a:Act}{w:eX}{Q:Exit→Act→eX→Prop}(x:Operand)(g:c.op=.load 23 x)(b i:Nat)(j:a.eval x=.pointer (some ⟨b,i,none⟩))(k:Region.wanted c (yielded f a.tmps)=true){e:List iP}(l:w.rangeAt b i e)(m:(eD.info? 23).map (·.size)=some e.length)(h:tm eD f Q rest (a.put c.dst (.agg e.toArray)) w):tm eD f Q (c::rest) a w:=by
 unfold tm;rw[if_pos k];exact .inl (sT 23 x g b i j e _ l kr rfl m h)
theorem yn{f:Array z7}{rest:List z7}{c:z7}{a:Act}{w:eX}{Q:Exit→Act→eX→Prop}(x:Operand)(g:c.op=.load 52 x)(b i:Nat)(j:a.eval x=.pointer (some ⟨b,i,none⟩))(k:Region.wanted c (yielded f a.tmps)=true){e:List iP}(l:w.rangeAt b i e)(m:(eD.info? 52).map (·.size)=some e.length)(h:tm eD f Q rest (a.put c.dst (.agg e.toArray)) w):tm eD f Q (c::rest) a w:=by
 unfold tm;rw[if_pos k];exact .inl (sT 52 x g b i j e _ l underlying52 rfl m h)
def PD(f:Flt):Bool:=if f.k=5 then decide (0≤f.n)&&(decide (f.n<32)&&(decide (1≤f.x)&&decide (f.x≤255)))else decide (f.n=0)&&decide (f.x=0)
def NT(D B P:Nat)(f:Flt):Bool:=decide (0≤f.at_)&&(decide (1≤f.k)&&(decide (f.k≤5)&&(inG (D:Int) B P f.d f.b f.p&&PD f)))
theorem dX(D B P:Nat)(f:Flt)(w:eX)(ok:D≤6∧B≤16∧P≤8):
 Calls eD 228 #[.agg #[(D:Int),(B:Int),(P:Int)],.agg f.v.toArray] w fun e I=>e=.returned (.bool (NT D B P f))∧ek w.heap.size w I:=by
 have u:=cG w (.cells #[(D:Int),(B:Int),(P:Int)] 23) (.cells f.v.toArray 75);have z:=bu w (.cells #[(D:Int),(B:Int),(P:Int)] 23) (.cells f.v.toArray 75);have g:=aj (w.alloc (.cells #[(D:Int),(B:Int),(P:Int)] 23)) (.cells f.v.toArray 75) (w.heap.size+1) (by simp);have C:=fun w:eX=>jA (D:Int) (B:Int) (P:Int) f.d f.b f.p w (by omega) (by omega) (by omega)
 have J:=qZ C;have j:=qZ u;clear C u;go_enter func228, ntmps228;go_upto_region 1 with fail
 change Code.wp _ _ _ _ ((w.alloc (.cells #[(D:Int),(B:Int),(P:Int)] 23)).alloc (.cells f.v.toArray 75));generalize (w.alloc (.cells #[(D:Int),(B:Int),(P:Int)] 23)).alloc (.cells f.v.toArray 75)=p at*;have c0:=Hx g;have c1:=vW g;have c5:=Hv g;have c6:=Hu g;have q:=ai (cs:=[.int .i64 (D:Int),.int .i64 (B:Int),.int .i64 (P:Int)]) z;have r:=uf g;clear g z;obtain⟨T1,E⟩:∃T1,T1=(decide (0≤f.n)&&(decide (f.n<32)&&(decide (1≤f.x)&&decide (f.x≤255)))):=⟨_,rfl⟩;have i:=qZ E;clear E;go_cut [5] (fun v t=>v=.bool T1∧t=p)
 case first=>
  clear c0 c1 q r;by_cases a1:0≤f.n
  · by_cases a2:f.n<32
    · by_cases n:1≤f.x
      · by_cases a4:f.x≤255
        · go_wp2_with fail
          go_meet
          exact⟨by rw[i.out,decide_eq_true a1,decide_eq_true a2,decide_eq_true n,decide_eq_true a4];rfl,rfl⟩
        · go_wp2_with fail
          go_meet
          exact⟨by rw[i.out,decide_eq_true a1,decide_eq_true a2,decide_eq_true n,decide_eq_false (by omega)];rfl,rfl⟩
      · go_wp2_with fail
        go_meet
        exact⟨by rw[i.out,decide_eq_true a1,decide_eq_true a2,decide_eq_false (by omega)];rfl,rfl⟩
    · go_wp2_with fail
      go_meet
      exact⟨by rw[i.out,decide_eq_true a1,decide_eq_false (by omega)];rfl,rfl⟩
  · go_wp2_with fail
    go_meet
    exact⟨by rw[i.out,decide_eq_false (by omega)];rfl,rfl⟩
 case rest=>
  obtain⟨rfl,rfl⟩:=hcut;obtain⟨p,rfl⟩:∃x:eX,x=wc:=⟨_,rfl⟩;obtain⟨k,G⟩:∃k,k=PD f:=⟨_,rfl⟩;have l:=qZ G;clear G;go_upto_if 26 with fail
  go_cut [5] (fun v t=>v=.bool k∧t=p)
  case first=>
   clear c0 q r;by_cases b:f.k=5
   · have m:=qZ b
     have K:(f.k !=(5:Int))=false:=by rw[b];rfl
     clear b;go_wp2_with fail;go_meet
     exact⟨by rw[l.out,PD,if_pos m.out,i.out],rfl⟩
   · have m:=qZ b
     have N:(f.k==(5:Int))=false:=by simpa using b
     have K:(f.k !=(5:Int))=true:=by simpa using b
     clear b;by_cases a1:f.n=0
     · have L:(f.n==(0:Int))=true:=by simpa using a1
       by_cases a2:f.x=0
       · have c:=qZ (hX a1 a2)
         have M:(f.x==(0:Int))=true:=by simpa using a2
         clear a1 a2;go_wp2_with fail;go_meet
         exact⟨by rw[l.out,PD,if_neg m.out,decide_eq_true c.out.1,decide_eq_true c.out.2];rfl,rfl⟩
       · have c:=qZ (hX a1 a2)
         have M:(f.x==(0:Int))=false:=by simpa using a2
         clear a1 a2;go_wp2_with fail;go_meet
         exact⟨by rw[l.out,PD,if_neg m.out,decide_eq_true c.out.1,decide_eq_false c.out.2];rfl,rfl⟩
     · have c:=qZ a1
       have L:(f.n==(0:Int))=false:=by simpa using a1
       clear a1;go_wp2_with fail;go_meet
       exact⟨by rw[l.out,PD,if_neg m.out,decide_eq_false c.out];rfl,rfl⟩
  case rest=>
   obtain⟨rfl,rfl⟩:=hcut;have o:=qZ (show NT D B P f=(decide (0≤f.at_)&&(decide (1≤f.k)&&(decide (f.k≤5)&&(inG (D:Int) B P f.d f.b f.p&&k)))) by rw[l.out];rfl);clear c5 c6;by_cases a1:0≤f.at_
   · by_cases a2:1≤f.k
     · by_cases n:f.k≤5
       · have HR2:=qZ (show NT D B P f=(inG (D:Int) B P f.d f.b f.p&&k) by rw[o.out,decide_eq_true a1,decide_eq_true a2,decide_eq_true n];rfl)
         go_wp2_with (first|(refine A5 (.tmp 2) rfl w.heap.size 0 rfl (by rfl) q cN ?_)|(refine yn (.tmp 50) rfl (w.heap.size+1) 2 rfl (by rfl) r bL ?_));refine(J _).mono ?_;rintro e O ⟨rfl,H⟩;have HB4:=qZ (j.trans (H.mono j.size));clear H;cases hIg:inG (D:Int) B P f.d f.b f.p with
         |true=>
          exact yex
         |false=>
          exact yex
       · go_wp2_with fail
         go_ret;exact⟨by rw[o.out,decide_eq_true a1,decide_eq_true a2,decide_eq_false (by omega)];rfl,j⟩
     · go_wp2_with fail
       go_ret;exact⟨by rw[o.out,decide_eq_true a1,decide_eq_false (by omega)];rfl,j⟩
   · go_wp2_with fail
     go_ret;exact⟨by rw[o.out,decide_eq_false (by omega)];rfl,j⟩
def OE(l:List Flt):Int:=l.foldl (fun m f=>Mz m f.d) 0
theorem zK{l:List Flt}{k:Nat}{f:Flt}(h:l[k]? =some f):OE (l.take (k+1))=Mz (OE (l.take k)) f.d:=by
 have b:=(ej.1 h).1;have c:=(ej.1 h).2;rw[jd b,c];simp[OE,hG]
theorem FF(l:List Flt)(A:Option px)(n c B:Nat)(w:eX)(f:Rds w B A 7 n (L3 l))(o:B≤w.heap.size)(N:n≤1000000):
 Calls eD 285 #[.slice A n c] w fun e E=>e=.returned (.int .i64 (OE l))∧ek w.heap.size w E:=by
 have p:l.length=n:=by have:=f.1;simpa[L3]using this
 have G:=qZ f;have q:=qZ p;have H:=qZ o;clear f p o;go_enter func285, ntmps285;go_wp2_with fail;go_loopw [3,5,8] (fun m _ i wr=>∃k:Nat,k≤n∧i=.int .i64 k∧m=.int .i64 (OE (l.take k))∧ek w.heap.size w wr) (fun _ _ i _=>n-(jg i).toNat)
 case atStart=>exact⟨0,by omega,rfl,rfl,fo _ _⟩
 case round=>
  obtain⟨k,O,rfl,rfl,b⟩:=hrel;by_cases t:k<n
  · have u:k<l.length:=by rw[q.out];exact t
    obtain⟨x,g⟩:∃x,l[k]? =some x:=⟨_,ed u⟩;obtain⟨I,J,rfl,P,z⟩:=aH (G.below b H) t (r:=x.v) (mX g);have Q:(k:Int)<(n:Int):=by omega
    have K:=qZ (zK g);have C:=qZ b;clear g b u;generalize h:OE (l.take k)=m at*;clear h;go_wp2_with (first|(refine hO rfl 75 (.tmp 10) rfl I (J+k*7) rfl x.v _ z lx rfl dl ?_)|(refine ag rfl 75 (.tmp 5) (.tmp 11) rfl wr.heap.size x.v rfl rfl 75 _ (aj wr _ _ rfl) dl rfl (kc x) ?_;intro R j;have c2:=vV j.at_;have D:=j.below ((fo _ wr).alloc (fj _) _) (fj _);clear j));refine(g8 _ _ _).mono ?_;rintro e S ⟨rfl,rfl⟩;have L:=qZ (C.trans (D.mono C.size));clear D z;go_wp2_with fail;go_roundw
    case rel=>exact⟨k+1,by omega,by go_num,by rw[K.out],L⟩
    case measure=>simp[jg];omega
  · obtain rfl:k=n:=by omega
    have M:=qZ (show OE (l.take k)=OE l by rw[hZ (by rw[q.out];exact fj _)]);generalize h:OE (l.take k)=m at*;clear h;go_wp2_with fail;go_ret;exact⟨by rw[←M.out];rfl,b⟩
theorem wD(A:Option px)(n c B:Nat)(l:List Flt)(w:eX)(hr:Rds w B A 7 n (L3 l))(i:B≤w.heap.size)(r:n≤1000):Calls eD 249 #[.slice A n c] w fun e f=>
 ∃v,e=.returned v∧OwnRows f w.heap.size 75 7 v n (L3 l)∧ek w.heap.size w f:=by
 cases A with
 |some a=>
  have j:=fun W:eX=>Lib.run_eql_slice_nil (P:= eD) W 261 75 (some a) n c 0 0 jt
  have k:OwnRows (w.alloc (.cells #[] 75)) w.heap.size 75 7 (.slice (some ⟨w.heap.size,0,none⟩) 0 0) 0 []:=⟨World.ownsRow_made w #[] 0 (fj _) (by unfold y0;omega) rfl,rfl,by simp⟩;have g:ek w.heap.size w (w.alloc (.cells #[] 75)):=(fo _ _).alloc (fj _) _;have m:Rds (w.alloc (.cells #[] 75)) B (some a) 7 n (L3 l):=hr.below g i;go_enter func249, ntmps249;go_wp2_with (at_builtin;go_must (refine aN rfl (.tmp 5) (.tmp 6) 261 rfl 75 _ 7 56 jt oN rfl (by decide) k g rfl rfl m (BR _) (by unfold y0;omega) (by omega) (by simp) (fj _) ?_));exact yck
 |none=>
  have p:n=0:=by
   exact yb9
  subst p;have q:L3 l=[]:=ly hr.1;rw[q];have j:=fun W:eX=>Lib.run_eql_slice_nil (P:= eD) W 261 75 none 0 c 0 0 jt
  go_enter func249, ntmps249;exact ydm
theorem Fg(A:Option px)(n c:Nat)(b:iP)(w:eX)(g:n≤1):Calls eD 255 #[.slice A n c,.int .i64 0,(n:Int),b] w fun e f=>e=.returned (.tuple #[])∧w=f:=by
 have j:¬(1:Int)<(n:Int):=by omega
 go_enter func255, ntmps255;go_wp2_with fail;go_loopw [8] (fun i wr=>i=.int .i64 1∧wr=w) (fun _ _=>0)
 case atStart=>exact⟨rfl,rfl⟩
 case round=>
  obtain⟨rfl,rfl⟩:=hrel;exact yc5
theorem uY(A:Option px)(n c:Nat)(f:iP)(w:eX)(g:n≤1):Calls eD 248 #[.slice A n c,(n:Int),f] w fun e i=>e=.returned (.tuple #[])∧w=i:=by
 have l:¬(20:Int)≤(n:Int):=by omega
 have m:¬(20:Int)<(n:Int):=by omega
 have j:=qZ (Fg A n c f w g);go_enter func248, ntmps248;go_wp2_with fail;go_loopw [7,8] (fun a b wr=>a=.int .i64 0∧b=.int .i64 20∧wr=w) (fun _ _ _=>0)
 case atStart=>exact⟨rfl,rfl,rfl⟩
 case round=>
  obtain⟨rfl,rfl,rfl⟩:=hrel;go_wp2_with fail;refine j.out.mono ?_;rintro e o ⟨rfl,rfl⟩;go_wp2_with fail;go_loopw [6] (fun a k=>a=.int .i64 20∧k=wr) (fun _ _=>0)
  case atStart=>exact⟨rfl,rfl⟩
  case round=>
   obtain⟨rfl,rfl⟩:=hrel;exact yc5
theorem AU(A:Option px)(n c:Nat)(b:iP)(w:eX)(f:n≤1):
 Calls eD 229 #[.slice A n c,b] w fun e g=>e=.returned (.tuple #[])∧w=g:=by
 have i:=qZ (uY A n c b w f);go_enter func229, ntmps229;go_wp2_with fail;refine i.out.mono ?_;rintro e j ⟨rfl,rfl⟩;exact yc5
end JT
namespace tal
open JT (aC)
theorem Gq{w b:eX}(h:∃n,b=w.drewN n):ek w.heap.size w b:=by
 obtain⟨n,rfl⟩:=h;exact aF (fo _ _) n
section
variable {w:eX}{g lb:Nat}{Y:Ty}
theorem Ak(h:Kb w g lb Y):Calls eD 167 #[g] w fun e i=>e=.returned (.int .i64 (Y.alive:Int))∧∃n,i=w.drewN n:=by
 have m:=JY;have c0:=h.c0;have c4:=h.c4;have b:=uH Y.D h.ok.geo.2.1;have c:=qD _ b.2 _ h.ok.dead;obtain⟨V,f⟩:∃V:Nat,V=2^Y.D-1:=⟨_,rfl⟩;rw[←f]at b c;have j:=qZ (show Y.alive=ML V Y.dead by rw[f];rfl);have k:=qZ b.1;have l:=qZ c;clear h b c f;go_enter func167, ntmps167;go_wp2_with fail;go_quiet ((go_at_call 191;exact l4 ((ng _ _).mono fun _ _ h=>⟨h.1.trans (by rw[k.out]),h.2.symm⟩)))
 go_wp2_with fail;go_ret;exact⟨by rw[j.out,←l.out];rfl,_,rfl⟩
theorem Dk(h:Kb w g lb Y)(n:Nat):Kb (w.drewN n) g lb Y:=⟨h.ok,h.head,h.rows⟩
theorem EX(p:Option px)(b:Int)(w:eX)(f:Calls eD 108 #[.pointer p,b] w fun e c=>e=.returned (.pointer none)∧w=c):Calls eD 106 #[.pointer p,b] w fun e c=>e=.returned (.int .i64 0)∧w=c:=by
 have j:=ey;have k:=ez;have i:=qZ f;clear f;go_enter func106, ntmps106;go_wp2_with fail;refine i.mono ?_;rintro e l ⟨rfl,rfl⟩;exact nj
theorem Cg(h:Kb w g lb Y)(b:Int):Calls eD 106 #[g,b] w fun e l=>e=.returned (.int .i64 (Y.mask b:Int))∧∃n,l=w.drewN n:=by
 by_cases i:b<0∨(Y.B:Int)≤b
 · have e:Y.mask b=0:=by unfold Ty.mask;rw[mW h.ok i]
   rw[e];refine(EX _ b w (jF h b i)).mono ?_;rintro e l ⟨rfl,rfl⟩;exact⟨rfl,0,rfl⟩
 · obtain⟨B,rfl⟩:=kn (show 0≤b by omega)
   have m:B<Y.B:=by omega
   obtain⟨s,f⟩:∃s,Y.sb[B]? =some s:=⟨_,ed (by rw[h.ok.len];exact m)⟩;have t:=qZ (pu h B m);have c:=(h.cell f (j:=1) rfl).1;have k:=qD _ h.ok.alive _ (h.ok.bad s (jw f));have o:=qZ (show Y.mask (B:Int)=ML Y.alive s.bad by unfold Ty.mask;rw[ru f]);have p:=qZ (fun n=>Ak (Dk h n));have z:=bU;have A:=bV;obtain⟨q,r⟩:∃q,q=Y.alive:=⟨_,rfl⟩;rw[←r]at k p o;have u:=qZ k;clear h f i k r;go_enter func106, ntmps106;go_wp2_with fail;refine t.mono ?_;rintro e C ⟨rfl,rfl⟩;go_wp2_with fail;go_quiet ((go_at_call 167;exact Calls.quiet_of (p.out _)))
   go_wp2_with fail;go_ret;exact⟨by rw[o.out,←u.out];rfl,_,rfl⟩
theorem ns(h:Kb w g lb Y)(b:Int):Calls eD 170 #[g,b] w fun e f=>e=.returned (.bool (Y.usable b))∧∃n,f=w.drewN n:=by
 have i:=qZ (Cg h b);obtain⟨sl,c⟩:∃sl,sl=JV (Y.mask b:Int):=⟨_,rfl⟩;have j:=qZ c;have k:=qZ (show Y.usable b=decide (0<sl) by rw[c];rfl);clear h c;go_enter func170, ntmps170;go_wp2_with fail;refine i.out.mono ?_;rintro e l ⟨rfl,n,rfl⟩;go_wp2_with fail;refine(bA _ _).mono ?_;rw[←j.out];rintro e l ⟨rfl,rfl⟩;go_wp2_with fail;go_ret;exact⟨by rw[k.out];rfl,n,rfl⟩
theorem Gl{a:Nat}(b:a<64){d:Int}(c:0≤d)(e:d<6):Mz (a:Int) d=(orN a d:Int)∧orN a d<64:=by
 obtain⟨D,rfl⟩:=kn c;have:=Ed a b D (by omega);unfold orN;rw[r2];exact this
theorem u0(h:Kb w g lb Y)(d:Int):Calls eD 78 #[g,d] w fun e j=>e=.returned (.tuple #[])∧Kb j g lb (Y.Mu d)∧Kj (L1 g lb) w j:=by
 have f:=qZ (ge h d);have c:=h.c4;have ff:=ao h.head 4;cases b:Y.Pp d with
 |false=>
  rw[b]at f;have HF:=qZ (show Kb w g lb (Y.Mu d)∧Kj (L1 g lb) w w by unfold Ty.Mu;rw[b];exact⟨h,Kj.refl _ _⟩);clear h b;go_enter func78, ntmps78;go_wp2_with fail;refine f.mono ?_;exact Iq
 |true=>
  rw[b]at f;have i:=b;unfold Ty.Pp at i;simp at i;obtain⟨k,l⟩:=Gl h.ok.dead i.1 (by have:=h.ok.geo;omega);have m:=qZ k;have HF:=qZ (show Kb (w.setCell ⟨g,4,none⟩ (.int .i64 (orN Y.dead d:Int))) g lb (Y.Mu d)∧Kj (L1 g lb) w (w.setCell ⟨g,4,none⟩ (.int .i64 (orN Y.dead d:Int))) by unfold Ty.Mu;rw[b];exact h.PJ l);clear h b i k l;go_enter func78, ntmps78;go_wp2_with fail;refine f.mono ?_;rintro e w1 ⟨rfl,rfl⟩;go_wp2_with fail;refine(g8 _ _ _).mono ?_;rw[m.out];exact Iq
theorem Im(p:Option px)(d b:Int)(w:eX)(f:Calls eD 108 #[.pointer p,b] w fun e c=>e=.returned (.pointer none)∧w=c):Calls eD 174 #[.pointer p,d,b] w fun e c=>e=.returned (.tuple #[])∧w=c:=by
 have i:=ey;have j:=ez;have HA:=qZ f;clear f;go_enter z6, ntmps174;exact yc1
theorem PU(h:Kb w g lb Y)(d b:Int):Calls eD 174 #[g,d,b] w fun e w'=>e=.returned (.tuple #[])∧Kb w' g lb (Y.Ov d b)∧Kj (L1 g lb) w w':=by
 by_cases k:b<0∨(Y.B:Int)≤b
 · have e:Y.Ov d b=Y:=by
    unfold Ty.Ov;split
    · exact qI h.ok k _
    · rfl
   rw[e];refine(Im _ d b w (jF h b k)).mono ?_;exact yer
 · obtain⟨B,rfl⟩:=kn (show 0≤b by omega)
   have n:B<Y.B:=by omega
   obtain⟨s,i⟩:∃s,Y.sb[B]? =some s:=⟨_,ed (by rw[h.ok.len];exact n)⟩;have o:=qZ (pu h B n);obtain⟨c,ff⟩:=h.cell i (j:=1) rfl;have t:=bU;have z:=bV;have l:=qZ (ge h d);cases f:Y.Pp d with
   |false=>
    rw[f]at l;have HF:=qZ (show Kb w g lb (Y.Ov d (B:Int))∧Kj (L1 g lb) w w by unfold Ty.Ov;rw[f];exact⟨h,Kj.refl _ _⟩);clear h f i k;go_enter z6, ntmps174;go_wp2_with fail;refine o.mono ?_;rintro e w1 ⟨rfl,rfl⟩;go_wp2_with fail;refine l.mono ?_;exact Iq
   |true=>
    rw[f]at l;have m:=f;unfold Ty.Pp at m;simp at m;obtain⟨p,q⟩:=Gl (h.ok.bad s (jw i)) m.1 (by have:=h.ok.geo;omega);have r:=qZ p;have e:Y.Ov d (B:Int)={Y with sb:=Y.sb.set B {s with bad:=orN s.bad d}}:=by unfold Ty.Ov;rw[f];exact uP i _
    have HF:=qZ (h.set i (j:=1) (u:=.int .i64 (orN s.bad d:Int)) (s':={s with bad:=orN s.bad d}) rfl (by omega) q);rw[e];clear h f m p q i k e;go_enter z6, ntmps174;go_wp2_with fail;refine o.mono ?_;rintro e w1 ⟨rfl,rfl⟩;go_wp2_with fail;refine l.mono ?_;rintro e w1 ⟨rfl,rfl⟩;go_wp2_with fail;refine(g8 _ _ _).mono ?_;rw[r.out];exact Iq
def OY(D B P:Nat):List iP:=[.int .i64 (D:Int),.int .i64 (B:Int),.int .i64 (P:Int)]
theorem rz(h:Kb w g lb Y):Calls eD 111 #[g] w fun e c=>e=.returned (.agg (OY Y.D Y.B Y.P).toArray)∧ek w.heap.size w c:=by
 have l:=JY;have f:=(h.below (aC w (.cells #[.int .i64 0,.int .i64 0,.int .i64 0] 23))).geoR;have i:=aC w (.cells #[.int .i64 0,.int .i64 0,.int .i64 0] 23);clear h;go_enter func111, ntmps111;go_wp2_with (first|(refine hO rfl 23 (.tmp 8) rfl g 0 rfl (OY Y.D Y.B Y.P) _ f kr rfl JT.cN ?_)|(refine ag rfl 23 (.tmp 2) (.tmp 9) rfl w.heap.size (OY Y.D Y.B Y.P) rfl rfl 23 _ (aj w _ _ rfl) JT.cN rfl (by simp[OY,Value.oneCell']) ?_;intro m b;have j:=b.at_;have k:=b.below i (fj _);clear b));refine bodyPost_ret (v:=.agg (OY Y.D Y.B Y.P).toArray) ?_ rfl ⟨rfl,k⟩;rw[dU rfl _ _ _ _ _ _ _ rfl j kr rfl JT.cN]
end
end tal
section
theorem zh(zc:List iP)(n:Nat)(b:0<zc.length):xa zc.toArray (n*zc.length)=((gg n zc).flatten).toArray:=by
 have c:∀r∈gg n zc,r.length=zc.length:=fun r g=>by simp_all
 have k:(gg n zc).flatten.length=n*zc.length:=by rw[bx c,o4]
 apply Array.ext';apply List.ext_getElem?;intro p;by_cases f:p<n*zc.length
 · have l:p/zc.length<n:=by rw[Nat.div_lt_iff_lt_mul b];exact f
   have hj:p%zc.length<zc.length:=Nat.mod_lt _ b;have e:=aW (C:=zc.length) c (i:=p/zc.length) (j:=p%zc.length) (r:=zc) (by simp_all) hj;rw[show p/zc.length*zc.length+p%zc.length=p by rw[Nat.mul_comm];exact Nat.div_add_mod p _]at e;rw[e];unfold xa;simp_all
 · rw[pn (by simp[xa];omega),pn (by simp_all)]
theorem fe{P:Program}(t e:zl)(z:iP)(zc:List iP)(C bytes:Nat)(c:P.underlying t=some (.slice e))(f:(P.info? e).map (fun i=>(i.zero,i.size,i.bytes))=some (some z,C,bytes))(g:z.cells=zc.toArray)(j:zc.length=C)(q:0<C)(n:Nat)(r:bytes*n≤281474976710656)(u:n≤9223372036854775807)(w:eX):
 (tl t (.int .i64 (n:Int)) (.int .i64 (n:Int))).run P w=.ok (.slice (some ⟨w.heap.size,0,none⟩) n n) (w.alloc (.cells (gg n zc).flatten.toArray e)):=by
 obtain⟨i,k,l,m,o⟩:=info_parts f
 have p:(i.bytes:Int)*(n:Int)≤281474976710656:=by
  have h:((i.bytes*n:Nat):Int)≤281474976710656:=by rw[o];omega
  rwa [Int.natCast_mul]at h
 have b:=run_make (P:=P) w t e i z c k l .i64 .i64 n n (by omega) (Int.le_refl _) p (by omega);simp only[r2,m,g]at b;rw[←j,zh zc n (by omega)]at b;exact b
end
theorem Gu{A:Prop}(h:A:=by
 go_wp2_with fail;go_ret;exact⟨rfl,HB.out⟩):A:=h
namespace tal
open JT (aC)
def Ty.new(D B P:Nat):Ty:=⟨D,B,P,gg B Sb.none,0⟩
theorem Ty.PQ{D B P:Nat}(h:3≤D∧D≤6∧8≤B∧B≤16∧2≤P∧P≤8):(Ty.new D B P).ok:=⟨h,by simp[Ty.new],by simp[Ty.new],fun s b=>by rw[List.eq_of_mem_replicate b];decide⟩
theorem E6:(eD.info? 196).map (fun i=>(i.zero,i.size,i.bytes))=some (some (.agg #[.int .i64 0,.int .i64 0,.bool false,.bool false]),4,24):=by kernel_rfl
theorem u6(D B P lb:Nat): eD.built 188 [(0,.agg #[(D:Int),(B:Int),(P:Int)]),(1,.slice (some ⟨lb,0,none⟩) B B)]=some ((Ty.new D B P).head lb).toArray:=by kernel_rfl
theorem EZ(B:Nat)(b:B≤16)(w:eX):(tl 186 (.int .i64 (B:Int)) (.int .i64 (B:Int))).run eD w=.ok (.slice (some ⟨w.heap.size,0,none⟩) B B) (w.alloc (.cells (NI (gg B Sb.none)).flatten.toArray 196)):=by
 rw[show NI (gg B Sb.none)=gg B Sb.none.v by simp[NI]];exact fe 186 196 _ Sb.none.v 4 24 underlying186 E6 rfl rfl (by omega) B (by omega) (by omega) w
theorem mR(w:eX)(D B P:Nat)(ok:3≤D∧D≤6∧8≤B∧B≤16∧2≤P∧P≤8):Calls eD 103 #[.agg #[.int .i64 (D:Int),.int .i64 (B:Int),.int .i64 (P:Int)]] w fun e k=>∃g lb,e=.returned (.pointer (some ⟨g,0,none⟩))∧Kb k g lb (Ty.new D B P)∧w.heap.size≤g∧w.heap.size≤lb∧ek w.heap.size w k:=by
 have f:=aC w (.cells #[(D:Int),(B:Int),(P:Int)] 23);have h:=aj w (.cells #[(D:Int),(B:Int),(P:Int)] 23) _ rfl;have l:Oc (D:Int) (B:Int) (P:Int)=true:=by simp[Oc,wiB];omega
 have i:=qZ (fun w=>dW (D:Int) (B:Int) (P:Int) w);rw[l]at i;have p:=qZ (EZ B (by omega));have q:=qZ (u6 D B P);have r:=qZ (Ty.PQ ok);clear l ok;go_enter func103, ntmps103;go_upto_region 1 with fail
 change Code.wp _ _ _ _ (w.alloc (.cells #[(D:Int),(B:Int),(P:Int)] 23));generalize w.alloc (.cells #[.int .i64 (D:Int),.int .i64 (B:Int),.int .i64 (P:Int)] 23)=wa at*;have m:=ai (cs:=[.int .i64 (D:Int),.int .i64 (B:Int),.int .i64 (P:Int)]) h;go_wp2_with (first|(refine hO rfl 23 (.tmp 1) rfl w.heap.size 0 rfl [.int .i64 (D:Int),.int .i64 (B:Int),.int .i64 (P:Int)] _ m kr rfl JT.cN ?_));refine(i.out _).mono ?_;rintro e b ⟨rfl,j⟩;have c:=aa h j;have n:=qZ (f.trans (j.mono f.size));have c0:b.cell? ⟨w.heap.size,0,none⟩=some (.int .i64 (D:Int)):=by rw[ae c];rfl
 have c1:b.cell? ⟨w.heap.size,1,none⟩=some (.int .i64 (B:Int)):=by rw[ae c];rfl
 have c2:b.cell? ⟨w.heap.size,2,none⟩=some (.int .i64 (P:Int)):=by rw[ae c];rfl
 clear f h m j c i;go_upto_region 3 with fail
 have u:=p.out;have z:=q.out;have t:w.heap.size<b.heap.size:=World.block_lt_of_cell? _ _ c0;have o:=qZ t;go_region
 all_goals
  go_wp2_with fail;go_ret;refine⟨b.heap.size+1,b.heap.size,rfl,⟨r.out,?_,?_⟩,by have:=o.out;omega,by have:=o.out;omega,?_⟩
  · exact aj (b.alloc (.cells (NI (gg B Sb.none)).flatten.toArray 196)) (.cells ((Ty.new D B P).head b.heap.size).toArray 188) _ (by simp)
  · exact bu b (.cells (NI (gg B Sb.none)).flatten.toArray 196) (.cells ((Ty.new D B P).head b.heap.size).toArray 188)
  · exact(n.out.trans ((cG b (.cells (NI (gg B Sb.none)).flatten.toArray 196) (.cells ((Ty.new D B P).head b.heap.size).toArray 188)).mono n.out.size)).drew
theorem QV(w:eX):Calls eD 103 #[.agg #[.int .i64 0,.int .i64 0,.int .i64 0]] w fun e f=>e=.returned (.pointer none)∧ek w.heap.size w f:=by
 have b:=aC w (.cells #[.int .i64 0,.int .i64 0,.int .i64 0] 23);have g:=aj w (.cells #[.int .i64 0,.int .i64 0,.int .i64 0] 23) _ rfl;have c:=qZ (fun w=>dW 0 0 0 w);rw[show Oc 0 0 0=false from rfl]at c;go_enter func103, ntmps103;go_upto_region 1 with fail
 change Code.wp _ _ _ _ (w.alloc (.cells #[.int .i64 0,.int .i64 0,.int .i64 0] 23));generalize w.alloc (.cells #[.int .i64 0,.int .i64 0,.int .i64 0] 23)=wa at*;have i:=ai (cs:=[.int .i64 0,.int .i64 0,.int .i64 0]) g;go_wp2_with (first|(refine hO rfl 23 (.tmp 1) rfl w.heap.size 0 rfl [.int .i64 0,.int .i64 0,.int .i64 0] _ i kr rfl JT.cN ?_));refine(c.out _).mono ?_;rintro e k ⟨rfl,j⟩;have HB:=qZ (b.trans (j.mono b.size));exact Gu
end tal
theorem yeb{A:Prop}(h:A:=by
 rw[hc,An,List.getElem?_map,List.getElem?_eq_getElem (by omega)];simp[List.getD,List.getElem?_eq_getElem (show k<l.length by omega)]):A:=h
namespace pick
open tal
def KN(p:Nat→Bool)(c:Int)(k:Nat):List Nat:=(jI k).filter fun b=>decide ((b:Int)≠c)&&p b
theorem vc(p:Nat→Bool)(b:Int)(k:Nat):KN p b (k+1)=KN p b k++(if(decide ((k:Int)≠b)&&p k)=true then [k]else []):=by
 unfold KN;exact yfn
theorem kN(p:Nat→Bool)(c:Int)(k:Nat):(KN p c k).length≤k:=by
 have:=ps (fun b=>decide (((b:Nat):Int)≠c)&&p b) (jI k);simpa[KN]using this
theorem i8(a b c:Int)(W:eX):(zd 23 (.agg #[a,b,c]) 1).run eD W=.ok (.int .i64 b) W:=by kernel_rfl
theorem cO(a b c:Int)(W:eX):(zd 23 (.agg #[a,b,c]) 0).run eD W=.ok (.int .i64 a) W:=by kernel_rfl
theorem jR{w:eX}{g lb:Nat}{Y:Ty}(h:Kb w g lb Y)(t:Nat)(I:Array iP)(eg:∀J W,(callFunc t J).run eD W=.ok (.enter t J) W)(c:Int)(p:Nat→Bool)(K:∀b W,b<Y.B→ek w.heap.size w W→Calls eD t (#[.int .i64 (b:Int)]++I) W fun e u=>e=.returned (.bool (p b))∧ek W.heap.size W u):
 Calls eD 168 #[g,c,.func (.func t) #[] I] w fun e u=>∃v,e=.returned v∧u.ownsRow w.heap.size 3 1 v (KN p c Y.B).length (An .i64 (KN p c Y.B))∧ek w.heap.size w u:=by
 have S:=qZ (tal.rz h);have T:=h.ok.geo.2.2.2.1;have L:=qZ K;obtain⟨N,E⟩:∃N,N=Y.B:=⟨_,rfl⟩;rw[←E]at T L⊢;have U:=qZ (show OY Y.D Y.B Y.P=[.int .i64 (Y.D:Int),.int .i64 (N:Int),.int .i64 (Y.P:Int)]from by rw[E];rfl);clear h K E;have ag:=i8;go_enter func168, ntmps168;go_wp2_with fail;refine S.out.mono ?_;rintro e w1 ⟨rfl,V⟩;rw[U.out];go_wp2_with fail;go_loopw [7,12] (fun v i wr=>∃k:Nat,k≤N∧i=.int .i64 k∧wr.ownsRow w.heap.size 3 1 v (KN p c k).length (An .i64 (KN p c k))∧ek w.heap.size w wr) (fun _ i _=>N-(jg i).toNat)
 case atStart=>exact⟨0,by omega,rfl,World.ownsRow_nil _ _ _ _,V⟩
 case round=>
  obtain⟨k,hk,rfl,f,j⟩:=hrel;by_cases X:k<N
  · have ah:(k:Int)<(N:Int):=by omega
    have o:=vc p c k;have Z:=kN p c k;obtain⟨m,z⟩:∃m,m=(KN p c k).length:=⟨_,rfl⟩;rw[←z]at f Z;have G:=qZ z;have M:=qZ (L k wr X j);have A:=qZ f;have q:=qZ j;by_cases l:(k:Int)=c
    · have n:=qZ (show KN p c (k+1)=KN p c k by rw[o];simp[l])
      have hq:((k:Int) !=c)=false:=by simpa using l
      clear o z f j l;go_wp2_with fail;go_roundw
      case rel=>exact⟨k+1,by omega,by go_num,by rw[n.out,←G.out];exact A,q⟩
      case measure=>simp[jg];omega
    · have hq:((k:Int) !=c)=true:=by simpa using l
      obtain⟨B,O⟩:∃B,B=p k:=⟨_,rfl⟩;rw[←O]at M o;have n:=qZ (show KN p c (k+1)=KN p c k++(if B=true then [k]else []) by rw[o];simp[l]);clear o z f j l O;go_wp2_with fail;refine M.mono ?_;rintro e w2 ⟨rfl,C⟩;have r:=q.out.trans (C.mono q.size);have D:=eq A C;cases B with
      |false=>
       have H:=qZ (show KN p c (k+1)=KN p c k from by simpa using n.out);clear n;have aa:=qZ D;have ab:=qZ r;clear D r C;go_wp2_with fail;go_roundw
       case rel=>exact⟨k+1,by omega,by go_num,by rw[H.out,←G.out];exact aa,ab⟩
       case measure=>simp[jg];omega
      |true=>
       have H:=qZ (show KN p c (k+1)=KN p c k++[k]from by simpa using n.out);clear n;have P:=r.size;clear C;go_wp2_with (first|(at_builtin;go_must (refine dc rfl (.tmp 23) (.tmp 25) 43 rfl 3 _ _ underlying43 xP rfl D r rfl rfl rfl (by unfold y0;omega) (by omega) P (fj _) ?_)));intro v8 w8 Q R ad _;have ae:=qZ (show w8.ownsRow w.heap.size 3 1 v8 (m+1) (An .i64 (KN p c k++[k])) by have:=Q;rw[show An .i64 (KN p c k++[k])=An .i64 (KN p c k)++[.int .i64 (k:Int)] by simp[An]];exact this);have af:=qZ R;clear Q R ad r D P;go_wp2_with fail;go_roundw
       case rel=>exact⟨k+1,by omega,by go_num,by rw[H.out,qc,←G.out];exact ae,af⟩
       case measure=>simp[jg];omega
  · obtain rfl:k=N:=by omega
    have A:=qZ f;have q:=qZ j;clear f j;go_wp2_with fail;go_ret;exact⟨_,rfl,A,q⟩
def N9(b:Nat→Nat→Int):List Nat→Nat
 |[]=>0
 |x::l=>l.foldl (fun m y=>if b y m<0 then y else m) x
theorem za(b:Nat→Nat→Int)(l:List Nat)(k:Nat)(e:1≤k)(f:k<l.length):N9 b (l.take (k+1))=if b (l.getD k 0) (N9 b (l.take k))<0 then l.getD k 0 else N9 b (l.take k):=by
 match l,k,e with
 |x::l,k+1,_=>
  have c:k<l.length:=by simpa using f
  rw[qa,qa];unfold N9;dsimp only;rw[r4,hG,ed c];simp[pz,c]
def Ly(b:Nat→Nat→Int)(l:List Nat):Int:=if l=[]then-1 else(N9 b l:Int)
theorem EU{w:eX}{A:Option px}{n c:Nat}{l:List Nat}(q:l.length=n)(g:Rd w w.heap.size A n (An .i64 l))(E:0<n)(hn:n≤65536)(P:∀x∈l,x≤65536)(C:Nat)(Q:Array iP)(eg:∀R W,(callFunc C R).run eD W=.ok (.enter C R) W)(f:Nat→Nat→Int)(S:∀a b W,a≤65536→b≤65536→ek w.heap.size w W→Calls eD C (#[.int .i64 (a:Int),.int .i64 (b:Int)]++Q) W fun e G=>e=.returned (.int .i64 (f a b))∧ek W.heap.size W G):
 Calls eD 225 #[.slice A n c,.func (.func C) #[] Q] w fun e G=>e=.returned (.int .i64 (N9 f l:Int))∧ek w.heap.size w G:=by
 obtain⟨B,o,rfl,Z,-⟩:=g.at_ E
 have H:∀k (i:k<n),w.cell? ⟨B,o+k,none⟩=some (.int .i64 ((l.getD k 0:Nat):Int)):=by
  intro k i;obtain⟨b',o',e,-,hc⟩:=g.at_ i;cases e
  exact yeb
 have HC:=qZ H;have HO:=qZ S;have I:=H 0 E;rw[Nat.add_zero]at I;have HL:=qZ q;have J:∀k (i:k<n),l.getD k 0≤65536:=fun k i=>P _ (by simp[pz,ed (show k<l.length by omega)])
 have aa:=qZ J;have HS:=qZ (show∀k,1≤k→(i:k<n)→N9 f (l.take (k+1))=if f (l.getD k 0) (N9 f (l.take k))<0 then l.getD k 0 else N9 f (l.take k)from fun k h1 i=>za f l k h1 (by omega))
 have T:N9 f (l.take 1)=l.getD 0 0:=by
  match l,q with
  |x::l,_=>rfl
  |[],q=>simp at q;omega
 have HF:=qZ (show N9 f (l.take n)=N9 f l by rw[hZ (by omega)]);have H1:=qZ T;have ab:=J 0 E;have af:¬(n:Int)<1:=by omega
 clear H S g P q J T;generalize l.getD 0 0=x0 at*;go_enter func225, ntmps225;go_wp2_with fail;go_loopw [5,6] (fun vm vi wr=>∃k:Nat,1≤k∧k≤n∧vi=.int .i64 k∧(∃m:Nat,vm=.int .i64 m∧m=N9 f (l.take k)∧m≤65536)∧ek w.heap.size w wr) (fun _ ad _=>n-(jg ad).toNat)
 case atStart=>exact⟨1,by omega,by omega,rfl,⟨x0,rfl,by rw[H1.out],ab⟩,fo _ _⟩
 case round=>
  obtain⟨k,ae,i,rfl,⟨m,rfl,t,U⟩,j⟩:=hrel;by_cases K:k<n
  · have ag:(k:Int)<(n:Int):=by omega
    have L:wr.cell? ⟨B,o+k,none⟩=some (.int .i64 ((l.getD k 0:Nat):Int)):=(j.cell (p:=⟨B,o+k,none⟩) Z).trans (HC k K);have M:=aa.out k K;have D:=HS.out k ae K;generalize l.getD k 0=x at L M D;rw[←t]at D;have V:=qZ (HO x m wr M U j);have u:=qZ j;have z:=qZ D;clear t j D I;obtain⟨r,g⟩:∃r,r=f x m:=⟨_,rfl⟩;rw[←g]at V z;clear g;go_wp2_with fail;refine V.mono ?_;rintro e w2 ⟨rfl,N⟩;have X:=u.out.trans (N.mono u.size);have ah:w2.cell? ⟨B,o+k,none⟩=some (.int .i64 (x:Int)):=(N.cell (p:=⟨B,o+k,none⟩) (show B<wr.heap.size by have:=u.out.size;omega)).trans L;have Y:=qZ X;clear N X L;by_cases g:r<0
    · have O:=qZ (show N9 f (l.take (k+1))=x by rw[z.out,if_pos g])
      clear z;go_wp2_with fail;go_roundw
      case rel=>exact⟨k+1,by omega,by omega,by go_num,⟨x,rfl,O.symm,M⟩,Y⟩
      case measure=>simp[jg];omega
    · have O:=qZ (show N9 f (l.take (k+1))=m by rw[z.out,if_neg g])
      clear z;go_wp2_with fail;go_roundw
      case rel=>exact⟨k+1,by omega,by omega,by go_num,⟨m,rfl,O.symm,U⟩,Y⟩
      case measure=>simp[jg];omega
  · obtain rfl:k=n:=by omega
    rw[HF.out]at t;have u:=qZ j;have HM:=qZ t;clear t j I;go_wp2_with fail;go_ret;exact⟨by rw[←HM.out];rfl,u⟩
open tal
theorem qm{w:eX}{base m:Nat}{v:iP}{l:List Nat}(j:w.ownsRow base 3 1 v m (An .i64 l))(f:l.length=m)(C:m≤65536)(n:∀x∈l,x≤65536)(k:Nat)(o:Array iP)(D:∀t W,(callFunc k t).run eD W=.ok (.enter k t) W)(i:Nat→Nat→Int)(p:∀a b W,a≤65536→b≤65536→ek w.heap.size w W→Calls eD k (#[.int .i64 (a:Int),.int .i64 (b:Int)]++o) W fun e q=>e=.returned (.int .i64 (i a b))∧ek W.heap.size W q):
 Calls eD 177 #[v,.func (.func k) #[] o] w fun e q=>e=.returned (.int .i64 (Ly i l))∧ek w.heap.size w q:=by
 by_cases u:0<m
 · obtain⟨A,c,rfl⟩:∃A c,v=.slice A m c:=by
    rcases j.2 with⟨e,h⟩|⟨g,E,G,e,-⟩
    · omega
    · exact⟨_,_,e⟩
   have H:=qZ (EU (c:=c) f (Rd.O4 j) u C n k o D i p)
   have J:((m:Int)==0)=false:=by
    have:¬(m:Int)=0:=by omega
    simpa using this
   have r:=qZ (show Ly i l=(N9 i l:Int) by unfold Ly;rw[if_neg (by intro e;rw[e]at f;simp at f;omega)]);clear j n p f;go_enter func177, ntmps177;go_wp2_with fail;refine H.mono ?_;rintro e K ⟨rfl,z⟩;have I:=qZ z;clear z;go_wp2_with fail;go_ret;exact⟨by rw[r.out];rfl,I⟩
 · obtain rfl:m=0:=by omega
   have B:l=[]:=ly f;have r:=qZ (show Ly i l= -1 by rw[B];rfl)
   obtain⟨A,c,rfl⟩:∃A c,v=.slice A 0 c:=by
    rcases j.2 with⟨e,h⟩|⟨g,E,G,e,-⟩
    · exact⟨_,_,e⟩
    · exact⟨_,_,e⟩
   clear j n p f B u;go_enter func177, ntmps177;go_wp2_with fail;go_ret;exact⟨by rw[r.out];rfl,fo _ _⟩
theorem dB{w:eX}{A:Option px}{n c:Nat}{l:List Nat}(E:l.length=n)(G:Rd w w.heap.size A n (An .i64 l))(hn:n≤65536)(H:∀x∈l,x≤65536)(j:Nat)(I:Array iP)(eg:∀J W,(callFunc j J).run eD W=.ok (.enter j J) W)(p:Nat→Bool)(K:∀a W,a≤65536→ek w.heap.size w W→Calls eD j (#[.int .i64 (a:Int)]++I) W fun e u=>e=.returned (.bool (p a))∧ek W.heap.size W u):
 Calls eD 210 #[.slice A n c,.func (.func j) #[] I] w fun e u=>∃r:Int,e=.returned (.int .i64 r)∧decide (0≤r)=l.any p∧-1≤r∧r≤65536∧ek w.heap.size w u:=by
 have L:∀k (b:k<n),∃B o,A=some ⟨B,o,none⟩∧B<w.heap.size∧w.cell? ⟨B,o+k,none⟩=some (.int .i64 ((l.getD k 0:Nat):Int)):=by
  intro k b;obtain⟨R,S,e,T,hc⟩:=G.at_ b;refine⟨R,S,e,T,?_⟩;exact yeb
 have U:=qZ L;have V:=qZ K;have HL:=qZ E;have X:=qZ (show∀k (b:k<n),l.getD k 0≤65536 from fun k b=>H _ (by simp[pz,ed (show k<l.length by omega)]))
 have Y:=qZ (show∀k,k<n→(l.take (k+1)).any p=((l.take k).any p ||p (l.getD k 0))from fun k b=>by
  rw[r4,List.any_append,ed (by omega)];simp[pz,ed (show k<l.length by omega)])
 have Z:=qZ (show∀k,k<n→p (l.getD k 0)=true→l.any p=true from fun k b h=>by
  rw[List.any_eq_true];exact⟨l.getD k 0,by simp[pz,ed (show k<l.length by omega)],h⟩)
 have aa:=qZ (show(l.take n).any p=l.any p by rw[hZ (by omega)]);clear L K H G E;go_enter func210, ntmps210;go_wp2_with fail;go_loopw [8] (fun vi wr=>∃k:Nat,k≤n∧vi=.int .i64 k∧(l.take k).any p=false∧ek w.heap.size w wr) (fun ab _=>n-(jg ab).toNat)
 case atStart=>exact⟨0,by omega,rfl,by simp,fo _ _⟩
 case round=>
  obtain⟨k,b,rfl,g,f⟩:=hrel;by_cases m:k<n
  · have ae:(k:Int)<(n:Int):=by omega
    obtain⟨B,o,rfl,hB,hc⟩:=U k m;have ad:wr.cell? ⟨B,o+k,none⟩=some (.int .i64 ((l.getD k 0:Nat):Int)):=(f.cell (p:=⟨B,o+k,none⟩) hB).trans hc;have M:=X.out k m;have i:=Y.out k m;have q:=Z.out k m;generalize l.getD k 0=x at ad M i q;rw[g,Bool.false_or]at i;have N:=qZ (V x wr M f);have t:=qZ f;obtain⟨z,O⟩:∃z,z=p x:=⟨_,rfl⟩;rw[←O]at N i q;have C:=qZ i;have D:=qZ q;clear f i q hc g O;go_wp2_with fail;refine N.mono ?_;rintro e w2 ⟨rfl,P⟩;have Q:=qZ (t.trans (P.mono t.size));clear P;cases z with
    |true=>
     have HA:=qZ (D rfl);clear C D;go_wp2_with fail;go_ret;exact⟨(k:Int),rfl,by rw[HA.out];simp,by omega,by omega,Q⟩
    |false=>
     have HS:=qZ (show(l.take (k+1)).any p=false from C);clear C D;go_wp2_with fail;go_roundw
     case rel=>exact⟨k+1,by omega,by go_num,HS,Q⟩
     case measure=>simp[jg];omega
  · obtain rfl:k=n:=by omega
    rw[aa.out]at g;have HN:=qZ g;have t:=qZ f;clear g f;go_wp2_with fail;go_ret;exact⟨-1,rfl,by rw[HN.out];rfl,by omega,by omega,t⟩
theorem gh{w:eX}{A:Option px}{n c:Nat}{l:List Nat}(h:l.length=n)(i:Rd w w.heap.size A n (An .i64 l))(j:n≤65536)(k:∀x∈l,x≤65536)(b:Nat)(f:Array iP)(z:∀m W,(callFunc b m).run eD W=.ok (.enter b m) W)(p:Nat→Bool)(o:∀a W,a≤65536→ek w.heap.size w W→Calls eD b (#[.int .i64 (a:Int)]++f) W fun e g=>e=.returned (.bool (p a))∧ek W.heap.size W g):
 Calls eD 158 #[.slice A n c,.func (.func b) #[] f] w fun e g=>e=.returned (.bool (l.any p))∧ek w.heap.size w g:=by
 have B:=qZ (dB (c:=c) h i j k b f z p o);generalize l.any p=t at*;clear h i j k o;go_enter func158, ntmps158;go_wp2_with fail;refine B.mono ?_;rintro e E ⟨r,rfl,q,G,H,u⟩;have C:=qZ u;have D:=qZ q;clear u q;go_wp2_with fail;go_ret;exact⟨by rw[←D.out];rfl,C⟩
end pick
theorem Ir{A:Prop}(h:A:=by
 go_wp2_with fail;go_ret;exact⟨by rw[HE.out];rfl,aF (Below.refl _ _) _⟩):A:=h
theorem yc6{A:Prop}(h:A:=by
 go_wp2_with fail;refine(HC k).mono ?_;rintro e w2 ⟨rfl,rfl⟩;go_wp2_with fail;go_ret;exact⟨by rw[HE.out,←eq0];rfl,aF (Below.refl _ _) _⟩):A:=h
namespace pick
open tal
structure View (w:eX) (g lb:Nat) (Y:Ty) (h mb cb n:Nat) (T:tab.Tb):Prop where
 tal:Kb w g lb Y
 tab:tab.JZ w h mb cb n T
theorem eB{b:Nat}(c:b≤65536):wfI (b:Int):=by unfold wfI;simp[Lit.wf,IntKind.min,IntKind.max,IntKind.bits,IntKind.signed];omega
theorem eq0(c:Nat):((c:Int)==0)=decide (c=0):=by rw[Bool.eq_iff_iff];simp
section
variable {w:eX}{g lb h mb cb n xt xl:Nat}{Y:Ty}{T:tab.Tb}
theorem View.below(v:View w g lb Y h mb cb n T){w':eX}(hb:ek w.heap.size w w'):View w' g lb Y h mb cb n T:=⟨v.tal.below hb,v.tab.below hb⟩
def Mx(T:tab.Tb)(b:Nat):Nat:=tab.Kw T.f (b:Int)
def NM(Y:Ty)(T:tab.Tb)(b:Nat):Bool:=Y.usable b&&Y.blank b&&decide (Mx T b=0)
def M4(Y:Ty)(T:tab.Tb)(b:Nat):Bool:=Y.usable b&& !Y.blank b&& !Y.held b&&decide (Mx T b=0)
def OD(Y:Ty)(T:tab.Tb)(b:Nat):Bool:=decide (0<Mx T b)&& !Y.held b
theorem J8(v:View w g lb Y h mb cb n T)(b:Nat)(i:b≤65536)(p:w.cell? ⟨xt,0,none⟩=some (.pointer (some ⟨g,0,none⟩)))(q:w.cell? ⟨xl,0,none⟩=some (.pointer (some ⟨h,0,none⟩))):
 Calls eD 224 #[(b:Int),xt,xl] w fun e j=>e=.returned (.bool (NM Y T b))∧ek w.heap.size w j:=by
 have l:=qZ (ns v.tal b);have m:=qZ (fun k=>tal.qA (v.tal.below (aF (fo _ w) k)) (b:Int));have HC:=qZ (fun k=>tab.cE (v.tab.drewN k) (b:Int) (eB i));have f:tab.Kw T.f (b:Int)=Mx T b:=rfl;rw[f]at HC;have HE:=qZ (show NM Y T b=(Y.usable b&&Y.blank b&&decide (Mx T b=0))from rfl);clear v f;generalize Y.usable (b:Int)=u at*;generalize Y.blank (b:Int)=o at*;generalize Mx T b=c at*;go_enter func224, ntmps224;go_wp2_with fail;refine l.mono ?_;rintro e r ⟨rfl,k,rfl⟩;cases u with
 |false=>
  exact Ir
 |true=>
  go_wp2_with fail;refine(m k).mono ?_;rintro e w2 ⟨rfl,rfl⟩;cases o with
  |false=>
   exact Ir
  |true=>
   exact yc6
theorem G6(v:View w g lb Y h mb cb n T)(b:Nat)(i:b≤65536)(r:w.cell? ⟨xt,0,none⟩=some (.pointer (some ⟨g,0,none⟩)))(t:w.cell? ⟨xl,0,none⟩=some (.pointer (some ⟨h,0,none⟩))):
 Calls eD 169 #[(b:Int),xt,xl] w fun e j=>e=.returned (.bool (M4 Y T b))∧ek w.heap.size w j:=by
 have l:=qZ (ns v.tal b);have m:=qZ (fun k=>tal.qA (v.tal.below (aF (fo _ w) k)) (b:Int));have o:=qZ (fun k=>tal.J4 (v.tal.below (aF (fo _ w) k)) (b:Int));have HC:=qZ (fun k=>tab.cE (v.tab.drewN k) (b:Int) (eB i));have f:tab.Kw T.f (b:Int)=Mx T b:=rfl;rw[f]at HC;have HE:=qZ (show M4 Y T b=(Y.usable b&& !Y.blank b&& !Y.held b&&decide (Mx T b=0))from rfl);clear v f;generalize Y.usable (b:Int)=u at*;generalize Y.blank (b:Int)=p at*;generalize Y.held (b:Int)=q at*;generalize Mx T b=c at*;go_enter func169, ntmps169;go_wp2_with fail;refine l.mono ?_;rintro e z ⟨rfl,k,rfl⟩;cases u with
 |false=>
  exact Ir
 |true=>
  go_wp2_with fail;refine(m k).mono ?_;rintro e w2 ⟨rfl,rfl⟩;cases p with
  |true=>
   exact Ir
  |false=>
   go_wp2_with fail;refine(o k).mono ?_;rintro e w2 ⟨rfl,rfl⟩;cases q with
   |true=>
    exact Ir
   |false=>
    exact yc6
theorem IH(v:View w g lb Y h mb cb n T)(b:Nat)(m:b≤65536)(t:w.cell? ⟨xt,0,none⟩=some (.pointer (some ⟨g,0,none⟩)))(u:w.cell? ⟨xl,0,none⟩=some (.pointer (some ⟨h,0,none⟩))):
 Calls eD 176 #[(b:Int),xl,xt] w fun e o=>e=.returned (.bool (OD Y T b))∧ek w.heap.size w o:=by
 have p:=qZ (tal.J4 v.tal (b:Int));have i:=qZ (tab.cE v.tab (b:Int) (eB m));have j:tab.Kw T.f (b:Int)=Mx T b:=rfl;rw[j]at i;have k:=qZ (show OD Y T b=(decide (0<Mx T b)&& !Y.held b)from rfl);clear v j;generalize Y.held (b:Int)=q at*;generalize Mx T b=c at*;go_enter func176, ntmps176;go_wp2_with fail;refine i.mono ?_;rintro e z ⟨rfl,rfl⟩;by_cases l:0<c
 · have f:=qZ (show decide (0<c)=true by simpa using l)
   have r:(0:Int)<(c:Int):=by omega
   go_wp2_with fail;refine p.mono ?_;rintro e A ⟨rfl,rfl⟩;go_wp2_with fail;go_ret;exact⟨by rw[k.out,f.out];cases q<;>rfl,fo _ _⟩
 · have f:=qZ (show decide (0<c)=false by simpa using l)
   have r:(c:Int)≤0:=by omega
   go_wp2_with fail;go_ret;exact⟨by rw[k.out,f.out];rfl,fo _ _⟩
def LO(Y:Ty)(a b:Nat):Int:=LD (Y.Lp a) (Y.Lp b)
theorem Ji(v:View w g lb Y h mb cb n T)(a b:Nat)(i:w.cell? ⟨xt,0,none⟩=some (.pointer (some ⟨g,0,none⟩))):
 Calls eD 207 #[(a:Int),(b:Int),xt] w fun e c=>e=.returned (.int .i64 (LO Y a b))∧ek w.heap.size w c:=by
 have f:=qZ (fun k (x:Int)=>tal.IF (v.tal.below (aF (fo _ w) k)) x);have j:=qZ (fun(x:Int)=>tal.IF v.tal.drew x);have HE:=qZ (show LO Y a b=LD (Y.Lp a) (Y.Lp b)from rfl);clear v;go_enter func207, ntmps207;go_wp2_with fail;go_quiet (first|(go_at_call 181;exact l4 ((f _ _).mono fun _ _ h=>⟨h.1,h.2.symm⟩))|(go_at_call 180;exact l4 ((rE _ _ _).mono fun _ _ h=>⟨h.1,h.2.symm⟩)))
 exact Ir
end
end pick
theorem ybe{A:Prop}(h:A:=by
 refine dM ?_;intro K HK;refine hc.out.mono ?_;rintro e w'' ⟨rfl,rfl⟩;exact HK _ _ ⟨(),_,rfl,rfl,hJ.out⟩):A:=h
theorem yds{A:Prop}(h:A:=by
 refine dM ?_;intro K HK;refine(rE _ _ _).mono ?_;rintro e w'' ⟨rfl,rfl⟩;exact HK _ _ ⟨(),_,rfl,rfl,hJ.out⟩):A:=h
namespace pick
open tal
theorem EQ(g:Nat)(x y:Int)(w:eX)(h:w.heap[g]? =some (.cells #[x,y] 3 (0,0))):
 Calls eD 179 #[.slice (some ⟨g,0,none⟩) 2 2] w fun e f=>e=.returned (.int .i64 (orI [x,y]))∧w=f:=by
 have c0:w.cell? ⟨g,0,none⟩=some (.int .i64 x):=by rw[ae h];rfl
 have c1:w.cell? ⟨g,1,none⟩=some (.int .i64 y):=by rw[ae h];rfl
 unfold orI orI orI;clear h;go_enter func179, ntmps179;go_wp2_with fail;go_loop [8] (fun i=>∃k:Nat,k≤2∧i=.int .i64 k∧(0<k→x=0)∧(1<k→y=0)) (fun i=>2-(jg i).toNat)
 case atStart=>exact⟨0,by omega,rfl,by omega,by omega⟩
 case round=>
  obtain⟨k,j,rfl,b,c⟩:=hrel;rcases(show k=0∨k=1∨k=2 by omega)with rfl|rfl|rfl
  · by_cases hx:x=0
    · subst hx
      go_wp2
      go_round
      case rel=>exact⟨1,by omega,rfl,by simp,by omega⟩
      case measure=>simp[jg]
    · clear b c
      exact I8
  · obtain rfl:=b (by omega)
    by_cases hx:y=0
    · subst hx
      go_wp2
      go_round
      case rel=>exact⟨2,by omega,rfl,by simp,by simp⟩
      case measure=>simp[jg]
    · clear b c
      exact I8
  · obtain rfl:=b (by omega)
    obtain rfl:=c (by omega);clear b c;go_wp2
    go_ret;exact⟨by first|rfl|(simp;rfl),rfl⟩
section
variable {w:eX}{g lb h mb cb n xt xl:Nat}{Y:Ty}{T:tab.Tb}
def LQ(Y:Ty)(T:tab.Tb)(a b:Nat):Int:=orI [LD (Mx T a:Int) (Mx T b:Int),LD (Y.Lp a) (Y.Lp b)]
theorem IG(v:View w g lb Y h mb cb n T)(x y:Nat)(E:x≤65536)(G:y≤65536)(m:xt<w.heap.size)(q:xl<w.heap.size)(r:w.cell? ⟨xt,0,none⟩=some (.pointer (some ⟨g,0,none⟩)))(u:w.cell? ⟨xl,0,none⟩=some (.pointer (some ⟨h,0,none⟩))):
 Calls eD 178 #[(x:Int),(y:Int),xl,xt] w fun e w'=>e=.returned (.int .i64 (LQ Y T x y))∧ek w.heap.size w w':=by
 go_enter func178, ntmps178;go_upto_region 1 with fail
 refine dz (X:=Unit) (fun _=> [(some 7,h),(some 8,(x:Int)),(some 9,.int .i64 (tab.Kw T.f (x:Int):Int)),(some 10,h),(some 11,(y:Int)),(some 12,.int .i64 (tab.Kw T.f (y:Int):Int)),(some 13,.int .i64 (LD (tab.Kw T.f (x:Int):Int) (tab.Kw T.f (y:Int):Int))),(some 14,g),(some 15,(x:Int)),(some 16,.int .i64 (Y.Lp x)),(some 17,g),(some 18,(y:Int)),(some 19,.int .i64 (Y.Lp y)),(some 20,.int .i64 (LD (Y.Lp x) (Y.Lp y))),(some 21,.slice (some ⟨w.heap.size,0,none⟩) 2 2),(some 22,.int .i64 (LQ Y T x y)),(some 6,.int .i64 (LQ Y T x y))])
  (fun _ L w'=>w'=(bif L 14 then w.drew.alloc (.cells #[.int .i64 (LD (tab.Kw T.f (x:Int):Int) (tab.Kw T.f (y:Int):Int)),.int .i64 (LD (Y.Lp x) (Y.Lp y))] 3)else w.drew)∧ek w.heap.size w w') ⟨(),fun L hL=>⟨by simp only[hL,cond_false],(fo _ w).drew⟩⟩ ?_ ?_
 · refine⟨?_,rr,?_,?_,rr,?_,?_,?_,rr,?_,?_,rr,?_,?_,?_,?_,rr,trivial⟩
   all_goals
    intro ux L w' hL hpre hJ a ha he;try simp[Region.binds]at hpre
   · have c:=(hJ.out.2.cell (p:=⟨xl,0,none⟩) q).trans u
     exact cH
   · have hc:=qZ (tab.cE (v.tab.below hJ.out.2) (x:Int) (eB E))
     exact ybe
   · have c:=(hJ.out.2.cell (p:=⟨xl,0,none⟩) q).trans u
     exact cH
   · have hc:=qZ (tab.cE (v.tab.below hJ.out.2) (y:Int) (eB G))
     exact ybe
   · exact yds
   · have c:=(hJ.out.2.cell (p:=⟨xt,0,none⟩) m).trans r
     exact cH
   · have hc:=qZ (tal.IF (v.tal.below hJ.out.2) (x:Int))
     exact ybe
   · have c:=(hJ.out.2.cell (p:=⟨xt,0,none⟩) m).trans r
     exact cH
   · have hc:=qZ (tal.IF (v.tal.below hJ.out.2) (y:Int))
     exact ybe
   · exact yds
   · obtain⟨f,j⟩:=hJ.out
     refine Wn ?_;have z:=aZ 6;have D:=aZ 13;have f13:a.tmps[13]?.getD z8=.int .i64 (LD (tab.Kw T.f (x:Int):Int) (tab.Kw T.f (y:Int):Int)):=by simpa[Act.eval]using z
     have f20:a.tmps[20]?.getD z8=.int .i64 (LD (Y.Lp x) (Y.Lp y)):=by simpa[Act.eval]using D
     rw[hL]at f;simp only[cond_false]at f;subst f;have l:=qZ (j.alloc j.size (.cells #[.int .i64 (LD (tab.Kw T.f (x:Int):Int) (tab.Kw T.f (y:Int):Int)),.int .i64 (LD (Y.Lp x) (Y.Lp y))] 3));clear ha j z D;refine aP fun K HK=> ?_;unfold Oper.wp;simp only[execOp];go_simp;exact HK _ _ ⟨(),_,rfl,rfl,rfl,l⟩
   · obtain⟨f,j⟩:=hJ.out
     refine Wn ?_;have H:=aZ 14;have I:L 14=true:=by simp[hpre]
     have k:=f;rw[I]at k;simp only[cond_true]at k;have hz:w'.heap[w.heap.size]? =some (.cells #[.int .i64 (LD (tab.Kw T.f (x:Int):Int) (tab.Kw T.f (y:Int):Int)),.int .i64 (LD (Y.Lp x) (Y.Lp y))] 3 (0,0)):=by rw[k];exact heap_alloc_new w.drew _
     have l:=qZ (hX f j);clear ha f j k;refine aP fun K HK=> ?_;unfold Oper.wp;simp only[execOp,resolve,List.map_toArray,List.map_cons,List.map_nil,H];go_simp;refine(EQ _ _ _ _ hz).mono ?_;rintro e w'' ⟨rfl,rfl⟩;exact HK _ _ ⟨(),_,rfl,rfl,l⟩
 · intro _ L w' hL hJ
   obtain⟨f,j⟩:=hJ;clear hL;simp only[jm,kb];obtain⟨M,N⟩:=hX f j;have O:=qZ j;clear M N f j;go_simp;go_wp2_with fail;go_ret;exact⟨rfl,O⟩
end
end pick
theorem I9{A:Prop}(h:A:=by
 have HJ:=qZ jb;clear jb;refine dM ?_;intro K HK;exact HK _ _ ⟨(),_,rfl,rfl,HJ⟩):A:=h
namespace pick
open tal
section
variable {w:eX}{g lb h mb cb n xt xl xb:Nat}{Y:Ty}{T:tab.Tb}
def Pz(Y:Ty)(b:Nat):Int:=bits .andNot .i64 (allI (Y.D:Int)) (Y.mask (b:Int):Int)
def Px(Y:Ty)(T:tab.Tb)(b:Nat)(l:Nat):Bool:=bits .and .i64 (tab.At6.of (tab.Kh T.f (l:Int))).m (Pz Y b) !=0
def Pu(Y:Ty)(T:tab.Tb)(b:Nat):Bool:=(T.inL (b:Int)).any (Px Y T b)
theorem J2(v:View w g lb Y h mb cb n T)(l b:Nat)(W:l≤65536)(Z:xt<w.heap.size)(ab:xb<w.heap.size)(E:w.cell? ⟨xt,0,none⟩=some (.pointer (some ⟨g,0,none⟩)))(cl:w.cell? ⟨xl,0,none⟩=some (.pointer (some ⟨h,0,none⟩)))(G:w.cell? ⟨xb,0,none⟩=some (.int .i64 (b:Int))):
 Calls eD 190 #[(l:Int),xl,xt,xb] w fun e w'=>e=.returned (.bool (Px Y T b l))∧ek w.heap.size w w':=by
 have HG:=qZ (tab.Fy v.tab (l:Int) (eB W));have H:=qZ (show Px Y T b l=(bits .and .i64 (tab.At6.of (tab.Kh T.f (l:Int))).m (Pz Y b) !=0)from rfl);generalize tab.At6.of (tab.Kh T.f (l:Int))=a at*;generalize (tab.Kh T.f (l:Int)).isSome=s at*;have HV:=qZ v;have CT:=qZ E;have CB:=qZ G;clear v E G;go_enter func190, ntmps190;go_wp2_with fail;refine HG.mono ?_;rintro e r ⟨rfl,k⟩;have I:=k.alloc k.size (.cells tab.At6.zero.v.toArray 96);have ad:=k.size;have ak:=qZ k;clear k;go_upto_region 2 with(first|(refine ag rfl 96 (.tmp 6) (.tmp 13) rfl r.heap.size a.v rfl rfl 96 _ (aj r _ _ rfl) tab.jG rfl (tab.nZ _) ?_;intro q u;have h5:=u.at_;have j:=u.below I ad;clear u I cl))

 have hq:=j.size;have v:=HV.out.below j;have M:=(j.cell (p:=⟨xt,0,none⟩) Z).trans CT.out;have db:=(j.cell (p:=⟨xb,0,none⟩) ab).trans CB.out;have N:xt<q.heap.size:=by omega
 have af:xb<q.heap.size:=by omega
 have HA:=qZ h5;have O:=qZ j;clear h5 j hq
 refine dz (X:=Unit) (fun _=> [(some 15,g),(some 16,.agg #[(Y.D:Int),(Y.B:Int),(Y.P:Int)]),(some 17,(Y.D:Int)),(some 18,.int .i64 (allI (Y.D:Int))),(some 19,g),(some 20,(b:Int)),(some 21,.int .i64 (Y.mask (b:Int):Int)),(some 22,.int .i64 (Pz Y b)),(some 8,.int .i64 (Pz Y b))])
  (fun _ L w'=>ek q.heap.size q w') ⟨(),fun _ _=>(fo _ q).drew⟩ ?_ ?_
 · refine⟨?_,?_,?_,?_,?_,?_,?_,?_,?_,trivial⟩
   all_goals
    intro ux L w' R hpre f a ha he;try simp[Region.binds]at hpre
   · have jb:=f.out
     have c:=(jb.cell (p:=⟨xt,0,none⟩) N).trans M;exact I9
   · have jb:=f.out
     have z:=qZ (tal.rz (v.tal.below jb));have HJ:=qZ jb;clear jb;refine dM ?_;intro K HK;refine z.out.mono ?_;rintro e S ⟨rfl,hb⟩;exact HK _ _ ⟨(),_,rfl,rfl,HJ.trans (hb.mono HJ.size)⟩
   · have jb:=f.out
     have al:=cO;exact I9
   · have jb:=f.out
     have HJ:=qZ jb;clear jb;refine dM ?_;intro K HK;refine(ng _ _).mono ?_;rintro e S ⟨rfl,rfl⟩;exact HK _ _ ⟨(),_,rfl,rfl,HJ⟩
   · have jb:=f.out
     have c:=(jb.cell (p:=⟨xt,0,none⟩) N).trans M;exact I9
   · have jb:=f.out
     have c:=(jb.cell (p:=⟨xb,0,none⟩) af).trans db;exact I9
   · have jb:=f.out
     have z:=qZ (tal.Cg (v.tal.below jb) (b:Int));have HJ:=qZ jb;clear jb;refine dM ?_;intro K HK;refine z.out.mono ?_;rintro e S ⟨rfl,ah,rfl⟩;exact HK _ _ ⟨(),_,rfl,rfl,aF HJ ah⟩
   · have jb:=f.out
     exact I9
   · have jb:=f.out
     refine Wn ?_;exact cZ (.tmp 22) (.inr rfl) (.int .i64 (Pz Y b)) (aZ 7) ⟨(),_,rfl,rfl,jb⟩
 · intro _ L w' R f
   have jb:=f;clear R;simp only[jm,kb];have U:=qZ jb;have V:=aa HA U;have hm:w'.cell? ⟨r.heap.size,3,none⟩=some (.int .i64 a.m):=by rw[ae V];rfl
   have ai:=qZ (O.trans (U.mono O.size));clear V jb;obtain⟨lo,D⟩:∃lo,lo=Pz Y b:=⟨_,rfl⟩;simp only[←D];rw[←D]at H;clear D;go_simp;go_wp2_with fail;go_ret;exact⟨by rw[H.out];rfl,ai⟩
end
end pick
theorem yay{A:Prop}(h:A:=by
 go_upto_region 1 with fail
 clear hw2;go_wp2_with fail;refine HS.mono ?_;rintro e w3 ⟨u,rfl,hown,hb3⟩;have HO:=qZ hown;have HB3:=qZ hb3;clear hown hb3;go_wp2_with fail;go_ret;refine⟨u,rfl,?_,HB.trans (HB3.mono HB.size)⟩;rw[HE.out];exact BH HO (by omega)):A:=h
namespace pick
open tal
theorem Fj(f:tab.Mg)(b:Int)(k:Nat):∀x∈tab.Nc f b k,x<k:=by
 intro x c;unfold tab.Nc at c;exact tr.1 (l8.1 c).1
section
variable {w:eX}{g lb h mb cb n xt xl:Nat}{Y:Ty}{T:tab.Tb}
theorem J3(v:View w g lb Y h mb cb n T)(b:Nat)(R:b≤65536)(S:xt<w.heap.size)(U:xl<w.heap.size)(q:w.cell? ⟨xt,0,none⟩=some (.pointer (some ⟨g,0,none⟩)))(r:w.cell? ⟨xl,0,none⟩=some (.pointer (some ⟨h,0,none⟩))):
 Calls eD 189 #[.int .i64 (b:Int),.pointer (some ⟨xl,0,none⟩),.pointer (some ⟨xt,0,none⟩)] w fun e m=>e=.returned (.bool (Pu Y T b))∧ek w.heap.size w m:=by
 have ad:∀(t:Fn) (first u:Array iP) (w:eX),(kd t first u).run eD w=.ok (.func t first u) w:=fun _ _ _ _=>rfl
 have V:∀z w,(callFunc 190 z).run eD w=.ok (.enter 190 z) w:=l5 func190 (by kernel_rfl) rfl;have f:=JT.aC w (.cells #[(b:Int)] 3);have B:=qZ (v.below f);have C:(w.alloc (.cells #[(b:Int)] 3)).cell? ⟨w.heap.size,0,none⟩=some (.int .i64 (b:Int)):=by rw[ae (aj w _ _ rfl)];rfl
 have D:=(f.cell (p:=⟨xt,0,none⟩) S).trans q;have E:=(f.cell (p:=⟨xl,0,none⟩) U).trans r;have af:(w.alloc (.cells #[(b:Int)] 3)).heap.size=w.heap.size+1:=by simp
 have G:=qZ (tab.dN (B.tab) (b:Int) (eB R));have X:=qZ f;have H:=qZ (show Pu Y T b=(T.inL (b:Int)).any (Px Y T b)from rfl)
 have I:=qZ (show∀x∈T.inL (b:Int),x≤65536 from fun x Z=>by
  have J:=Fj _ _ _ x Z;have K:=v.tab.ok.log;omega)
 have M:=qZ (show(T.inL (b:Int)).length≤65536 from by
  have J:=tab.C5 T.f (b:Int) T.logical;have K:=v.tab.ok.log;exact kk J K)
 obtain⟨L,N⟩:∃L,L=T.inL (b:Int):=⟨_,rfl⟩;rw[←N]at G H I M;clear v f q r N;go_enter func189, ntmps189;go_upto_region 1 with fail
 generalize w.alloc (.cells #[(b:Int)] 3)=k at*;go_wp2_with fail;refine G.mono ?_;rintro e O ⟨vL,rfl,o,i⟩;have ag:=i.size
 have hK:Hid (∀a W,a≤65536→ek O.heap.size O W→Calls eD 190 (#[.int .i64 (a:Int)]++ #[.pointer (some ⟨xl,0,none⟩),.pointer (some ⟨xt,0,none⟩),.pointer (some ⟨w.heap.size,0,none⟩)]) W fun e m=>e=.returned (.bool (Px Y T b a))∧ek W.heap.size W m):=qZ (by
  intro a W ha aa;have j:=i.trans (aa.mono i.size);have ah:=j.size;exact J2 (B.below j) a b ha (by omega) (by omega) ((j.cell (p:=⟨xt,0,none⟩) (by show xt<k.heap.size;omega)).trans D) ((j.cell (p:=⟨xl,0,none⟩) (by show xl<k.heap.size;omega)).trans E) ((j.cell (p:=⟨w.heap.size,0,none⟩) (by show w.heap.size<k.heap.size;omega)).trans C))
 obtain⟨A,c,rfl⟩:∃A c,vL=.slice A L.length c:=by
  rcases o.2 with⟨e,h⟩|⟨g,cp,ai,e,-⟩
  · exact⟨none,0,by rw[h];exact e⟩
  · exact⟨_,_,e⟩
 have HC:=qZ (gh (c:=c) (l:=L) rfl (Rd.O4 o) M I 190 #[xl,xt,w.heap.size] V (Px Y T b) hK.out);have P:=qZ (X.trans (i.mono (show w.heap.size≤k.heap.size by omega)));clear o i D E C;go_wp2_with fail;refine HC.mono ?_;rintro e w3 ⟨rfl,Q⟩;have ab:=qZ (P.trans (Q.mono P.size));clear Q;go_wp2_with fail;go_ret;exact⟨by rw[H.out];rfl,ab⟩
theorem BH{w:eX}{B c:Nat}{e:zl}{k:Nat}{v:iP}{n:Nat}{f:List iP}(h:w.ownsRow B e k v n f)(i:c≤B):w.ownsRow c e k v n f:=by
 refine⟨h.1,?_⟩;rcases h.2 with b|⟨g,j,l,m,b,o⟩
 · exact .inl b
 · exact .inr ⟨g,j,l,m,kk i b,o⟩
def LJ(Y:Ty)(T:tab.Tb)(b:Int):List Nat:=KN (NM Y T) b Y.B
def Lx(Y:Ty)(T:tab.Tb)(b:Int):List Nat:=KN (M4 Y T) b Y.B
def M8(Y:Ty)(T:tab.Tb)(b:Int):List Nat:=KN (OD Y T) b Y.B
def LI(Y:Ty)(T:tab.Tb):List Nat:=KN (Pu Y T) (-1) Y.B
theorem sL(p:Nat→Bool)(b:Int)(k:Nat):∀x∈KN p b k,x<k:=fun x c=>tr.1 (l8.1 c).1
theorem ye(v:View w g lb Y h mb cb n T):∃b,(w.alloc (.cells #[g] 83)).alloc (.cells #[h] 84)=b∧View b g lb Y h mb cb n T∧b.cell? ⟨w.heap.size,0,none⟩=some (.pointer (some ⟨g,0,none⟩))∧b.cell? ⟨w.heap.size+1,0,none⟩=some (.pointer (some ⟨h,0,none⟩))∧ek w.heap.size w b∧b.heap.size=w.heap.size+2:=by
 have c:=cG w (.cells #[g] 83) (.cells #[h] 84);refine⟨_,rfl,v.below c,?_,?_,c,by simp⟩
 · rw[ae (bu w _ _)];rfl
 · rw[ae (aj (w.alloc _) _ (w.heap.size+1) (by simp))];rfl
theorem uc(v:View w g lb Y h mb cb n T)(c:Int):Calls eD 175 #[g,h,c] w fun e j=>∃u,e=.returned u∧j.ownsRow w.heap.size 3 1 u (LJ Y T c).length (An .i64 (LJ Y T c))∧ek w.heap.size w j:=by
 have C:∀(k:Fn) (first l:Array iP) (w:eX),(kd k first l).run eD w=.ok (.func k first l) w:=fun _ _ _ _=>rfl
 have r:∀m w,(callFunc 224 m).run eD w=.ok (.enter 224 m) w:=l5 func224 (by kernel_rfl) rfl;obtain⟨o,hw2,i,t,z,q,D⟩:=ye v;have B:=v.tal.ok.geo.2.2.2.1
 have HS:=qZ (jR i.tal 224 #[w.heap.size,.pointer (some ⟨w.heap.size+1,0,none⟩)] r (c) (NM Y T) (by
  intro b W E f;have G:=f.size;exact J8 (i.below f) b (by omega) ((f.cell (p:=⟨w.heap.size,0,none⟩) (by show w.heap.size<o.heap.size;omega)).trans t) ((f.cell (p:=⟨w.heap.size+1,0,none⟩) (by show w.heap.size+1<o.heap.size;omega)).trans z)))
 have HB:=qZ q;have HE:=qZ (show LJ Y T c=KN (NM Y T) (c) Y.B from rfl);clear v i q B;go_enter func175, ntmps175;exact yay
theorem Iw(v:View w g lb Y h mb cb n T)(c:Int):Calls eD 109 #[g,h,c] w fun e j=>∃u,e=.returned u∧j.ownsRow w.heap.size 3 1 u (Lx Y T c).length (An .i64 (Lx Y T c))∧ek w.heap.size w j:=by
 have C:∀(k:Fn) (first l:Array iP) (w:eX),(kd k first l).run eD w=.ok (.func k first l) w:=fun _ _ _ _=>rfl
 have r:∀m w,(callFunc 169 m).run eD w=.ok (.enter 169 m) w:=l5 func169 (by kernel_rfl) rfl;obtain⟨o,hw2,i,t,z,q,D⟩:=ye v;have B:=v.tal.ok.geo.2.2.2.1
 have HS:=qZ (jR i.tal 169 #[w.heap.size,.pointer (some ⟨w.heap.size+1,0,none⟩)] r (c) (M4 Y T) (by
  intro b W E f;have G:=f.size;exact G6 (i.below f) b (by omega) ((f.cell (p:=⟨w.heap.size,0,none⟩) (by show w.heap.size<o.heap.size;omega)).trans t) ((f.cell (p:=⟨w.heap.size+1,0,none⟩) (by show w.heap.size+1<o.heap.size;omega)).trans z)))
 have HB:=qZ q;have HE:=qZ (show Lx Y T c=KN (M4 Y T) (c) Y.B from rfl);clear v i q B;go_enter func109, ntmps109;exact yay
theorem J1(v:View w g lb Y h mb cb n T):Calls eD 124 #[g,h] w fun e i=>∃u,e=.returned u∧i.ownsRow w.heap.size 3 1 u (LI Y T).length (An .i64 (LI Y T))∧ek w.heap.size w i:=by
 have B:∀(j:Fn) (first k:Array iP) (w:eX),(kd j first k).run eD w=.ok (.func j first k) w:=fun _ _ _ _=>rfl
 have q:∀l w,(callFunc 189 l).run eD w=.ok (.enter 189 l) w:=l5 func189 (by kernel_rfl) rfl;obtain⟨m,hw2,f,r,t,o,C⟩:=ye v;have z:=v.tal.ok.geo.2.2.2.1
 have HS:=qZ (jR f.tal 189 #[.pointer (some ⟨w.heap.size+1,0,none⟩),.pointer (some ⟨w.heap.size,0,none⟩)] q (-1) (Pu Y T) (by
  intro b W D c;have E:=c.size;exact J3 (f.below c) b (by omega) (by omega) (by omega) ((c.cell (p:=⟨w.heap.size,0,none⟩) (by show w.heap.size<m.heap.size;omega)).trans r) ((c.cell (p:=⟨w.heap.size+1,0,none⟩) (by show w.heap.size+1<m.heap.size;omega)).trans t)))
 have HB:=qZ o;have HE:=qZ (show LI Y T=KN (Pu Y T) (-1) Y.B from rfl);clear v f o z;go_enter func124, ntmps124;exact yay
theorem Ct{w:eX}{B n:Nat}{u:iP}{b:List iP}(h:w.ownsRow B 3 1 u n b):∃A c,u=.slice A n c:=by
 rcases h.2 with⟨e,h⟩|⟨g,f,i,e,-⟩
 · exact⟨none,0,by rw[h];exact e⟩
 · exact⟨_,_,e⟩
theorem Iz(v:View w g lb Y h mb cb n T)(b:Int):Calls eD 112 #[g,h,b] w fun e j=>e=.returned (.int .i64 ((LJ Y T b).length:Int))∧ek w.heap.size w j:=by
 have k:=qZ (uc v b);generalize LJ Y T b=L at*;clear v;go_enter func112, ntmps112;go_wp2_with fail;refine k.mono ?_;rintro e m ⟨u,rfl,f,i⟩;have l:=qZ i;obtain⟨A,c,rfl⟩:=Ct f;clear i f;go_wp2_with fail;go_ret;exact⟨rfl,l⟩
theorem Jh(v:View w g lb Y h mb cb n T)(c:Int):Calls eD 144 #[g,h,c] w fun e B=>e=.returned (.int .i64 (Ly (LO Y) (LJ Y T c)))∧ek w.heap.size w B:=by
 have O:∀(j:Fn) (first k:Array iP) (w:eX),(kd j first k).run eD w=.ok (.func j first k) w:=fun _ _ _ _=>rfl
 have C:∀l w,(callFunc 207 l).run eD w=.ok (.enter 207 l) w:=l5 func207 (by kernel_rfl) rfl;have i:=JT.aC w (.cells #[g] 83);have m:=qZ (v.below i);have o:(w.alloc (.cells #[g] 83)).cell? ⟨w.heap.size,0,none⟩=some (.pointer (some ⟨g,0,none⟩)):=by rw[ae (aj w _ _ rfl)];rfl
 have P:(w.alloc (.cells #[g] 83)).heap.size=w.heap.size+1:=by simp
 have D:=qZ (uc m c);have q:=qZ i;have E:=qZ (show(LJ Y T c).length≤16 from kk (kN _ _ _) v.tal.ok.geo.2.2.2.1)
 have G:=qZ (show∀x∈LJ Y T c,x≤65536 from fun x H=>by
  have Q:=sL _ _ _ x H;have R:=v.tal.ok.geo.2.2.2.1;omega)
 clear v i;generalize LJ Y T c=L at*;generalize I:w.alloc (.cells #[g] 83)=J at*;go_enter func144, ntmps144;go_upto_region 1 with fail
 clear I;go_wp2_with fail;refine D.mono ?_;rintro e S ⟨u,rfl,r,f⟩
 have K:=qZ (qm r rfl (by have:=E.out;omega) G 207 #[w.heap.size] C (LO Y) (by
  intro a b W U V M;have t:=f.trans (M.mono f.size);exact Ji (m.below t) a b ((t.cell (p:=⟨w.heap.size,0,none⟩) (by show w.heap.size<J.heap.size;omega)).trans o)))
 have z:=qZ (q.trans (f.mono q.size));clear r f o;go_wp2_with fail;refine K.mono ?_;rintro e X ⟨rfl,A⟩;have N:=qZ (z.trans (A.mono z.size));clear A;go_wp2_with fail;go_ret;exact⟨rfl,N⟩
theorem Gx(v:View w g lb Y h mb cb n T)(c:Int):Calls eD 113 #[g,h,c] w fun e H=>e=.returned (.int .i64 (Ly (LQ Y T) (M8 Y T c)))∧ek w.heap.size w H:=by
 have U:∀(t:Fn) (first u:Array iP) (w:eX),(kd t first u).run eD w=.ok (.func t first u) w:=fun _ _ _ _=>rfl
 have I:∀i w,(callFunc 176 i).run eD w=.ok (.enter 176 i) w:=l5 func176 (by kernel_rfl) rfl;have J:∀i w,(callFunc 178 i).run eD w=.ok (.enter 178 i) w:=l5 func178 (by kernel_rfl) rfl;obtain⟨j,K,k,q,r,l,V⟩:=ye v;have z:=v.tal.ok.geo.2.2.2.1
 have A:=qZ (jR k.tal 176 #[.pointer (some ⟨w.heap.size+1,0,none⟩),w.heap.size] I c (OD Y T) (by
  intro b W X f;have L:=f.size;exact IH (k.below f) b (by omega) ((f.cell (p:=⟨w.heap.size,0,none⟩) (by show w.heap.size<j.heap.size;omega)).trans q) ((f.cell (p:=⟨w.heap.size+1,0,none⟩) (by show w.heap.size+1<j.heap.size;omega)).trans r)))
 have B:=qZ l;have C:KN (OD Y T) c Y.B=M8 Y T c:=rfl;rw[C]at A;have M:=qZ (show(M8 Y T c).length≤16 from kk (kN _ _ _) z)
 have N:=qZ (show∀x∈M8 Y T c,x≤65536 from fun x O=>by
  have Z:=sL _ _ _ x O;omega)
 have P:=qZ k;clear v k l z C;generalize M8 Y T c=aa at*;go_enter func113, ntmps113;go_upto_region 1 with fail
 clear K;go_wp2_with fail;refine A.mono ?_;rintro e w3 ⟨ab,rfl,D,m⟩
 have Q:=qZ (qm D rfl (by have:=M.out;omega) N 178 #[.pointer (some ⟨w.heap.size+1,0,none⟩),w.heap.size] J (LQ Y T) (by
  intro a b W R l f;have o:=m.trans (f.mono m.size);have L:=o.size;exact IG (P.below o) a b R l (by omega) (by omega) ((o.cell (p:=⟨w.heap.size,0,none⟩) (by show w.heap.size<j.heap.size;omega)).trans q) ((o.cell (p:=⟨w.heap.size+1,0,none⟩) (by show w.heap.size+1<j.heap.size;omega)).trans r)))
 have E:=qZ (B.trans (m.mono B.size));clear D m q r;go_wp2_with fail;refine Q.mono ?_;rintro e w4 ⟨rfl,G⟩;have S:=qZ (E.trans (G.mono E.size));clear G;go_wp2_with fail;go_ret;exact⟨rfl,S⟩
end
end pick
namespace dev
open JT (Nd JS)
open tal (Ty Kb L1)
def Mi(N:Nd)(k:Nat)(Y:Ty):Ty:=(jI k).foldl (fun Y (d:Nat)=>if N.dead.getD d false then Y.Mu d else Y) Y
def OF(N:Nd)(b:Nat)(Y:Ty)(d:Nat):Ty:=
 if hasB ((Y.OI b ((N.blk d b).KP:Int)).mask b:Int) d&&decide (0<(N.blk d b).cells.length)then(Y.OI b ((N.blk d b).KP:Int)).clean b false else Y.OI b ((N.blk d b).KP:Int)
def NQ(N:Nd)(b k:Nat)(Y:Ty):Ty:=(jI k).foldl (OF N b) Y
def LR(N:Nd)(k:Nat)(Y:Ty):Ty:=(jI k).foldl (fun Y b=>NQ N b N.D Y) Y
def KH(N:Nd):Ty:=LR N N.B (Mi N N.D (Ty.new N.D N.B N.P))
theorem lZ(N:Nd)(k:Nat)(Y:Ty):Mi N (k+1) Y=if N.dead.getD k false then(Mi N k Y).Mu k else Mi N k Y:=by
 unfold Mi;rw[js,hG];rfl
theorem lY(N:Nd)(b k:Nat)(Y:Ty):NQ N b (k+1) Y=OF N b (NQ N b k Y) k:=by
 unfold NQ;rw[js,hG];rfl
theorem iI(N:Nd)(k:Nat)(Y:Ty):LR N (k+1) Y=NQ N k N.D (LR N k Y):=by
 unfold LR;rw[js,hG];rfl
def Dim(Y Z:Ty):Prop:=Y.D=Z.D∧Y.B=Z.B∧Y.P=Z.P
theorem Dim.refl(Y:Ty):Dim Y Y:=⟨rfl,rfl,rfl⟩
theorem Dim.trans{X Y Z:Ty}(h:Dim X Y)(b:Dim Y Z):Dim X Z:=⟨h.1.trans b.1,h.2.1.trans b.2.1,h.2.2.trans b.2.2⟩
theorem cD(Y:Ty)(b:Int)(f:tal.Sb→tal.Sb):Dim (Y.upd b f) Y:=by unfold Ty.upd;split<;>exact⟨rfl,rfl,rfl⟩
theorem fK(Y:Ty)(d:Int):Dim (Y.Mu d) Y:=by unfold Ty.Mu;split<;>exact⟨rfl,rfl,rfl⟩
theorem r9(Y:Ty)(d b:Int):Dim (Y.Ov d b) Y:=by
 unfold Ty.Ov;split
 · exact cD _ _ _
 · exact Dim.refl _
theorem dK{b:Type}(f:Ty→b→Ty)(c:∀Y a,Dim (f Y a) Y):∀(l:List b) (Y:Ty),Dim (l.foldl f Y) Y
 |[],Y=>Dim.refl Y
 |a::l,Y=>(dK f c l (f Y a)).trans (c Y a)
theorem eJ(N:Nd)(k:Nat)(Y:Ty):Dim (Mi N k Y) Y:=dK _ (fun Y d=>by
 show Dim (if _ then _ else _) _;split
 · exact fK _ _
 · exact Dim.refl _) _ _
theorem Dn(N:Nd)(b:Nat)(Y:Ty)(d:Nat):Dim (OF N b Y d) Y:=by
 unfold OF;split
 · exact(cD _ _ _).trans (cD _ _ _)
 · exact cD _ _ _
theorem wv(N:Nd)(b k:Nat)(Y:Ty):Dim (NQ N b k Y) Y:=dK _ (Dn N b) _ _
theorem ga(N:Nd)(k:Nat)(Y:Ty):Dim (LR N k Y) Y:=dK _ (fun Y b=>wv N b N.D Y) _ _
theorem eI{w:eX}{base g m:Nat}{N:Nd}(h:JS w base g m N):Calls eD 20 #[g] w fun e b=>e=.returned (.agg #[(N.D:Int),(N.B:Int),(N.P:Int)])∧ek w.heap.size w b:=by
 obtain⟨Y,-,h⟩:=h;exact JT.rz h
theorem nc{w:eX}{base g m:Nat}{N:Nd}(h:JS w base g m N)(d:Nat)(c:d<N.D):Calls eD 44 #[g,(d:Int)] w fun e b=>e=.returned (.bool (N.dead.getD d false))∧w=b:=by
 obtain⟨Y,-,h⟩:=h;exact JT.u0 h (d:Int) (by omega) (by omega)
theorem jD{c w e:eX}{B:Nat}{S:Nat→Prop}(f:ek B c w)(b:Kj S w e)(g:∀k,S k→B≤k)(i:B≤c.heap.size):ek B c e:=
 f.trans ⟨b.os,b.tape,b.output,b.size,fun k j=>b.block k (by have:=f.size;omega) (fun h=>by have:=g k h;omega)⟩
section
variable {w:eX}{base g m:Nat}{N:Nd}
theorem GQ(h:JS w base g m N):Calls eD 64 #[.pointer (some ⟨g,0,none⟩)] w fun e w'=>∃o q,e=.returned (.pointer (some ⟨o,0,none⟩))∧Kb w' o q (KH N)∧w.heap.size≤o∧w.heap.size≤q∧ek w.heap.size w w':=by
 have aM:=tal.JY;have S:=qZ (eI h);have T:=qZ h;have U:=h.ok.geo;have L:=qZ (fun W=>tal.mR W N.D N.B N.P U);have u:=qZ (show KH N=LR N N.B (Mi N N.D (Ty.new N.D N.B N.P))from rfl);have t:=qZ (show(Ty.new N.D N.B N.P).D=N.D∧(Ty.new N.D N.B N.P).B=N.B from⟨rfl,rfl⟩);obtain⟨Y0,af⟩:∃Y0,Y0=Ty.new N.D N.B N.P:=⟨_,rfl⟩;obtain⟨D,V⟩:∃D,D=N.D:=⟨_,rfl⟩;obtain⟨B,X⟩:∃B,B=N.B:=⟨_,rfl⟩;rw[←af]at L u t;rw[←V]at U S L u t;rw[←X]at U S L u t;have M:=qZ V;have ag:=qZ X;clear h af V X;go_enter func64, ntmps64;go_wp2_with fail;refine S.mono ?_;rintro e w1 ⟨rfl,Y⟩;go_wp2_with fail;refine(L _).mono ?_;rintro e w2 ⟨o,q,rfl,c,aE,aG,ah⟩;have ai:=Y.size;have p:=qZ (show w.heap.size≤o∧w.heap.size≤q by omega);have aj:=Y.trans (ah.mono ai);have c0:=c.c0;rw[t.out.1]at c0;have l:=qZ c;have j:=qZ aj;clear Y ah aE aG c ai aj;go_wp2_with fail;clear c0;go_loopw [17] (fun i wr=>∃k:Nat,k≤D∧i=.int .i64 k∧Kb wr o q (Mi N k Y0)∧ek w.heap.size w wr) (fun i _=>D-(jg i).toNat)
 case atStart=>exact⟨0,by omega,rfl,l,j⟩
 case round=>
  obtain⟨k,hk,rfl,c,f⟩:=hrel;by_cases z:k<D
  · have r:=qZ (lZ N k Y0)
    have O:=qZ (nc (T.below f) k (by rw[←M.out];exact z));have l:=qZ c;have j:=qZ f;clear c f;cases C:N.dead.getD k false with
    |false=>
     rw[C]at O r;clear C;go_wp2_with fail;refine O.mono ?_;rintro e w3 ⟨rfl,rfl⟩;go_wp2_with fail;go_roundw
     case rel=>exact⟨k+1,by omega,by go_num,by rw[r.out];exact l,j⟩
     case measure=>simp[jg];omega
    |true=>
     rw[C]at O r;clear C;go_wp2_with fail;refine O.mono ?_;rintro e w3 ⟨rfl,rfl⟩;have Z:=qZ (tal.u0 l (k:Int));go_wp2_with fail;refine Z.mono ?_;rintro e w4 ⟨rfl,E,G⟩;have H:=qZ E;have aa:=qZ (jD j G (fun ak hj=>by rcases hj with rfl|rfl;exact p.1;exact p.2) (fj _));clear E G;go_wp2_with fail;go_roundw
     case rel=>exact⟨k+1,by omega,by go_num,by rw[r.out];exact H,aa⟩
     case measure=>simp[jg];omega
  · obtain rfl:k=D:=by omega
    have ab:=qZ (show(Mi N k Y0).D=k∧(Mi N k Y0).B=B from⟨(eJ N k Y0).1.trans t.1,(eJ N k Y0).2.1.trans t.2⟩);obtain⟨Y1,al⟩:∃Y1,Y1=Mi N k Y0:=⟨_,rfl⟩;rw[←al]at c ab u;have c3:=c.c3;rw[ab.out.2]at c3;have l:=qZ c;have j:=qZ f;clear c f al z hk;go_wp2_with fail;clear c3;go_loopw [32] (fun i wr=>∃b:Nat,b≤B∧i=.int .i64 b∧Kb wr o q (LR N b Y1)∧ek w.heap.size w wr) (fun i _=>B-(jg i).toNat)
    case atStart=>exact⟨0,by omega,rfl,l,j⟩
    case round=>
     obtain⟨b,hb,rfl,c,f⟩:=hrel;by_cases z:b<B
     · have r:=qZ (iI N b Y1)
       have an:=qZ ((ga N b Y1).1.trans ab.1);obtain⟨Y2,ao⟩:∃Y2,Y2=LR N b Y1:=⟨_,rfl⟩;rw[←ao]at c r an;have c0:=c.c0;rw[an.out]at c0;have l:=qZ c;have j:=qZ f;clear c f ao;go_wp2_with fail;clear c0;go_loopw [40] (fun i wr=>∃d:Nat,d≤k∧i=.int .i64 d∧Kb wr o q (NQ N b d Y2)∧ek w.heap.size w wr) (fun i _=>k-(jg i).toNat)
       case atStart=>exact⟨0,by omega,rfl,l,j⟩
       case round=>
        obtain⟨d,C,rfl,c,f⟩:=hrel;by_cases aq:d<k
        · have n:=qZ (lY N b d Y2)
          obtain⟨Y3,ar⟩:∃Y3,Y3=NQ N b d Y2:=⟨_,rfl⟩;rw[←ar]at c n;have HW:=qZ (JT.Eb (T.below f) d b (by rw[←M.out];exact aq) (by rw[←ag.out];exact z));obtain⟨P,au⟩:∃P,P=(N.blk d b).KP:=⟨_,rfl⟩;unfold OF at n;rw[←au]at HW n;have l:=qZ c;have j:=qZ f;clear c f ar au;go_wp2_with fail;refine HW.mono ?_;rintro e w3 ⟨rfl,ad⟩;have Z:=qZ (tal.IB (l.below ad) (b:Int) (P:Int));have aH:=qZ (j.trans (ad.mono j.size));clear ad;go_wp2_with fail;refine Z.mono ?_;rintro e w4 ⟨rfl,E,G⟩;have aa:=qZ (jD aH G (fun ak hj=>by rcases hj with rfl|rfl;exact p.1;exact p.2) (fj _));have H:=qZ E;obtain⟨Y4,av⟩:∃Y4,Y4=Y3.OI (b:Int) (P:Int):=⟨_,rfl⟩;rw[←av]at H n;have HM:=qZ (tal.Cg H (b:Int));obtain⟨I,aw⟩:∃I,I=Y4.mask (b:Int):=⟨_,rfl⟩;rw[←aw]at HM n;obtain⟨J,ax⟩:∃J,J=(N.blk d b).cells.length:=⟨_,rfl⟩;have ay:=qZ (fun W (hW:ek w.heap.size w W)=>JT.ES (T.below hW) d b (by rw[←M.out];exact aq) (by rw[←ag.out];exact z));rw[←ax]at ay n;clear E G av aw ax;go_wp2_with fail;refine HM.mono ?_;rintro e w5 ⟨rfl,n5,rfl⟩;have az:=qZ (tal.Dk H n5);have Q:=qZ (aF aa n5);cases R:hasB (I:Int) (d:Int)with
          |false=>
           have K:=qZ (fun W=>dC (I:Int) (d:Int) W);rw[R]at K n;clear R;go_wp2_with fail;refine(K _).mono ?_;rintro e w6 ⟨rfl,rfl⟩;go_wp2_with fail;go_roundw
           case rel=>exact⟨d+1,by omega,by go_num,by rw[n.out];exact az,Q⟩
           case measure=>simp[jg];omega
          |true=>
           have K:=qZ (fun W=>dC (I:Int) (d:Int) W);rw[R]at K n;clear R;go_wp2_with fail;refine(K _).mono ?_;rintro e w6 ⟨rfl,rfl⟩;have aI:=qZ (ay _ Q);go_wp2_with fail;refine aI.mono ?_;rintro e w7 ⟨rfl,ae⟩;have aA:=qZ (az.below ae);have aB:=qZ (Q.trans (ae.mono Q.size));clear ae;by_cases hc:0<J
           · rw[decide_eq_true hc]at n
             have aJ:=qZ (tal.I2 aA (b:Int) false);have aN:(0:Int)<(J:Int):=by omega
             go_wp2_with fail;refine aJ.mono ?_;rintro e w8 ⟨rfl,aC,aD⟩;have aK:=qZ aC;have aL:=qZ (jD aB aD (fun ak hj=>by rcases hj with rfl|rfl;exact p.1;exact p.2) (fj _));clear aC aD;go_wp2_with fail;go_roundw
             case rel=>exact⟨d+1,by omega,by go_num,by rw[n.out];exact aK,aL⟩
             case measure=>simp[jg];omega
           · rw[decide_eq_false hc]at n
             obtain rfl:J=0:=by omega
             go_wp2_with fail;go_roundw
             case rel=>exact⟨d+1,by omega,by go_num,by rw[n.out];exact aA,aB⟩
             case measure=>simp[jg];omega
        · obtain rfl:d=k:=by omega
          have l:=qZ c;have j:=qZ f;clear c f;go_wp2_with fail;go_roundw
          case rel=>exact⟨b+1,by omega,by go_num,by rw[r.out,←M.out];exact l,j⟩
          case measure=>simp[jg];omega
     · obtain rfl:b=B:=by omega
       have l:=qZ c;have j:=qZ f;clear c f;go_wp2_with fail;go_ret;exact⟨_,_,rfl,by rw[u.out];exact l,p.1,p.2,j⟩
end
open JT (Nd)
open tal (Ty Sb orN ML)
def Pd(N:Nd)(b c:Nat)(s:Sb)(d:Nat):Sb:=⟨max s.Lp ((N.blk d b).KP:Int),s.bad,s.used ||(hasB (c:Int) (d:Int)&&decide (0<(N.blk d b).cells.length)),s.held⟩
def NS(N:Nd)(b c:Nat)(s:Sb)(k:Nat):Sb:=(jI k).foldl (Pd N b c) s
theorem kP(N:Nd)(b c:Nat)(s:Sb)(k:Nat):NS N b c s (k+1)=Pd N b c (NS N b c s k) k:=by
 unfold NS;rw[js,hG,jm,kb]
theorem nF(N:Nd)(b c:Nat)(s:Sb):∀k,(NS N b c s k).bad=s.bad∧(NS N b c s k).held=s.held
 |0=>⟨rfl,rfl⟩
 |k+1=>by rw[kP];exact nF N b c s k
def Oj(Y:Ty)(b:Nat)(s:Sb):Ty:={Y with sb:=Y.sb.set b s}
theorem tM{Y:Ty}{b:Nat}{s c:Sb}(h:Y.sb[b]? =some s)(e:c.bad=s.bad):(Oj Y b c).mask (b:Int)=Y.mask (b:Int):=by
 have f:=(ej.1 h).1;have g:(Oj Y b c).sb[b]? =some c:=by simp[Oj,f]
 unfold Ty.mask;rw[tal.ru h,tal.ru g];show ML (Oj Y b c).alive c.bad=_;rw[e];rfl
theorem vA{N:Nd}{b:Nat}{Y:Ty}{s:Sb}(h:Y.sb[b]? =some s)(d:Nat):OF N b Y d=Oj Y b (Pd N b (Y.mask (b:Int)) s d):=by
 have c:=(ej.1 h).1;have e:Y.OI (b:Int) ((N.blk d b).KP:Int)=Oj Y b {s with Lp:=max s.Lp ((N.blk d b).KP:Int)}:=by unfold Ty.OI;rw[tal.uP h];rfl
 have f:(Oj Y b {s with Lp:=max s.Lp ((N.blk d b).KP:Int)}).mask (b:Int)=Y.mask (b:Int):=tM h rfl;unfold OF;rw[e,f];cases i:hasB (Y.mask (b:Int):Int) (d:Int)&&decide (0<(N.blk d b).cells.length)with
 |false=>
  rw[if_neg (by simp)];unfold Pd;grind
 |true=>
  have g:(Oj Y b {s with Lp:=max s.Lp ((N.blk d b).KP:Int)}).sb[b]? =some {s with Lp:=max s.Lp ((N.blk d b).KP:Int)}:=by simp[Oj,c]
  rw[if_pos rfl];unfold Ty.clean;rw[tal.uP g];unfold Pd Oj;simp_all
theorem oh{N:Nd}{b:Nat}{Y:Ty}{s:Sb}(h:Y.sb[b]? =some s):∀k,NQ N b k Y=Oj Y b (NS N b (Y.mask (b:Int)) s k)
 |0=>by
  have c:=(ej.1 h);show Y=Oj Y b s;unfold Oj;rw[←c.2,List.set_getElem_self]
 |k+1=>by
  have c:=(ej.1 h).1;have e:(Oj Y b (NS N b (Y.mask (b:Int)) s k)).sb[b]? =some (NS N b (Y.mask (b:Int)) s k):=by simp[Oj,c]
  rw[lY,oh h k,vA e,tM h (nF _ _ _ _ k).1,kP];unfold Oj;simp
theorem mc(N:Nd)(Y:Ty):∀k,k≤Y.D→(Mi N k Y).dead=(jI k).foldl (fun m d=>if N.dead.getD d false then m |||2^d else m) Y.dead∧(Mi N k Y).sb=Y.sb
 |0,_=>⟨rfl,rfl⟩
 |k+1,h=>by
  obtain⟨b,c⟩:=mc N Y k (by omega);rw[lZ,js,hG,jm,kb]
  have e:(Mi N k Y).Pp (k:Int)=true:=by
   unfold Ty.Pp;rw[(eJ N k Y).1];simp;omega
  split
  · unfold Ty.Mu
    rw[e,if_pos rfl];refine⟨?_,c⟩;show orN _ _=_;rw[b];rfl
  simp_all
theorem zg{Y Z:Ty}(c:Y.D=Z.D)(e:Y.dead=Z.dead){b:Nat}{s:Sb}(h:Y.sb[b]? =some s):Y.mask (b:Int)=ML Z.alive s.bad:=by
 unfold Ty.mask;rw[tal.ru h];show ML Y.alive s.bad=_;unfold Ty.alive;grind
theorem mh(N:Nd)(Y:Ty)(g:∀s∈Y.sb,s=Sb.none):∀k,k≤Y.sb.length→(LR N k Y).dead=Y.dead∧(LR N k Y).sb.length=Y.sb.length∧∀b,b<Y.sb.length→(LR N k Y).sb[b]? =some (if b<k then NS N b (ML Y.alive 0) Sb.none N.D else Sb.none)
 |0,_=>⟨rfl,rfl,fun b c=>by
  rw[if_neg (by omega)];show Y.sb[b]? =_;rw[ed c,g _ (List.getElem_mem c)]⟩
 |k+1,h=>by
  obtain⟨i,j,l⟩:=mh N Y g k (by omega);have f:=l k (by omega);rw[if_neg (by omega)]at f;rw[iI,oh f];refine⟨i,by simp[Oj,j],fun b c=> ?_⟩;rw[zg (ga N k Y).1 i f];show((LR N k Y).sb.set k _)[b]? =_;rw[List.getElem?_set];by_cases e:k=b
  · subst e
    rw[if_pos rfl,if_pos (by omega),if_pos (by omega)];rfl
  grind
def Pe(l:List Bool)(k:Nat):Nat:=(jI k).foldl (fun m d=>if l.getD d false then m |||2^d else m) 0
theorem qC:∀a:Nat,a<64→ML a 0=a:=by decide+kernel
theorem u4(l:List Bool):∀k,k≤6→Pe l k<64
 |0,_=>by show(0:Nat)<64;decide
 |k+1,h=>by
  have:=u4 l k (by omega);unfold Pe at this⊢;rw[js,hG,jm,kb];split
  · exact(tal.Ed _ this k (by omega)).2
  omega
def MB(N:Nd):Nat:=ML (2^N.D-1) (Pe N.dead N.D)
theorem Ap{N:Nd}(h:N.D≤6):MB N<64:=tal.yf _ (tal.uH _ h).2 _ (u4 _ _ h)
theorem cV(N:Nd)(j:N.D≤6):Dim (KH N) (Ty.new N.D N.B N.P)∧(KH N).dead=Pe N.dead N.D∧(KH N).alive=MB N∧(KH N).sb.length=N.B∧∀b,b<N.B→(KH N).sb[b]? =some (NS N b (MB N) Sb.none N.D):=by
 have k:(Ty.new N.D N.B N.P).sb=gg N.B Sb.none:=rfl;obtain⟨c,l⟩:=mc N (Ty.new N.D N.B N.P) N.D (fj _);obtain⟨m,e,f⟩:=mh N (Mi N N.D (Ty.new N.D N.B N.P)) (fun s o=>by simp_all) N.B (by simp_all);rw[l,k,o4]at e f;have g:Dim (KH N) (Ty.new N.D N.B N.P):=(ga _ _ _).trans (eJ _ _ _);have h:(KH N).dead=Pe N.dead N.D:=m.trans c
 have n:(Mi N N.D (Ty.new N.D N.B N.P)).alive=MB N:=by
  unfold Ty.alive;rw[(eJ N N.D _).1,c];rfl
 refine⟨g,h,?_,e,fun b i=> ?_⟩
 · unfold Ty.alive
   rw[g.1,h];rfl
 · have:=f b i
   rw[if_pos i,n,qC _ (Ap j)]at this;exact this
theorem pQ(N:Nd)(b c:Nat):∀k,(NS N b c Sb.none k).used=true↔∃d,d<k∧hasB (c:Int) (d:Int)=true∧0<(N.blk d b).cells.length
 |0=>⟨fun h=>(by cases h),fun⟨d,h,_⟩=>(by omega)⟩
 |k+1=>by
  rw[kP];show((NS N b c Sb.none k).used ||_)=true↔_;rw[Bool.or_eq_true,pQ N b c k,Bool.and_eq_true,decide_eq_true_eq];grind
end dev
namespace pick
open tal
theorem Ca(b:Nat→Nat→Int):∀l:List Nat,l≠ []→N9 b l∈l
 |[],h=>absurd rfl h
 |x::l,_=>by
  show l.foldl _ x∈_
  have:∀(l:List Nat) (x:Nat),l.foldl (fun m y=>if b y m<0 then y else m) x∈x::l:=by
   intro l;induction l with
   |nil=>simp
   |cons y l c=>
    grind
  simp_all
theorem GW{ord:Nat→Nat→Int}{l:List Nat}:(Ly ord l= -1∧l=[])∨∃m,m∈l∧Ly ord l=(m:Int):=by
 unfold Ly;by_cases h:l=[]
 · simp_all
 · exact .inr ⟨_,Ca ord l h,by simp_all⟩
def Ty.KP(D B P:Nat)(W:Nat→Int):Ty:=⟨D,B,P,(jI B).map fun b=>⟨W b,0,false,false⟩,0⟩
end pick
namespace JT
structure LH (w:eX) (base pp:Nat) (A:Option px) (c:Nat) (l:List Flt):Prop where
 head:w.heap[pp]? =some (.cells #[.slice A l.length c] 295 (0,0))
 low:base≤pp
 rows:Rds w w.heap.size A 7 l.length (L3 l)
 at_:0<l.length→∃gb off cs fr,A=some ⟨gb,off,none⟩∧w.heap[gb]? =some (.cells cs 75 fr)∧base≤gb
 cap:l.length≤c∧c≤y0
 wf:∀f∈l,f.wf
theorem oM{l:List Flt}:∀r∈L3 l,r.length=7:=by
 exact ye8
section
variable {w w':eX}{base pp c:Nat}{A:Option px}{l:List Flt}
theorem LH.keep(h:LH w base pp A c l)(H:w.heap.size≤w'.heap.size)(q:∀k f t fr,w.heap[k]? =some (.cells f t fr)→(t= 295 ∨t= 75)→base≤k→w'.heap[k]? =some (.cells f t fr)):LH w' base pp A c l:=by
 refine⟨q _ _ _ _ h.head (.inl rfl) h.low,h.low,⟨h.rows.1,h.rows.2.1,fun g=> ?_⟩,fun g=> ?_,h.cap,h.wf⟩
 · obtain⟨b,o,e,I,B⟩:=h.rows.2.2 g
   obtain⟨z,off,f,fr,m,n,p⟩:=h.at_ g;rw[e]at m;cases m
   refine⟨b,o,e,by omega,fun i r j u C D=> ?_⟩;have E:=B i r j u C D;have G:=q _ _ _ _ n (.inr rfl) p;exact(World.cell?_of_block (G.trans n.symm)).trans E
 · obtain⟨z,off,f,fr,m,n,p⟩:=h.at_ g
   exact⟨z,off,f,fr,m,q _ _ _ _ n (.inr rfl) p,p⟩
theorem LH.below(h:LH w base pp A c l)(hb:ek w.heap.size w w'):LH w' base pp A c l:=h.keep hb.size fun k cs t fr hk _ _=>aa hk hb
theorem LH.fr{b g:Nat}(h:LH w base pp A c l)(e:Fr b g w w'):LH w' base pp A c l:=h.keep e.size fun k j t fr f i _=>e.blk f (by rcases i with rfl|rfl<;>rfl)
end
theorem wH: eD.built 295 []=some #[.slice none 0 0]:=by kernel_rfl
theorem Bw(D B P:Nat)(ok:D≤6∧B≤16∧P≤8)(l:List Flt)(aK:∀ax∈l,ax.wf)(A:Option px)(n c B0:Nat)(w:eX)(U:Rds w B0 A 7 n (L3 l))(ay:B0≤w.heap.size)(hn:n≤1000)(az:List Flt→List Flt)(hS:∀l,(az l).Perm l)(aL:∀(v:iP) (base:Nat) (w':eX),OwnRows w' base 75 7 v (l.filter (NT D B P)).length (L3 (l.filter (NT D B P)))→base≤w'.heap.size→Calls eD 229 #[v,.func (.func 230) #[] #[]] w' fun e V=>e=.returned (.tuple #[])∧OwnRows V base 75 7 v (l.filter (NT D B P)).length (L3 (az (l.filter (NT D B P))))∧w'.grownBy V v.ownBlock):
 Calls eD 193 #[.agg ([.int .i64 (D:Int),.int .i64 (B:Int),.int .i64 (P:Int)]).toArray,.slice A n c] w fun e w'=>∃f A' c',e=.returned (.pointer (some ⟨f,0,none⟩))∧LH w' w.heap.size f A' c' (az (l.filter (NT D B P)))∧ek w.heap.size w w':=by
 have hl:l.length=n:=by have:=U.1;simpa[L3]using this
 have ha:=bu w (.cells ([.int .i64 (D:Int),.int .i64 (B:Int),.int .i64 (P:Int)]).toArray 23) (.cells #[.slice none 0 0] 295);have O:=aj (w.alloc (.cells ([.int .i64 (D:Int),.int .i64 (B:Int),.int .i64 (P:Int)]).toArray 23)) (.cells #[.slice none 0 0] 295) (w.heap.size+1) (by simp);have aA:=cG w (.cells ([.int .i64 (D:Int),.int .i64 (B:Int),.int .i64 (P:Int)]).toArray 23) (.cells #[.slice none 0 0] 295);have bd:=U.below aA ay;have aM:=qZ (hX (OwnRows.nil (w:=(w.alloc (.cells ([.int .i64 (D:Int),.int .i64 (B:Int),.int .i64 (P:Int)]).toArray 23)).alloc (.cells #[.slice none 0 0] 295)) (base:=w.heap.size) (e:= 75) (C:=7)) (hX ha (hX O aA)));have HR:=qZ U;have HL:=qZ hl;have bf:=qZ ay;have bg:=qZ aK;have bh:=qZ aL;have bj:=qZ ok;clear U hl ay aK aL ok ha O aA bd;go_enter func193, ntmps193;go_wp2_with (first|(refine ac rfl 295 _ rfl [] rfl [.slice none 0 0] wH ?_));obtain⟨f,ak⟩:∃f,f=w.heap.size+1:=⟨_,rfl⟩;rw[←ak]at aM⊢;have aN:=qZ (show w.heap.size≤f by omega);clear ak;go_loopw [7,12] (fun _ i wr=>∃(k:Nat) (m:iP),k≤n∧i=.int .i64 k∧OwnRows wr w.heap.size 75 7 m ((l.take k).filter (NT D B P)).length (L3 ((l.take k).filter (NT D B P)))∧wr.heap[w.heap.size]? =some (.cells ([.int .i64 (D:Int),.int .i64 (B:Int),.int .i64 (P:Int)]).toArray 23 (0,0))∧wr.heap[f]? =some (.cells #[m] 295 (0,0))∧ek w.heap.size w wr) (fun _ i _=>n-(jg i).toNat)
 case atStart=>exact⟨0,.slice none 0 0,by omega,rfl,aM⟩
 case round=>
  obtain⟨k,m,hk,rfl,r,hg,O,u⟩:=hrel;by_cases aO:k<n
  · have aB:k<l.length:=by rw[HL.out];exact aO
    obtain⟨x,aD⟩:∃x,l[k]? =some x:=⟨_,ed aB⟩;obtain⟨bb,oo,rfl,bM,aQ⟩:=aH (HR.below u bf) aO (r:=x.v) (mX aD);have bO:(k:Int)<(n:Int):=by omega
    have aR:l.take (k+1)=l.take k++[x]:=by rw[jd aB,(ej.1 aD).2]
    obtain⟨kept,al⟩:∃kept,kept=(l.take k).filter (NT D B P):=⟨_,rfl⟩;rw[←al]at r;have aT:(l.take (k+1)).filter (NT D B P)=kept++(if NT D B P x then [x]else []):=by rw[aR,List.filter_append,←al];simp only[List.filter_cons,List.filter_nil]
    have an:=qZ aT;have bk:kept.length≤k:=by rw[al];exact kk (ps _ _) (by simp;omega)
    obtain⟨K,aE⟩:∃K,K=kept.length:=⟨_,rfl⟩;rw[←aE]at r bk;have aV:=qZ aE;have W:=qZ r;have HG:=qZ hg;have Y:=qZ O;have aq:=qZ u;have bl:w.heap.size≤wr.heap.size:=u.size;clear aR al aT aE aD aB r hg O u;go_wp2_with (first|(refine hO rfl 75 (.tmp 14) rfl bb (oo+k*7) rfl x.v _ aQ lx rfl dl ?_)|(refine ag rfl 75 (.tmp 7) (.tmp 15) rfl wr.heap.size x.v rfl rfl 75 _ (aj wr _ _ rfl) dl rfl (kc x) ?_;intro w5 aF;have h5:=aF.at_;have au:=aF.below ((fo _ wr).alloc (fj _) _) (fj _);have aW:=ai (cs:=[.int .i64 (D:Int),.int .i64 (B:Int),.int .i64 (P:Int)]) (aa HG au);have aX:=ai h5;clear aF)|(refine hO rfl 23 (.tmp 2) rfl w.heap.size 0 rfl [.int .i64 (D:Int),.int .i64 (B:Int),.int .i64 (P:Int)] _ aW kr rfl cN ?_)|(refine hO rfl 75 (.tmp 7) rfl wr.heap.size 0 rfl x.v _ aX lx rfl dl ?_));refine(dX D B P x _ bj).mono ?_;rintro e w6 ⟨rfl,aG⟩;obtain⟨M,aY⟩:∃M,M=wr.heap.size:=⟨_,rfl⟩;have ab:=qZ (au.trans (aG.mono au.size));have a1:=qZ (aa h5 aG);have a2:=qZ (aa HG ab);have a3:=qZ (aa Y ab);have a4:=qZ (W.below ab);have a5:=qZ (aq.trans (ab.mono bl));have bm:=qZ (show m.ownBlock≠some M from fun e=>by have:=(nR W M e).2;omega);have a6:=qZ (show K≤1000 by omega);rw[←aY]at a1⊢;clear au aG h5 aW aX aQ aY ab W HG Y;cases hm:NT D B P x with
    |true=>
     rw[hm]at an;clear hm;go_upto_region 6 with fail
     refine dz (X:=Nat×iP) (fun y=> [(some 19,f),(some 20,f),(some 21,f),(some 22,f),(some 23,m),(some 24,.agg x.v.toArray),(some 25,.slice (some ⟨y.1,0,none⟩) 1 1),(some 26,y.2),(some 27,f),(some 28,f),(none,z8)])
      (fun y L w'=>w'.heap[M]? =some (.cells x.v.toArray 75 (0,0))∧w'.heap[w.heap.size]? =some (.cells ([.int .i64 (D:Int),.int .i64 (B:Int),.int .i64 (P:Int)]).toArray 23 (0,0))∧(L 10=false→w'.heap[f]? =some (.cells #[m] 295 (0,0)))∧(L 7=false→OwnRows w' w.heap.size 75 7 m K (L3 kept))∧(L 6=true→L 7=false→w'.heap[y.1]? =some (.cells x.v.toArray 75 (0,0)))∧(L 7=true→(L 4=true∧L 6=true)∧OwnRows w' w.heap.size 75 7 y.2 (K+1) (L3 kept++[x.v]))∧(L 10=true→L 7=true∧w'.heap[f]? =some (.cells #[y.2] 295 (0,0)))∧ek w.heap.size w w') ⟨(0,z8),fun L hL=>⟨a1,a2,(fun _=>a3),(fun _=>a4.below (fo _ _).drew),(by rw[hL 6];intro h;cases h),(by rw[hL 7];intro h;cases h),(by rw[hL 10];intro h;cases h),a5.drew⟩⟩ ?_ ?_
     · refine⟨rr,rr,rr,rr,?_,?_,?_,?_,rr,rr,?_,trivial⟩
       all_goals
        intro ux L w' hL hpre hJ a ha he;try simp[Region.binds]at hpre
       · have S:L 10=false:=by
          cases h:L 10 with
          |false=>rfl
          |true=>exact absurd ((hJ.out.2.2.2.2.2.1 (hJ.out.2.2.2.2.2.2.1 h).1).1.1) (by simp[hL])
         have cc:w'.cell? ⟨f,0,none⟩=some m:=by rw[ae (hJ.out.2.2.1 S)];rfl
         refine dM ?_;intro K HK;exact HK _ _ ⟨ux,_,rfl,rfl,hJ.out.1,hJ.out.2.1,hJ.out.2.2.1,hJ.out.2.2.2.1,hJ.out.2.2.2.2.1,fun h=>⟨⟨by simp[JW],(hJ.out.2.2.2.2.2.1 h).1.2⟩,(hJ.out.2.2.2.2.2.1 h).2⟩,hJ.out.2.2.2.2.2.2.1,hJ.out.2.2.2.2.2.2.2⟩
       · obtain⟨z,q,G,N,j6,j7,H,E⟩:=hJ.out
         refine Wn ?_;have e7:a.eval (.tmp 7)=.pointer (some ⟨M,0,none⟩):=ev;exact sT 75 (.tmp 7) rfl M 0 e7 x.v _ (ai z) lx rfl dl ⟨ux,_,rfl,rfl,z,q,G,N,j6,j7,H,E⟩
       · obtain⟨z,q,G,N,j6,j7,H,E⟩:=hJ.out
         refine Wn ?_;have bn:=aZ 5
         have Z:L 7=false:=by
          cases h:L 7 with
          |false=>rfl
          |true=>exact absurd ((j7 h).1.2) (by simp[hL])
         have S:L 10=false:=by
          cases h:L 10 with
          |false=>rfl
          |true=>exact absurd (H h).1 (by simp[Z])
         refine cT 261 (.tmp 24) rfl 75 x.v _ 7 56 bn jt oN rfl (by decide) (by decide) ?_;have u:=aC w' (.cells x.v.toArray 75);exact⟨(w'.heap.size,ux.2),_,rfl,rfl,aa z u,aa q u,fun _=>aa (G S) u,fun _=>(N Z).below u,fun _ _=>aj _ _ _ rfl,fun h=>absurd h (by rw[show JW L 6 7=L 7 from rfl,Z];simp),fun h=>absurd h (by rw[show JW L 6 10=L 10 from rfl,S];simp),E.trans (u.mono E.size)⟩
       · obtain⟨z,q,G,N,j6,j7,H,E⟩:=hJ.out
         refine Wn ?_;have bo:=aZ 4;have bp:=aZ 6;have h6:L 6=true:=by simp[hpre]
         have h4:L 4=true:=by simp[hpre]
         have S:L 10=false:=by
          cases h:L 10 with
          |false=>rfl
          |true=>exact absurd (H h).1 (by simp[hL])
         have q2:=j6 h6 hL;have j:=G S;have R:=N hL;refine bQ (.tmp 23) (.tmp 25) 261 rfl 75 _ 7 56 jt oN rfl (by decide) (base:=w.heap.size) (B:=w.heap.size) R E bo bp (jX (row:=x.v) q2) (fun bN U=>by rw[List.mem_singleton.1 U];exact kc x) (by have:=a6.out;unfold y0;omega) (by have:=a6.out;omega) E.size (fj _) ?_;intro v' V r bq aI bP;have ak:V.heap[f]? =some (.cells #[m] 295 (0,0)):=(aI.block f (af j) (fun e=>by obtain⟨ad,T,-⟩:=aU R.1 e.symm;rw[T]at j;simp at j)).trans j;have br:V.heap[M]? =some (.cells x.v.toArray 75 (0,0)):=(aI.block _ (af z) (fun e=>bm e.symm)).trans z;have bs:V.heap[w.heap.size]? =some (.cells ([.int .i64 (D:Int),.int .i64 (B:Int),.int .i64 (P:Int)]).toArray 23 (0,0)):=(aI.block _ (af q) (fun e=>by obtain⟨ad,T,-⟩:=aU R.1 e.symm;rw[T]at q;simp at q)).trans q;exact⟨(ux.1,v'),_,rfl,rfl,br,bs,fun _=>ak,(fun h=>by simp[JW]at h),(fun _ h=>by simp[JW]at h),fun _=>⟨⟨h4,h6⟩,r⟩,fun h=>absurd h (by rw[show JW L 7 10=L 10 from rfl,S];simp),bq⟩
       · obtain⟨z,q,G,N,j6,j7,H,E⟩:=hJ.out
         refine Wn ?_;have bt:=aZ 9;have bw:=aZ 7;have Z:L 7=true:=by simp[hpre]
         obtain⟨bx,R⟩:=j7 Z;have j:=G hL;obtain⟨A9,c9,av,-,-⟩:=R.slice;have cc:w'.cell? ⟨f,0,none⟩=some m:=by rw[ae j];rfl
         have ff:=ao j 0;have hU:=ar (cs:=[m]) (i:=0) j ux.2;have a7:ux.2.ownBlock≠some f:=fun e=>by obtain⟨ad,T,-⟩:=aU R.1 e;rw[T]at j;simp at j
         have bz:M≠f:=cB z j (by simp[Kn]<;>decide);have bA:w.heap.size≠f:=cB q j (by simp[Kn]<;>decide);have I:=qZ (hX (hU.old z bz) (hX (hU.old q bA) (hX (R.upd hU a7) (hX hU.at_ (hX (hU.below E aN) (hX bx Z))))));rw[av]at I;clear hU a7 j R z q G N j6 j7 H E ha;refine aP fun K HK=> ?_;unfold Oper.wp;simp only[execOp,bt,bw,av];go_simp;exact HK _ _ ⟨ux,_,rfl,rfl,I.1,I.2.1,(fun h=>by simp[JW]at h),(fun h=>absurd I.2.2.2.2.2.2 (by rw[show JW L 10 7=L 7 from rfl]at h;simp[h])),(fun _ h=>absurd I.2.2.2.2.2.2 (by rw[show JW L 10 7=L 7 from rfl]at h;simp[h])),fun _=>⟨I.2.2.2.2.2.1,by rw[av];exact I.2.2.1⟩,fun _=>⟨I.2.2.2.2.2.2,by rw[av];exact I.2.2.2.1⟩,I.2.2.2.2.1⟩
     · intro y L w' hL hJ
       obtain⟨z,q,G,N,j6,j7,H,E⟩:=hJ;obtain⟨-,r⟩:=j7 (hL 7 (by decide));obtain⟨-,a8⟩:=H (hL 10 (by decide));clear hL z G N j6 j7 H;simp only[jm,kb];go_simp;have bB:=qZ r;have bC:=qZ a8;have bD:=qZ q;have bE:=qZ E;clear r a8 q E;go_wp2_with fail;go_roundw
       case rel=>exact⟨k+1,y.2,by omega,by go_num,by rw[an.out];simp only[if_true];rw[qc,←aV.out,L3,List.map_append];exact bB,bD,bC,bE⟩
       case measure=>simp[jg];omega
    |false=>
     rw[hm]at an;clear hm;go_wp2_with fail;go_roundw
     case rel=>exact⟨k+1,m,by omega,by go_num,by rw[an.out];simp only[Bool.false_eq_true,if_false,List.append_nil];rw[←aV.out];exact a4,a2,a3,a5⟩
     case measure=>simp[jg];omega
  · obtain rfl:k=n:=by omega
    rw[hZ (by rw[HL.out];exact fj _)]at r;have cc:wr.cell? ⟨f,0,none⟩=some m:=by rw[ae O];rfl
    have W:=qZ r;have Y:=qZ O;have aq:=qZ u;have CS:=qZ (bh m w.heap.size wr r u.size);clear r hg O;obtain⟨a9,hM⟩:∃a9,a9=(l.filter (NT D B P)).length:=⟨_,rfl⟩;go_wp2_with fail;refine CS.out.mono ?_;rintro e w7 ⟨rfl,ba,aJ⟩;have bc:Hid (w7.heap[f]? =some (.cells #[m] 295 (0,0))):=qZ ((aJ.block f (af Y) (fun e=>by have j:=Y.out;obtain⟨ad,T,-⟩:=aU W.1 e.symm;rw[T]at j;simp at j)).trans Y);have bF:=qZ (aq.grown aJ aq.size (fun bG hj=>(nR W bG hj).1));have ah:=qZ ba;clear ba aJ CS cc u;go_wp2_with fail;go_ret;obtain⟨A7,c7,bH,bI,bJ⟩:=ah.slice;have aw:=(hS (l.filter (NT D B P))).length_eq;rw[bH]at bc ah;refine⟨f,A7,c7,rfl,⟨by rw[aw];exact bc,aN,by rw[aw];exact ah.rds,fun hn=> ?_,⟨by rw[aw];exact bI,bJ⟩,fun ax hf=>bg ax (l8.1 ((hS _).mem_iff.1 hf)).1⟩,bF⟩;rw[aw]at hn;obtain⟨g9,c9,e9,bK,-⟩:=aS ah.1 hn;cases e9
    obtain⟨ad,bL,-⟩:=aU ah.1 (k:=g9) rfl;exact⟨g9,0,ad,_,rfl,bL,bK⟩
theorem yL(D B P:Nat)(ok:D≤6∧B≤16∧P≤8)(l:List Flt)(m:∀f∈l,f.wf)(A:Option px)(n c g:Nat)(w:eX)(o:Rds w g A 7 n (L3 l))(p:g≤w.heap.size)(q:n≤1000)(r:(l.filter (NT D B P)).length≤1):
 Calls eD 193 #[.agg ([.int .i64 (D:Int),.int .i64 (B:Int),.int .i64 (P:Int)]).toArray,.slice A n c] w fun e b=>∃j h i,e=.returned (.pointer (some ⟨j,0,none⟩))∧LH b w.heap.size j h i (l.filter (NT D B P))∧ek w.heap.size w b:=
 Bw D B P ok l m A n c g w o p q id (fun l=>List.Perm.refl l) fun v base b k t=>by
  obtain⟨h,i,rfl,-,-⟩:=k.slice;refine(AU h _ i _ b r).mono ?_;rintro e u ⟨rfl,rfl⟩;exact⟨rfl,k,eH _ _⟩
end JT
theorem yey{A:Prop}(h:A:=by
 go_wp2_with (first|(refine wpList_slice_l _ _ rfl rfl rfl hs2 ?_));go_ret;exact HRES):A:=h
namespace JT
theorem zO{P:Program}{t e:zl}(b:P.underlying t=some (.slice e)){w:eX}{B C n c k:Nat}{A:Option px}{g:List (List iP)}(j:(P.info? e).map (·.size)=some C)(h:Rds w B A C n g)(l:k≤n)(o:n≤c):
 ∃f,(∀w,(Instr.sliceAt t (.slice A n c) (some (.int .i64 (k:Int))) none none).run P w=.ok (.slice f (n-k) (c-k)) w)∧Rds w B f C (n-k) (g.drop k)∧(k<n→f=A.map (·.add (k*C))):=by
 have i:P.underlying t=some (.slice (P.elem t)):=by rw[mZ b];exact b
 refine⟨if c=k then A else A.map (·.add (k*C)),fun w=> ?_,h.drop l fun m=>by rw[if_neg (by omega)],fun m=>by rw[if_neg (by omega)]⟩;rw[run_sliceAt_slice _ _ _ _ _ _ i,run_slice_l _ _ _ _ _ i _ _ (by omega) (by omega),mZ b,sN j];simp[sliced]
theorem pptr: eD.underlying 262 =some (.pointer (eD.pointee 262)):=by kernel_rfl
theorem lV(x:px)(w:eX):(binOp .eql 262 (.pointer (some x)) (.pointer none)).run eD w=.ok (.bool false) w:=run_eql_pointer_nil w 262 (some x) pptr
def Nu(l:List Flt)(t:Int):Nat:=(l.takeWhile fun f=>decide (f.at_≤t)).length
theorem Ib{l:List Flt}{t:Int}:∀{k:Nat},k≤l.length→(∀j f,j<k→l[j]? =some f→f.at_≤t)→(k<l.length→∃f,l[k]? =some f∧t<f.at_)→Nu l t=k:=by
 induction l with
 |nil=>intro k c _ _;simp at c;subst c;rfl
 |cons x l n=>
  intro k c g i;cases k with
  |zero=>
   obtain⟨f,b,e⟩:=i (by simp);simp at b;subst b;unfold Nu;rw[List.takeWhile_cons_of_neg (by simpa using e)];rfl
  |succ k=>
   have o:=g 0 x (by omega) rfl
   have m:=n (k:=k) (by simpa using c) (fun j f hj b=>g (j+1) f (by omega) (by simpa using b)) (fun p=>by
    obtain⟨f,b,e⟩:=i (by simpa using p);exact⟨f,by simpa using b,e⟩)
   unfold Nu at m⊢;rw[List.takeWhile_cons_of_pos (by simpa using o),List.length_cons,m]
section
variable {w:eX}{base pp c:Nat}{A:Option px}{l:List Flt}
theorem dI(h:LH w base pp A c l):Calls eD 284 #[pp] w fun e f=>e=.returned (.int .i64 (l.length:Int))∧w=f:=by
 have i:=lV;have c0:w.cell? ⟨pp,0,none⟩=some (.slice A l.length c):=by rw[ae h.head];rfl
 obtain⟨M,b⟩:∃M,M=l.length:=⟨_,rfl⟩;rw[←b]at c0;have g:=qZ b;clear h b;go_enter func284, ntmps284;go_wp2_with fail;go_ret;exact⟨by rw[←g.out];rfl,rfl⟩
theorem Dj(h:LH w base pp A c l)(t:Int)(hn:l.length≤1000)(ad:base≤w.heap.size):Calls eD 231 #[pp,t] w fun e m=>
 ∃v E S,e=.returned v∧OwnRows m w.heap.size 75 7 v (Nu l t) (L3 (l.take (Nu l t)))∧LH m base pp E S (l.drop (Nu l t))∧w.grownBy m (some pp)∧(Nu l t<l.length→∀n off,A=some ⟨n,off,none⟩→∃T,E=some ⟨n,T,none⟩):=by
 have aJ:=lV;have c0:w.cell? ⟨pp,0,none⟩=some (.slice A l.length c):=by rw[ae h.head];rfl
 obtain⟨M,G⟩:∃M,M=l.length:=⟨_,rfl⟩;have o:=qZ h;have U:=qZ (show Rds w w.heap.size A 7 M (L3 l) by rw[G];exact h.rows);have V:=qZ (show M≤c by rw[G];exact h.cap.1);rw[←G]at c0 hn;have u:=qZ G;have aK:=qZ ad;clear h G ad;go_enter func231, ntmps231;go_wp2_with fail;go_loopw [5] (fun i wr=>∃k:Nat,k≤M∧i=.int .i64 k∧wr=w∧Hid (∀j f,j<k→l[j]? =some f→f.at_≤t)) (fun i _=>M-(jg i).toNat)
 case atStart=>exact⟨0,by omega,rfl,rfl,qZ fun j f hj=>by omega⟩
 case round=>
  obtain⟨k,W,rfl,rfl,ag⟩:=hrel;have ah:(k<M→∃f,l[k]? =some f∧t<f.at_)→Nu l t=k:=fun h=>Ib (by rw[←u.out];exact W) ag.out (by rw[←u.out];exact h)
  have ax:=qZ ah;clear ah;obtain⟨A1,ai,aj⟩:=FK (k:=k) jt dl U W V;obtain⟨H,hs2,ak,al⟩:=zO (k:=k) jt dl U W V
  have an:=qZ (show∀m:eX,ek wr.heap.size wr m→Calls eD 249 #[.slice A1 k c] m fun e aq=>∃v,e=.returned v∧OwnRows aq m.heap.size 75 7 v k (L3 (l.take k))∧ek m.heap.size m aq from fun m z=>by
   have:=wD A1 k c wr.heap.size (l.take k) m (by rw[L3,List.map_take];exact aj.below z (fj _)) z.size (by omega);exact this)
  have P:=qZ (hX ak al);clear aj ak al
  have tail:(k<M→∃f,l[k]? =some f∧t<f.at_)→∀b q,OwnRows b wr.heap.size 75 7 q k (L3 (l.take k))→ek wr.heap.size wr b→(b.cell? ⟨pp,0,none⟩=some (.slice A M c)∧b.frozen? ⟨pp,0,none⟩=false)∧
   (∃v E S,Ending.returned q=Ending.returned v∧OwnRows (b.setCell ⟨pp,0,none⟩ (.slice H (M-k) (c-k))) wr.heap.size 75 7 v (Nu l t) (L3 (l.take (Nu l t)))∧LH (b.setCell ⟨pp,0,none⟩ (.slice H (M-k) (c-k))) base pp E S (l.drop (Nu l t))∧wr.grownBy (b.setCell ⟨pp,0,none⟩ (.slice H (M-k) (c-k))) (some pp)∧(Nu l t<l.length→∀n off,A=some ⟨n,off,none⟩→∃T,E=some ⟨n,T,none⟩)):=by
   intro ay b q ho z;have Q:=aa o.head z;rw[←u.out]at Q;have B:=ar (cs:=[.slice A M c]) (i:=0) Q (.slice H (M-k) (c-k));have aL:pp<wr.heap.size:=af o.head;have I:(l.drop k).length=M-k:=by rw[List.length_drop,u.out]
   rw[ax.out ay];have az:∀g,q.ownBlock=some g→g≠pp:=fun g C=>by have:=(nR ho g C).1;omega
   refine⟨⟨by rw[ae Q];rfl,ao Q 0⟩,q,H,c-k,rfl,ho.upd B (fun e=>az pp e rfl),⟨by rw[B.at_,I];rfl,o.low,?_,fun hp=> ?_,⟨by rw[I];have:=V.out;omega,by have:=o.out.cap.2;omega⟩,fun f J=>o.wf f (List.mem_of_mem_drop J)⟩,?_⟩
   · rw[I]
     have hr:=P.out.1;refine⟨by rw[L3,List.length_map,I],fun r aA=>oM r aA,fun aB=> ?_⟩;obtain⟨D,X,e,au,hc⟩:=hr.2.2 aB;have aM:=z.size;refine⟨D,X,e,by rw[B.size];omega,fun i r j aC h1 h2=> ?_⟩;rw[L3,List.map_drop]at h1;have h3:=hc i r j aC h1 h2
     have aD:D≠pp:=by
      obtain⟨n,off,cs,fr,K,C,-⟩:=o.at_ (by rw[←u.out];omega);rw[P.out.2 (by omega),K,nr,Addr.add_mid]at e;cases e
      exact cB C o.head (by simp[Kn]<;>decide)
     exact((World.cell?_of_block (B.block D aD)).trans (z.cell (p:=⟨D,_,none⟩) au)).trans h3
   · rw[I]at hp
     obtain⟨n,off,cs,fr,K,C,aE⟩:=o.at_ (by rw[←u.out];omega);refine⟨n,off+k*7,cs,fr,by rw[P.out.2 (by omega),K,nr,Addr.add_mid],(B.block n (cB C o.head (by simp[Kn]<;>decide))).trans (aa C z),aE⟩
   · exact⟨(eZ z (some pp)).andThen (dr B) (fun j hj=> .inr hj),fun R n off e=>⟨off+k*7,by rw[P.out.2 (by rw[u.out];exact R),e,nr,Addr.add_mid]⟩⟩
  have HT:=qZ tail;clear tail;by_cases Y:k<M
  · have R:k<l.length:=by rw[←u.out];exact Y
    obtain⟨x,Z⟩:∃x,l[k]? =some x:=⟨_,ed R⟩;obtain⟨D,X,K,au,av⟩:=aH U Y (r:=x.v) (mX Z);subst K;have aF:(k:Int)<(M:Int):=by omega
    have cx:wr.cell? ⟨D,X+k*7,none⟩=some (.int .i64 x.at_):=av 0 _ rfl;have aw:=qZ Z;clear Z R av;by_cases aG:x.at_≤t
    · have aI:=qZ aG
      go_wp2_with fail;go_roundw
      case rel=>exact⟨k+1,by omega,by go_num,by first|rfl|trivial,qZ fun j f hj J=>by
       by_cases e:j=k
       · subst e;rw[aw.out]at J;cases J;exact aI
       · exact ag.out j f (by omega) J⟩
      case measure=>simp[jg];omega
    · have ab:=qZ (show k<M→∃f,l[k]? =some f∧t<f.at_ from fun _=>⟨x,aw,by omega⟩)
      go_wp2_with (first|(refine wpList_slice_h _ _ rfl rfl rfl ai ?_));refine(an _ (fo _ _)).mono ?_;rintro e b ⟨q,rfl,L,N⟩;obtain⟨⟨c7,f7⟩,O⟩:=HT ab b q L N;have HRES:=qZ O;clear O L N cx c0;exact yey
  · have ab:=qZ (show k<M→∃f,l[k]? =some f∧t<f.at_ from fun h=>absurd h Y)
    have aF:¬(k:Int)<(M:Int):=by omega
    go_wp2_with (first|(refine wpList_slice_h _ _ rfl rfl rfl ai ?_));refine(an _ (fo _ _)).mono ?_;rintro e b ⟨q,rfl,L,N⟩;obtain⟨⟨c7,f7⟩,O⟩:=HT ab b q L N;have HRES:=qZ O;clear O L N c0;exact yey
theorem FB(h:LH w base pp A c l)(t:Int)(i:l.length≤1000)(j:base≤w.heap.size):Calls eD 231 #[pp,t] w fun e b=>
 ∃v f g,e=.returned v∧OwnRows b w.heap.size 75 7 v (Nu l t) (L3 (l.take (Nu l t)))∧LH b base pp f g (l.drop (Nu l t))∧w.grownBy b (some pp):=
 (Dj h t i j).mono fun e b ⟨v,f,g,k,m,n,o,_⟩=>⟨v,f,g,k,m,n,o⟩
end
def runN(N:Nd)(b:List Flt):Nd:=b.foldl Nd.KF N
theorem Bh{N:Nd}{b:List Flt}{k:Nat}{f:Flt}(h:b[k]? =some f):runN N (b.take (k+1))=(runN N (b.take k)).KF f:=by
 have c:=(ej.1 h).1;have e:=(ej.1 h).2;rw[jd c,e];simp[runN,hG]
theorem FC(l:List Flt)(t:Int):Nu l t≤l.length:=by unfold Nu;exact(List.takeWhile_sublist _).length_le
theorem E7{w:eX}{n u av base g m:Nat}{A:Option px}{l:List Flt}{N:Nd}(W:∀x∈l,x.k=3∨x.k=4)(b:LH w n u A av l)(I:JS w base g m N)(X:m≤90000)(J:l.length≤1000)(Y:n≤w.heap.size){D:Nat}{z:eX}(f:ek D z w)(Z:D≤base∧D≤n)(hs:D≤z.heap.size):
 Calls eD 194 #[u,g] w fun e B=>e=.returned (.int .i64 (Nu l (N.ops:Int):Nat))∧JS B base g (m+1000) (runN N (l.take (Nu l (N.ops:Int))))∧(∃A' c',LH B n u A' c' (l.drop (Nu l (N.ops:Int))))∧ek D z B:=by
 obtain⟨k,K⟩:∃k,k=Nu l (N.ops:Int):=⟨_,rfl⟩;have aa:k≤l.length:=by rw[K];exact FC _ _
 have ab:=b.wf;have aw:=qZ W;clear W;have HO:=qZ (BK I);have L:=qZ (FB b (N.ops:Int) J Y);rw[←K]at L⊢;have M:=qZ b;have HN:=qZ I;have HB:=qZ f;have ad:=qZ (hX aa J);have HW:=qZ ab;have o:=qZ (hX Z hs);have HM:=qZ X;clear b I f aa J ab Z hs Y X K;go_enter func194, ntmps194;go_wp2_with fail;refine HO.mono ?_;rintro e B ⟨rfl,rfl⟩;go_wp2_with fail;refine L.mono ?_;rintro e w1 ⟨v,A1,c1,rfl,O,ae,P⟩;have ax:=qZ (HN.other P M.head rfl);have ay:=qZ (HB.grown P (kk o.2 HB.size) (fun j hj=>by cases hj;have:=M.out.low;have:=o.out.1.2;omega));have Q:=qZ O;have az:=qZ ae;obtain⟨Av,cv,rfl,-,-⟩:=O.slice;obtain⟨c,C⟩:∃c,c=l.take k:=⟨_,rfl⟩;rw[←C]at Q;have af:c.length=k:=by rw[C,List.length_take];have:=ad.out.1;omega
 have ah:=qZ af;have R:=qZ C;have aK:k≤1000:=by have:=ad.out;omega
 obtain⟨B1,ak⟩:∃B1,B1=w.heap.size:=⟨_,rfl⟩;rw[←ak]at Q;clear O ae P C af HO L M HN ak;go_wp2_with fail;go_loopw [7,14] (fun _ i wr=>∃j:Nat,j≤k∧i=.int .i64 j∧JS wr base g (m+j) (runN N (c.take j))∧OwnRows wr B1 75 7 (.slice Av k cv) k (L3 c)∧LH wr n u A1 c1 (l.drop k)∧ek D z wr) (fun _ i _=>k-(jg i).toNat)
 case atStart=>exact⟨0,by omega,rfl,ax,Q,az,ay⟩
 case round=>
  obtain⟨j,hj,rfl,p,E,b,f⟩:=hrel;by_cases al:j<k
  · have an:j<c.length:=by rw[ah.out];exact al
    obtain⟨x,q⟩:∃x,c[j]? =some x:=⟨_,ed an⟩;obtain⟨bb,oo,eA,aL,ao⟩:=aH E.rds al (r:=x.v) (mX q);subst eA;have aM:(j:Int)<(k:Int):=by omega
    have aq:x.wf:=HW x (by have:=jw q;rw[R.out]at this;exact py this);have aA:=qZ (aw x (by have:=jw q;rw[R.out]at this;exact py this));have aB:=qZ (Bh (N:=N) q);have S:=qZ p;have aC:=qZ E;have T:=qZ b;have G:=qZ f;have aD:=qZ aq;clear p E b f aq q an;go_wp2_with (first|(refine hO rfl 75 (.tmp 16) rfl bb (oo+j*7) rfl x.v _ ao lx rfl dl ?_)|(refine ag rfl 75 (.tmp 7) (.tmp 17) rfl wr.heap.size x.v rfl rfl 75 _ (aj wr _ _ rfl) dl rfl (kc x) ?_;intro w5 U;have ar:=ai U.at_;have t:=U.below ((fo _ wr).alloc (fj _) _) (fj _);clear U)|(refine hO rfl 75 (.tmp 7) rfl wr.heap.size 0 rfl x.v _ ar lx rfl dl ?_));refine(qw (S.below t) x aD aA (by have:=HM.out;omega)).mono ?_;rintro e w6 ⟨rfl,au,H⟩;have aE:=qZ au
    have aF:Hid (OwnRows w6 B1 75 7 (.slice (some ⟨bb,oo,none⟩) k cv) k (L3 c)):=qZ (by
     have V:=aC.out.below t;exact⟨dh V.1 fun b' aG=>by obtain⟨aN,hc,-⟩:=aU V.1 aG;exact(H.blk hc rfl).trans hc.symm,V.2⟩)
    have aI:=qZ ((T.below t).fr H);have aJ:=qZ (H.below (G.trans (t.mono (kk o.2 G.size))) o.1.1 o.2);clear au H t ar ao;go_wp2_with fail;go_roundw
    case rel=>exact⟨j+1,by omega,by go_num,by rw[aB.out];exact aE,aF,aI,aJ⟩
    case measure=>simp[jg];omega
  · obtain rfl:j=k:=by omega
    have HE:=qZ (show runN N (c.take j)=runN N (l.take j) by rw[hZ (by rw[ah.out];exact fj _),R.out]);rw[HE.out]at p;have S:=qZ (p.mono (show m+j≤m+1000 by omega));have T:=qZ b;have G:=qZ f;clear p E b f;go_wp2_with fail;go_ret;exact⟨rfl,S,⟨A1,c1,T⟩,G⟩
end JT
end Go.Proofs.YtlkpfnjdbgeifaaGreat
