import Derived.Deep.DeepMust
import Derived.Handy
import Derived.WalkSpells
import Derived.Test.YtlkpfnjdbgeifaaGreatFLane
import Derived.Test.YtlkpfnjdbgeifaaGreatFPlainBits
open Go renaming World→ed,Calls→ej,maxLen→ek
namespace Go.Proofs.YtlkpfnjdbgeifaaGreat
open Go.Proofs.Tryz
open Go.RowKit
theorem ye0{A:Prop}(h:A:=by
 go_enter func307, ntmps307;go_wp2
 go_ret;exact⟨by rw[H.out];rfl,rfl⟩):A:=h
section

theorem DU(n:Int)(w:ed)(b: -9223372036854775808≤n)(c:n≤9223372036854775807):ej prog 305 #[.int .i64 n] w fun e f=>e=.returned (.int .u64 (QX n))∧w=f:=by
 have H:=qZ (As n b c);go_enter func305, ntmps305;exact I4
theorem DY(u:Int)(w:ed)(b:0≤u)(c:u<18446744073709551616):ej prog 306 #[.int .u64 u] w fun e f=>e=.returned (.int .i64 (QR u))∧w=f:=by
 have H:=qZ (Aw u b c);go_enter func306, ntmps306;exact I4
theorem oj(n k:Int)(w:ed):ej prog 307 #[.int .i64 n,.int .i64 k] w fun e b=>e=.returned (.int .i64 (Na n k))∧w=b:=by
 by_cases c:k<1
 · have H:=qZ (show Na n k=0 by simp[Na,c])
   exact ye0
 · by_cases f:64<k
   · have H:=qZ (show Na n k=0 by simp[Na,f])
     exact ye0
   · have H:=qZ (tC n k (by omega) (by omega))
     go_enter func307, ntmps307;exact I4
theorem AK(u n:Int)(w:ed)(b:0≤u)(c:u<4294967296):ej prog 308 #[.int .u32 u,.int .i64 n] w fun e f=>e=.returned (.int .u32 (Qq u n))∧∃k,f=w.drewN k:=by
 have H:=qZ (yq u n b c);have e:=JO n;have g:0≤n%32:=by omega
 have h:n%32≤31:=by omega
 go_enter func308, ntmps308;go_wp2
 go_quiet (fail)
 go_wp2
 go_ret;exact⟨by rw[←H.out];rfl,_,rfl⟩
end
section
theorem AH:(prog.info? 5).map (fun i=>(i.zero,i.size,i.bytes))=some (some (.int .u8 0),1,1):=by kernel_rfl
theorem xP:(prog.info? 3).map (fun i=>(i.zero,i.size,i.bytes))=some (some (.int .i64 0),1,8):=by kernel_rfl
end
theorem yck{A:Prop}(h:A:=by
 intro v1 w1 hown1 hbel1 _ _;go_wp2
 go_ret;exact⟨_,rfl,by simpa using hown1,hbel1⟩):A:=h
section
theorem l9(b o n c B:Nat)(l:List Nat)(w:ed)(i:Rd w B (some ⟨b,o,none⟩) n (An .u8 l))(j:B≤w.heap.size)(p:n≤1000000):ej prog 187 #[.slice (some ⟨b,o,none⟩) n c] w fun e f=>
 ∃v,e=.returned v∧f.ownsRow w.heap.size 5 1 v n (An .u8 l)∧Below w.heap.size w f:=by
 have q:=fun W:ed=>Lib.run_eql_slice_nil (P:= prog) W 128 5 (some ⟨b,o,none⟩) n c 0 0 underlying128
 have k:(w.alloc (.cells #[] 5)).ownsRow w.heap.size 5 1 (.slice (some ⟨w.heap.size,0,none⟩) 0 0) 0 []:=World.ownsRow_made w #[] 0 (Nat.le_refl _) (by unfold ek;omega) rfl;have g:Below w.heap.size w (w.alloc (.cells #[] 5)):=(Below.refl _ _).alloc (Nat.le_refl _) _;have m:Rd (w.alloc (.cells #[] 5)) B (some ⟨b,o,none⟩) n (An .u8 l):=i.below g j;go_enter func187, ntmps187;go_wp2_with (at_builtin;go_must (refine gy rfl (.tmp 5) (.tmp 6) 128 rfl 5 _ _ underlying128 AH rfl k g rfl rfl m (av _ _) (by unfold ek;omega) (by omega) (by simp) (Nat.le_refl _) ?_));exact yck
theorem zQ(n c:Nat)(w:ed):ej prog 187 #[.slice none n c] w fun e b=>
 e=.returned (.slice none 0 0)∧w=b:=by
 have f:=fun W:ed=>Lib.run_eql_slice_nil (P:= prog) W 128 5 none n c 0 0 underlying128
 go_enter func187, ntmps187;go_wp2
 go_ret;exact⟨rfl,rfl⟩
end
theorem ydo{A:Prop}(h:A:=by
 clear ht;go_wp2
 go_round
 case rel=>exact⟨k+1,by omega,by go_num,by rw[HS.out,←R.out]⟩
 case measure=>simp[intOf];omega):A:=h
theorem ydv{A:Prop}(h:A:=by
 go_wp2
 go_ret;exact⟨rfl,rfl⟩):A:=h
section
theorem zr(s x:Nat)(w:ed)(c:s<4294967296)(f:x<256):ej prog 188 #[.int .u32 (s:Int),.int .u8 (x:Int)] w fun e g=>e=.returned (.int .u32 (O7 s x))∧w=g:=by
 have S:=qZ (Ff s x c f);go_enter func188, ntmps188;go_wp2
 go_loop [0,5,11] (fun a _ i=>∃k:Nat,k≤8∧i=.int .i64 k∧a=.int .u32 (Pm k (s^^^(x*16777216)))) (fun _ _ i=>8-(intOf i).toNat)
 case atStart=>exact⟨0,by omega,rfl,by rw[S.out];rfl⟩
 case round=>
  obtain⟨k,l,rfl,rfl⟩:=hrel;by_cases m:k<8
  · have n:(k:Int)<8:=by omega
    have j:=tS k _ (qo s x c f);have HS:Hid (Pm (k+1) (s^^^(x*16777216))=Oi (Pm k (s^^^(x*16777216)))):=rfl;generalize Pm k (s^^^(x*16777216))=t at*;have b:=Hf t j;cases ht:t.testBit 31 with
    |true=>
     rw[ht]at b;simp only[if_true]at b;have R:=qZ (J0 t ht);exact ydo
    |false=>
     rw[ht]at b;simp only[Bool.false_eq_true,if_false]at b;have R:=qZ (Cy t ht);exact ydo
  · obtain rfl:k=8:=by omega
    exact ydv
theorem qn(s x:Int)(w:ed)(b:0≤s)(g:s<4294967296)(c:0≤x)(h:x<256):ej prog 188 #[.int .u32 s,.int .u8 x] w fun e f=>e=.returned (.int .u32 (O7 s.toNat x.toNat))∧w=f:=by
 obtain⟨S,rfl⟩:=Int.eq_ofNat_of_zero_le b;obtain⟨X,rfl⟩:=Int.eq_ofNat_of_zero_le c;exact zr S X w (by omega) (by omega)
theorem xM(A:Option Addr)(n c B:Nat)(l:List Nat)(w:ed)(g:Rd w B A n (An .u8 l))(h:∀x∈l,x<256)(q:n≤ek):ej prog 123 #[.slice A n c] w fun e j=>e=.returned (.int .u32 (kof l))∧w=j:=by
 have u:l.length=n:=by have:=g.1;rwa [ah]at this
 unfold ek at q;go_enter func123, ntmps123;go_wp2
 go_loop [3,5,8] (fun a _ i=>∃k:Nat,k≤n∧i=.int .i64 k∧a=.int .u32 (Pq 4294967295 (l.take k))) (fun _ _ i=>n-(intOf i).toNat)
 case atStart=>exact⟨0,by omega,rfl,rfl⟩
 case round=>
  obtain⟨k,z,rfl,rfl⟩:=hrel;by_cases r:k<n
  · obtain⟨b,o,rfl,C,m⟩:=g.at_ r
    rw[mS _ l k (by omega)]at m;have f:l[k]<256:=h _ (List.getElem_mem _);have p:=qZ (show Pq 4294967295 (l.take (k+1))=O7 (Pq 4294967295 (l.take k)) l[k] by rw[uW l k (by omega),zq]);have D:=rj (l.take k) 4294967295 (by decide) fun x f=>h x (List.mem_of_mem_take f)
    generalize l[k]'(by omega)=x at m f p;generalize Pq 4294967295 (l.take k)=t at*;go_wp2_with (go_at_call 188;go_must (refine(qn _ _ _ (by omega) (by omega) (by omega) (by omega)).mono ?_;rintro e j ⟨rfl,rfl⟩));go_round
    case rel=>exact⟨k+1,by omega,by go_num,by rw[p.out]⟩
    case measure=>simp[intOf];omega
  · obtain rfl:k=n:=by omega
    have E:=qZ (show Pq 4294967295 (l.take k)=kof l by rw[List.take_of_length_le (by omega)];rfl);go_wp2
    go_ret;exact⟨by rw[←E.out];rfl,rfl⟩
end
end Go.Proofs.YtlkpfnjdbgeifaaGreat
