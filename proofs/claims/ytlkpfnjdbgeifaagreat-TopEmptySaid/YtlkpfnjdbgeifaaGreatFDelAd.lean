import Derived.Lib.SliceRun
import Derived.Test.YtlkpfnjdbgeifaaGreatFSortUse
import Derived.Test.YtlkpfnjdbgeifaaGreatFOwn
set_option linter.unusedSimpArgs false
set_option linter.unusedVariables false
set_option maxRecDepth 100000
set_option maxHeartbeats 8000000
open Go renaming heap_alloc_new→ed,World→ej,run_neq_pointer_nil→fo,Value→gg,Calls→hX,run_eql_pointer_nil→jw,wpList_range_own→kb,splice→kd,binOp→kn,Addr→lx,keyOf→ly
open List renaming getElem?_eq_some_iff→ek,getElem?_eq_getElem→eD,findIdx?_eq_some_iff_getElem→hO,getElem?_map→jd,getElem?_toArray→jt,take_add_one→jI
open Go.Proofs.Tryz renaming prog→eX,underlying343→hZ,underlying166→jm
open Nat renaming le_refl→fj
open Go.RowKit.Below renaming refl→hG
open Option.some renaming inj→iP
open Go.Builtin renaming zeroCells→jg,clear_→kk
open Go.RowKit renaming Below→js,run_makeMap→kr
namespace Go.Proofs.YtlkpfnjdbgeifaaGreat
open Go.Proofs.Tryz
open Go.RowKit
theorem yab{A:Prop}(h:A:=by
 have hD:=OL.start hi;have E:Po (NL d b) l=(i0:Int):=by unfold Po;rw[hi]
 have hi0:i0<l.length:=by have:=hD.le;omega
 obtain⟨g,c,rfl,hgb,hgs,hnc,hcm⟩:=aS h.1 (by omega);have C:=idx (some ⟨g,0,none⟩) l.length c w.heap.size l g1 g2 d b w h.rds (Nat.le_refl _) h1 h2 hn;rw[E]at C;have HC:=qZ C;have HO:=qZ h;unfold maxLen at hcm;obtain⟨N,hN⟩:∃N,l.length=N:=⟨_,rfl⟩;have HN:=qZ hN;have HD:=qZ hD;rw[hN]at HO HC hi0 hnc hn⊢;clear hi E C h h1 h2 hD hN hgs;go_enter func243, ntmps243;go_wp2_with fail;refine HC.mono ?_;rintro e w1 ⟨rfl,hb⟩;have Pr:=HO.out.below hb;have hb1:=hb.mono hbase;have hs1:=Nat.le_trans hbase hb.size;have ht:((i0:Int)== -1)=false:=by simp
 clear hb;go_wp2_with fail;go_loopw [5,6,7] (fun i j _ wr=>∃(I J:Nat) (arr:List Ad),i=.int .i64 I∧j=.int .i64 J∧OL d b l arr I J∧OwnRows wr base 52 3 (.slice (some ⟨g,0,none⟩) N c) N (ads arr)∧Below base w wr∧base≤wr.heap.size) (fun _ j _ _=>N-(intOf j).toNat)
 case atStart=>exact⟨i0,i0+1,l,rfl,by go_num,HD,Pr,hb1,hs1⟩
 case round=>
  clear Pr hb1 hs1;obtain⟨I,J,arr,rfl,rfl,hD,own,hb,hs⟩:=hrel;have hIJ:=hD.lt;have hJN:=hD.le;rw[HN.out]at hJN;have HDI:=qZ hD;by_cases hlt:J<N
  · obtain⟨x,hx⟩:∃x,l[J]? =some x:=⟨_,List.getElem?_eq_getElem (by rw[HN.out];exact hlt)⟩
    have hax:=(hD.at_ (by rw[HN.out];exact hlt)).trans hx;have HX:=qZ hx;obtain⟨bb,oo,eA,hbb,hRr⟩:=aH own.rds hlt (r:=x.v) (by rw[ads,List.getElem?_map,hax];rfl);cases eA
    rw[Nat.zero_add]at hRr;have hlt2:(J:Int)<(N:Int):=by omega
    have hI2:(I:Int)<(N:Int):=by omega
    clear hD hx hax;go_wp2_with (first|(refine wpList_load_mid rfl 52 (.tmp 24) rfl g (J*3) rfl x.v _ hRr underlying52 rfl bL ?_)|(refine ag rfl 52 (.tmp 7) (.tmp 25) rfl wr.heap.size x.v rfl rfl 52 _ (aj wr _ _ rfl) bL rfl (od _) ?_;intro w5 hU5;have h75:=hU5.at_;have own5:=(own.alloc (.cells #[.int .i64 0,.int .i64 0,.int .i64 0] 52)).upd hU5 own.Rk;have hb5:=hU5.below (hb.alloc hs _) hs;have hs5:base≤w5.heap.size:=(by rw[hU5.size];simp;omega);clear hU5 hRr hb own)|(refine wpList_load_mid rfl 52 (.tmp 7) rfl wr.heap.size 0 rfl x.v _ (ai h75) underlying52 rfl bL ?_));refine(GF x g1 g2 d b w5 ((hb5.cell q1).trans H1) ((hb5.cell q2).trans H2)).mono ?_;rintro e w6 ⟨rfl,hbb6⟩;have own6:=own5.below hbb6;have h76:=aa h75 hbb6;have hb6:=hb5.trans (hbb6.mono hs5);have hs6:=Nat.le_trans hs5 hbb6.size;clear hbb6 own5 h75 hb5 hs5;cases hp:NL d b x with
    |true=>
     have HI:=qZ (HDI.off HX hp);clear hp;go_wp2_with fail;go_roundw
     case rel=>exact⟨I,J+1,arr,rfl,by go_num,HI,own6,hb6,hs6⟩
     case measure=>simp[intOf];omega
    |false=>
     have HI:=qZ (HDI.on HX hp);obtain⟨cur,hg6,-,-,-,hcl,hct⟩:=kW own6;have hN1:0+I*3=I*3:=Nat.zero_add _;clear hp;go_wp2_with (first|(refine wpList_load_mid rfl 52 (.tmp 7) rfl wr.heap.size 0 rfl x.v _ (ai h76) underlying52 rfl bL ?_)|(refine bI rfl 52 (.tmp 33) (.tmp 32) rfl g (I*3) x.v rfl rfl 52 cur hg6 bL (by show I*3+3≤cur.length;omega) (od _) ?_;intro w7 hU7;have own7:=EN own6 hct hcl (show I<N by omega) x hU7;have hb7:=hU7.below hb6 hgb;have hs7:base≤w7.heap.size:=(by rw[hU7.size];exact hs6);clear hU7));go_roundw
     case rel=>exact⟨I+1,J+1,arr.set I x,by go_num,by go_num,HI,own7,hb7,hs7⟩
     case measure=>simp[intOf];omega
  · obtain rfl:J=N:=by omega
    have hDn:OL d b l arr I l.length:=by rw[HN.out];exact hD
    obtain⟨f1,f2⟩:=hDn.done;obtain⟨cur,hg6,-,-,-,hcl,hct⟩:=kW own;obtain⟨w7,hrun,zs,hzl,hU⟩:=zR (n:=J-I) (c:=c-I) (o:=I*3) hg6 (by omega) (by rw[hcl];omega);have hlr:arr.length=J:=by have:=own.2.1;simpa[ads]using this
    have hrd:=qZ (yH (k:=I) (L:=arr.take I) hU.at_ (by rw[List.length_take,hlr];omega) (by
     have e1:(splice cur (I*3) zs).take (I*3)=cur.take (I*3):=by
      unfold splice;rw[List.take_append_of_le_length (by rw[List.length_take,hcl];omega),List.take_take,Nat.min_self]
     have e2:(ads (arr.take I)).flatten=(ads arr).flatten.take (I*3):=by
      apply List.ext_getElem?;intro q;have hl1:(ads arr).flatten.length=J*3:=by rw[bx (b8 _)];simp[ads,hlr]
      have hl2:(ads (arr.take I)).flatten.length=I*3:=by rw[bx (b8 _)];simp[ads,hlr];omega
      by_cases hq:q<I*3
      · have hq3:q/3<I:=by omega
        have hq4:q/3<arr.length:=by omega
        have hm:q%3<3:=by omega
        have e5:q/3*3+q%3=q:=by omega
        have e3:=aW (C:=3) (b8 (arr.take I)) (i:=q/3) (j:=q%3) (r:=arr[q/3].v) (by rw[ads,List.getElem?_map,List.getElem?_take_of_lt hq3,List.getElem?_eq_getElem hq4];rfl) hm;have e4:=aW (C:=3) (b8 arr) (i:=q/3) (j:=q%3) (r:=arr[q/3].v) (by rw[ads,List.getElem?_map,List.getElem?_eq_getElem hq4];rfl) hm;rw[e5]at e3 e4;rw[List.getElem?_take_of_lt hq,e3,e4]
      · rw[List.getElem?_eq_none (by omega),List.getElem?_eq_none (by rw[List.length_take];omega)]
     rw[e1,e2,←hct,List.take_take];congr 1;omega))
    rw[f1]at hrd;have hb7:=hU.below hb hgb;have HF:=qZ f2;have hIc:¬c=I:=by omega
    have hIJ2:(I:Int)≤(J:Int):=by omega
    have hIJ3:I≤J:=by omega
    have hIc2:I≤c:=by omega
    clear hU hg6 hct hcl hD hDn f1 f2 hzl own hb;go_wp2_with fail;go_ret;exact⟨some ⟨g,0,none⟩,c,by rw[HF.out];rfl,by rw[HF.out];exact hrd.out,hb7⟩):A:=h
theorem yad{A:Prop}(h:A:=by
 go_frame
 have hb0:Below w.heap.size w w0:=⟨hg0.os,hg0.tape,hg0.output,hg0.size,fun k hk=>hg0.block k hk (by simp)⟩;clear hown hc hg hg0;go_loopw [3] (fun l wr=>∃(ks:List Ad) (cnt:Nat) (left:Lit→Bool),wr.ranges prog 52 Ks b w.heap.size n D left cnt∧OwnRows wr (w.heap.size+1) 52 3 l ks.length (ads ks)∧Below w.heap.size w wr∧w.heap.size+1≤wr.heap.size∧Ni D left ks) (fun _ wr=>wr.rangeLeft b w.heap.size)
 case atStart=>exact⟨[],_,_,hrg0,OwnRows.nil,hb0,by omega,Ni.start D⟩
 case round=>
  clear hrg0 hs0 hb0;obtain⟨ks,cnt,left,hrg,hrow,hb,hsz,hk⟩:=hrel;go_wp2_with (first|(at_next;refine wpList_next_ranges (α:=Ad) (β:=Value) _ rfl _ rfl 52 dm Ks (fun a=> .agg #[a.d,a.b,a.p]) id invA (fun v y h=>⟨v,rfl⟩) b w.heap.size n D left cnt rfl hrg ?_ ?_))
  · intro hc0 hl0
    obtain⟨e1,e2⟩:=hk.done HR hl0;have HK:=qZ (And.intro e1 e2);have hrow':=jP _ _ ks _ hrow (by omega);have HS:=qZ hrow';clear hrg hc0 hl0 hrow' e1 e2 hk;go_wp2_with fail;refine HS.mono ?_;rintro e w2 ⟨rfl,hrow2,hgr⟩;have hb2:=hb.grown hgr hb.size (fun k hk=>by have:=hrow.P7 k hk;omega);have hsz2:=Nat.le_trans hsz hgr.size;clear HS hb hgr hrow;go_wp2_with fail;go_ret;exact⟨u3,rfl,by rw[←HK.out.1,←HK.out.2];exact hrow2,hb2,hsz2⟩
  · intro x c kl y yp w1 cnt1 hkx hlx hyc hat hrg1 hlt hg1 hs1 hen
    obtain⟨hwx,rfl⟩:=keyA hkx;have hk1:=qZ (hk.next hwx hlx hat);have hlen:=hk.len HR;have HW:=qZ hlen;have hrow1:=hrow.grown hg1 (fun k hk=>hrow.ne5 (by cases hk;omega));have hb1:=hb.grown hg1 hb.size (fun k hk=>by cases hk;omega);have hm:=qZ (And.intro hrg.left_eq hlt);have hbw:b<w1.heap.size:=hrg1.owns.lt;have hrw:w.heap.size<w1.heap.size:=hrg1.lt;have hW:w.heap.size≤w.heap.size+1:=by omega
    clear hrg hrow hb hk hkx hlx hyc hat hlt hg1 hs1;have hrow2:=(hrow1.alloc (.cells #[x.d,x.b,x.p] 52)).alloc (.cells #[x.d,x.b,x.p] 52);have hrg2:=(hrg1.alloc (.cells #[x.d,x.b,x.p] 52)).alloc (.cells #[x.d,x.b,x.p] 52);have hb2:=(hb1.alloc hb1.size (.cells #[x.d,x.b,x.p] 52)).alloc (by simp;omega) (.cells #[x.d,x.b,x.p] 52);have hrd:Rds ((w1.alloc (.cells #[x.d,x.b,x.p] 52)).alloc (.cells #[x.d,x.b,x.p] 52)) _ (some ⟨w1.heap.size+1,0,none⟩) 3 1 [x.v]:=jX (row:=x.v) (aj (w1.alloc (.cells #[x.d,x.b,x.p] 52)) (.cells #[x.d,x.b,x.p] 52) _ (by simp));have hs2:w1.heap.size≤((w1.alloc (.cells #[x.d,x.b,x.p] 52)).alloc (.cells #[x.d,x.b,x.p] 52)).heap.size:=by simp;omega
    clear hrow1 hrg1 hb1;go_wp2_with (at_builtin;refine aN rfl (.tmp 16) (.tmp 18) 292 rfl 52 _ 3 24 underlying292 Ip rfl (by decide) hrow2 hb2 rfl rfl hrd (fun r hr=>by rw[List.mem_singleton.1 hr];exact od x) (by unfold maxLen;omega) (by omega) (by omega) hW ?_;intro v6 w6 hown6 hb6 hgr6 hat6;have hrg6:=hrg2.kept hgr6 (by intro e;exact hrow2.ne5 (by omega) e.symm) (by intro e;exact hrow2.ne5 (by omega) e.symm);have hsz6:=hgr6.size;clear hgr6 hrow2 hb2 hrg2 hrd);rw[show ads ks++[x.v]=ads (ks++[x]) by simp[ads],show ks.length+1=(ks++[x]).length by simp]at hown6;go_roundw
    case rel=>exact⟨ks++[x],cnt1,_,hrg6,hown6,hb6,by omega,hk1.out⟩
    case measure=>
     rw[hrg6.left_eq];have:=hm.out;omega):A:=h
theorem yae{A:Prop}(h:A:=by
 have hl:l.length=n:=by have:=hr.1;simpa[ads]using this
 have HR:=qZ hr;have HL:=qZ hl;have q1:=World.block_lt_of_cell? w _ h1;have q2:=World.block_lt_of_cell? w _ h2;have H1:=qZ h1;have H2:=qZ h2;have HB:=qZ hB;clear hr hl h1 h2 hB;go_enter func252, ntmps252;go_wp2_with fail;go_loopw [8] (fun i wr=>∃k:Nat,k≤n∧i=.int .i64 k∧Below w.heap.size w wr∧∀(j:Nat) (x:Ad),l[j]? =some x→j<k→NL d b x=false) (fun i _=>n-(intOf i).toNat)
 case atStart=>exact⟨0,by omega,rfl,Below.refl _ _,fun _ _ _ h=>by omega⟩
 case round=>
  obtain⟨k,hk,rfl,hb,hall⟩:=hrel;have HA:=qZ hall;clear hall;by_cases hlt:k<n
  · have hkl:k<l.length:=by rw[HL.out];exact hlt
    have hr':=HR.out.below hb HB;obtain⟨bb,oo,rfl,hbb,hRr⟩:=aH hr' hlt (r:=l[k].v) (by rw[ads,List.getElem?_map,List.getElem?_eq_getElem hkl];rfl);have CP:=qZ (GF l[k] g1 g2 d b wr ((hb.cell q1).trans H1) ((hb.cell q2).trans H2));have hlt2:(k:Int)<(n:Int):=by omega
    have HK:=qZ (show l[k]? =some l[k]from List.getElem?_eq_getElem hkl);clear hr';generalize l[k]=x at*;go_wp2_with (first|(refine wpList_load_mid rfl 52 (.tmp 14) rfl bb (oo+k*3) rfl x.v _ hRr underlying52 rfl bL ?_));refine CP.out.mono ?_;rintro e w2 ⟨rfl,hb2⟩;have hb3:=hb.trans (hb2.mono hb.size);clear hb hb2 CP hRr;cases hp:NL d b x with
    |true=>
     have HI:=qZ (show Po (NL d b) l=(k:Int) by
      unfold Po;obtain⟨hk',e⟩:=List.getElem?_eq_some_iff.1 HK;rw[Fk hk' HA.out (by rw[e];exact hp)])
     clear hp;go_wp2_with fail;go_ret;exact⟨by rw[HI.out];rfl,hb3⟩
    |false=>
     have HP:=qZ hp;clear hp;go_wp2_with fail;go_roundw
     case rel=>exact⟨k+1,by omega,by go_num,hb3,fun j y hy hj=>by
      by_cases e:j=k
      · subst e;rw[HK.out]at hy;cases hy;exact HP
      · exact HA j y hy (by omega)⟩
     case measure=>simp[intOf];omega
  · obtain rfl:k=n:=by omega
    have HI:=qZ (show Po (NL d b) l= -1 by
     unfold Po;rw[C8 fun j x hx=>HA.out j x hx (by rw[←HL.out];exact(List.getElem?_eq_some_iff.1 hx).1)])
    go_wp2_with fail;go_ret;exact⟨by rw[HI.out];rfl,hb⟩):A:=h
theorem yam{A:Prop}(h:A:=by
 go_upto_region 1 with fail
 generalize (w.alloc (.cells #[d] 3)).alloc (.cells #[b] 3)=w1 at*;have CA:=qZ (all g m n f w1 hS hn);clear hS;go_wp2_with fail;refine CA.out.mono ?_;rintro e w2 ⟨v,rfl,hown,hb,hs2⟩;have hls:(Lq (f.map (·.1))).length=f.length:=by unfold Lq;rw[List.length_mergeSort,List.length_map]
 generalize hLQ:Lq (f.map (·.1))=L at hls hown;have HLQ:=qZ hLQ;clear hLQ;rw[←hls]at hown;have q1:w.heap.size<w1.heap.size:=by have:=HSZ.out;omega
 have q2:w.heap.size+1<w1.heap.size:=by have:=HSZ.out;omega
 have HCD:=qZ (del (w1.heap.size+1) v L w.heap.size (w.heap.size+1) d b w2 hown hs2 ((hb.cell q1).trans h1) ((hb.cell q2).trans h2) (by omega) (by omega) (by omega));have hb3:=hb2.trans (hb.mono hb2.size);clear CA hown h1 h2;go_wp2_with fail;refine HCD.mono ?_;rintro e w3 ⟨A,c,rfl,hrd,hbd⟩;go_wp2_with fail;go_ret;rw[HLQ.out];exact⟨A,c,rfl,hrd,hb3.trans (hbd.mono (by omega))⟩):A:=h
theorem yav{A:Prop}(h:A:=by
 have HK:=qZ (show Lv d b l=l by
  unfold Lv;rw[List.findIdx?_eq_none_iff]at hi;exact List.filter_eq_self.2 fun x hx=>by simpa using hi x hx)
 have E:Po (NL d b) l= -1:=by unfold Po;rw[hi]
 obtain⟨A,c,rfl,-,-⟩:=h.slice;have C:=idx A l.length c w.heap.size l g1 g2 d b w h.rds (Nat.le_refl _) h1 h2 hn;rw[E]at C;have HC:=qZ C;have HO:=qZ h;clear hi E C h h1 h2;go_enter func243, ntmps243;go_wp2_with fail;refine HC.mono ?_;rintro e w1 ⟨rfl,hb⟩;go_wp2_with fail;go_ret;refine⟨A,c,by rw[HK.out];rfl,by rw[HK.out];exact(HO.below hb).rds,hb.mono hbase⟩):A:=h
theorem ya2{A:Prop}(h:A:=by
 go_upto_region 1 with fail
 generalize w.alloc (.cells x.v.toArray 52)=w1 at*;obtain⟨c0,c1,c2⟩:=cM hx;have HO:Hid (NL d b x=(x.d !=d ||x.b !=b)):=qZ rfl;by_cases e1:x.d=d
 · have t1:(x.d !=d)=false:=by simpa using e1
   rw[t1,Bool.false_or]at HO;clear e1 hx;go_wp2_with fail;go_ret;exact⟨by rw[HO.out];rfl,hbel⟩
 · have t1:(x.d !=d)=true:=by simpa using e1
   rw[t1,Bool.true_or]at HO;clear e1 hx;go_wp2_with fail;go_ret;exact⟨by rw[HO.out];rfl,hbel⟩):A:=h
theorem ybs{A:Prop}(h:A:=by
 have HF:=qZ (show LX f a=f by
  unfold LX;refine List.filter_eq_self.2 fun p hp=> ?_;simp;intro e;unfold My at hB;simp at hB;exact hB p.2 (by rw[←e];exact hp))
 have HB:=qZ hB;clear hB;go_wp2_with fail;go_ret;rw[HF.out];exact⟨by rw[HB.out];rfl,h2,eZ hbel2 _⟩):A:=h
theorem ycq{A:Prop}(h:A:=by
 generalize hlb:My f a=lb at hrun;have HLV:=qZ hlv;have HLB:=qZ hlb;clear hlv hlb;clear hown hown1 hg hg1 ha1;go_region
 all_goals
  go_wp2_with fail;go_ret2;exact⟨by rw[HLV.out,HLB.out];rfl,hbel.drew⟩):A:=h
theorem ycs{A:Prop}(h:A:=by
 have HF:=qZ fin;have HB:=qZ hB;clear hgr3 hown3 hown hg hR fin ha2 hbel2 ht hB;go_upto_region 3 with fail
 go_region
 all_goals
  go_wp2_with fail;go_ret;exact⟨by rw[HB.out];rfl,HF⟩):A:=h
theorem yeh{A:Prop}(h:A:=by
 go_ret;refine⟨rfl,⟨aj _ _ _ (by simp),.map [],?_,Rel.nil⟩,cG _ _ _⟩;exact(World.ownsMap_made w _ _ _).alloc _):A:=h
theorem yeo{A:Prop}(h:A:=by
 have HF:=qZ fin;clear hgr1 hgr2 hown1 hown2 hg1 ha1 hR fin;go_region
 all_goals
  go_end0
  exact⟨rfl,HF⟩):A:=h
section
def NL(d b:Int)(x:Ad):Bool:=x.d !=d ||x.b !=b
def Lv(d b:Int)(l:List Ad):List Ad:=l.filter fun x=> !NL d b x
def Po(p:Ad→Bool)(l:List Ad):Int:=match l.findIdx? p with|some i=>(i:Int)|none=> -1
theorem Fk{p:Ad→Bool}{l:List Ad}{k:Nat}(b:k<l.length)(c:∀(j:Nat) (x:Ad),l[j]? =some x→j<k→p x=false)(e:p l[k]=true):l.findIdx? p=some k:=by
 rw[hO];grind
theorem C8{p:Ad→Bool}{l:List Ad}(hall:∀(j:Nat) (x:Ad),l[j]? =some x→p x=false):l.findIdx? p=none:=by
 exact yee
structure OL (d b:Int) (l arr:List Ad) (i j:Nat):Prop where
 len:arr.length=l.length
 lt:i<j
 le:j≤l.length
 front:arr.take i=Lv d b (l.take j)
 back:arr.drop j=l.drop j
theorem ln(d b:Int)(l:List Ad)(j:Nat)(x:Ad)(c:l[j]? =some x):Lv d b (l.take (j+1))=Lv d b (l.take j)++(if NL d b x then []else [x]):=by
 rw[jI,c];unfold Lv;grind
theorem OL.start{d b:Int}{l:List Ad}{i:Nat}(h:l.findIdx? (NL d b)=some i):OL d b l l i (i+1):=by
 rw[hO]at h;obtain⟨c,e,f⟩:=h;refine⟨rfl,by omega,by omega,?_,rfl⟩;rw[ln d b l i l[i] (eD c),e];simp only[if_true,List.append_nil];unfold Lv;exact ye7
theorem OL.at_{d b:Int}{l c:List Ad}{i j:Nat}(h:OL d b l c i j)(hj:j<l.length):c[j]? =l[j]? :=by
 have:=congrArg (·[0]?) h.back;simp_all
theorem OL.off{d b:Int}{l c:List Ad}{i j:Nat}(h:OL d b l c i j){x:Ad}(e:l[j]? =some x)(f:NL d b x=true):OL d b l c i (j+1):=by
 have hj:=(ek.1 e).1;refine⟨h.len,by have:=h.lt;omega,by omega,?_,?_⟩
 · rw[ln d b l j x e,f,h.front];simp
 · exact yef
theorem OL.on{d b:Int}{l c:List Ad}{i j:Nat}(h:OL d b l c i j){x:Ad}(e:l[j]? =some x)(f:NL d b x=false):OL d b l (c.set i x) (i+1) (j+1):=by
 have hj:=(ek.1 e).1;have k:=h.lt;have g:i<c.length:=by rw[h.len];omega
 refine⟨by simp[h.len],by omega,by omega,?_,?_⟩
 · rw[ln d b l j x e,f,←h.front,jI,List.take_set_of_le (fj _)]
   simp[g]
 · rw[List.drop_set_of_lt (by omega)]
   exact yef
theorem OL.done{d b:Int}{l c:List Ad}{i:Nat}(h:OL d b l c i l.length):c.take i=Lv d b l∧(Lv d b l).length=i:=by
 exact yen
theorem kW{w:ej}{base g n c:Nat}{b:List (List gg)}(h:OwnRows w base 52 3 (.slice (some ⟨g,0,none⟩) n c) n b):∃cur:List gg,w.heap[g]? =some (.cells cur.toArray 52 (0,0))∧base≤g∧n≤c∧c≤maxLen∧cur.length=c*3∧cur.take (n*3)=b.flatten:=by
 exact yd3
theorem kx{l:List Ad}{i:Nat}(g:i<l.length)(x:Ad):(ads (l.set i x)).flatten=kd (ads l).flatten (i*3) x.v:=by
 apply List.ext_getElem?;intro j;have n:(ads l).flatten.length=l.length*3:=by rw[bx (b8 l)];simp[ads]
 have o:(ads (l.set i x)).flatten.length=l.length*3:=by rw[bx (b8 _)];simp[ads]
 have k:x.v.length=3:=rfl;rw[du _ _ _ (by omega),k];by_cases hj:j<l.length*3
 · have c:j/3<l.length:=by omega
   have b:j%3<3:=by omega
   have m:j/3*3+j%3=j:=by omega
   have e1:=aW (C:=3) (b8 l) (i:=j/3) (j:=j%3) (r:=l[j/3].v) (by rw[ads,jd,eD c];rfl) b;rw[m]at e1;by_cases f:j/3=i
   · have e2:=aW (C:=3) (b8 (l.set i x)) (i:=j/3) (j:=j%3) (r:=x.v) (by rw[ads,jd,f,List.getElem?_set_self g];rfl) b
     grind
   · have e2:=aW (C:=3) (b8 (l.set i x)) (i:=j/3) (j:=j%3) (r:=l[j/3].v) (by rw[ads,jd,List.getElem?_set_ne (fun e=>f e.symm),eD c];rfl) b
     grind
 grind
theorem sH{L cs:List gg}{off k:Nat}(h:off+cs.length≤L.length)(b:off+cs.length≤k):(kd L off cs).take k=kd (L.take k) off cs:=by
 exact ya7
theorem EN{w j:ej}{base g n c i:Nat}{b:List Ad}{e:List gg}(h:OwnRows w base 52 3 (.slice (some ⟨g,0,none⟩) n c) n (ads b))(l:e.take (n*3)=(ads b).flatten)(m:e.length=c*3)(t:i<n)(x:Ad)(o:Upd g (.cells (kd e (i*3) x.v).toArray 52 (0,0)) w j):OwnRows j base 52 3 (.slice (some ⟨g,0,none⟩) n c) n (ads (b.set i x)):=by
 obtain⟨u,z,p,q,r,A,B⟩:=kW h;have k:b.length=n:=by have:=h.2.1;simpa[ads]using this
 have f:x.v.length=3:=rfl;refine⟨⟨by rw[bx (b8 _)];simp[ads,k],.inr ⟨g,c,_,rfl,p,o.at_,q,r,by simp[kd,f];omega,?_⟩⟩,by simp[ads,k],b8 _⟩;rw[kx (by omega),←l,List.toList_toArray,sH (by rw[f,m];omega) (by rw[f];omega)]
theorem yH{w:ej}{g k:Nat}{L:List Ad}{c:List gg}{t:TypeId}{fr:Nat×Nat}(h:w.heap[g]? =some (.cells c.toArray t fr))(f:L.length=k)(m:c.take (k*3)=(ads L).flatten):Rds w w.heap.size (some ⟨g,0,none⟩) 3 k (ads L):=by
 refine⟨by simp[ads,f],b8 L,fun _=>⟨g,0,rfl,af h,fun i r j u b l=> ?_⟩⟩;have hj:j<3:=by rw[←b8 L r (List.mem_of_getElem? b)];exact(ek.1 l).1
 have n:i<k:=by have:=(ek.1 b).1;simpa[ads,f]using this
 have e:=aW (C:=3) (b8 L) b hj;rw[ae h,Nat.zero_add,jt,←List.getElem?_take_of_lt (j:=k*3) (by omega),m,e,l]
theorem zR{w:ej}{g o n c:Nat}{f:List gg}(k:w.heap[g]? =some (.cells f.toArray 52 (0,0)))(B:0<n)(C:o+n*3≤f.length):
 ∃q,(∀r,(kk #[292] r #[.slice (some ⟨g,o,none⟩) n c]).run eX w=.ok (.tuple #[]) q)∧∃b:List gg,b.length=n*3∧Upd g (.cells (kd f o b).toArray 52 (0,0)) w q:=by
 generalize l:(jg (Value.agg #[.int .i64 0,.int .i64 0,.int .i64 0]).cells n).toList=b;have u:b.length=n*3:=by rw[←l];simp[jg,Value.cells]
 have z:∀v∈b,v.oneCell'=true:=by
  intro v p;rw[←l]at p;simp[jg,Value.cells]at p;obtain⟨i,-,rfl⟩:=p;have:i%3=0∨i%3=1∨i%3=2:=by omega
  rcases this with e|e|e<;>rw[e]<;>rfl
 have t:=run_storeCells_cells (P:= eX) g o b 0 w (fun j hj=>by
  rw[ae k,jt,eD (by omega)];rfl) (fun j hj=>ao k _) z
 simp only[Nat.add_zero]at t;refine⟨w.setCells g o b,fun r=> ?_,b,u,cA k (by omega)⟩;obtain⟨m,rfl⟩:∃m,n=m+1:=⟨n-1,by omega⟩;simp[kk,run_underlying underlying292,l,t]
end
namespace spotBool
open Go.Maps (Keyed)
theorem qW: eX.underlying 78 =some (.pointer (eX.pointee 78)):=by kernel_rfl
theorem cw(x:lx)(w:ej):(kn .neq 78 (.pointer (some x)) (.pointer none)).run eX w=.ok (.bool true) w:=fo w 78 (some x) qW
theorem JY(x:lx)(w:ej):(kn .eql 78 (.pointer (some x)) (.pointer none)).run eX w=.ok (.bool false) w:=jw w 78 (some x) qW
theorem mQ(w:ej):(kn .neq 78 (.pointer none) (.pointer none)).run eX w=.ok (.bool false) w:=fo w 78 none qW
theorem new(w:ej):hX eX 58 #[] w fun e b=>e=.returned (.pointer (some ⟨w.heap.size+1,0,none⟩))∧LY b 168 (w.heap.size+1) w.heap.size 0 []∧js w.heap.size w b:=by
 have f:= @kr eX;have c:∀x:Nat, eX.built 168 [(0,.map (some x))]=some #[.map (some x)]:=fun x=>by kernel_rfl
 go_enter func58, ntmps58;go_wp2_with (refine ac rfl 168 _ rfl _ rfl _ (c _) ?_);exact yeh
theorem set(g b n:Nat)(f:List (Ad×gg))(a:Ad)(v:gg)(w:ej)(h:LY w 168 g b n f)(c:a.wf)(r:n≤100000)(t:v.oneCell'=true):
 hX eX 81 #[g,.agg a.v.toArray,v] w fun e i=>e=.returned (.tuple #[])∧LY i 168 g b (n+1) (Oz f a v)∧w.grownBy i (some b):=by
 obtain⟨o,D,k,hR⟩:=h;have l:=cy c;have u:=cw;have hown1:=k.alloc (.cells a.v.toArray 52);have hg1:=am o (.cells a.v.toArray 52);have ha1:=ed w (.cells a.v.toArray 52);have hgr1:=World.grownBy_alloc w (.cells a.v.toArray 52) (some b);have z:(w.alloc (.cells a.v.toArray 52)).heap.size=w.heap.size+1:=by simp
 have B:=k.lt;go_enter func81, ntmps81;go_upto_region 2 with fail
 generalize w.alloc (.cells a.v.toArray 52)=p at*;have C:p.cell? ⟨g,0,none⟩=some (.map (some b)):=by rw[ae hg1];rfl
 obtain⟨c0,c1,c2⟩:=cM ha1;have l:ly eX 52 (.agg #[a.d,a.b,a.p])=some (klA a):=cy c;obtain⟨m,E,hown2,hgr2⟩:=hown1.drew.update (val:=v) dm jm (by unfold maxLen;omega) l (show Ks v=some (.held v,[])from rfl);have hgr2:=cC hgr2;have q:=mK hown1 hg1;have fin:LY m 168 g b (n+1) (Oz f a v)∧w.grownBy m (some b):=⟨⟨(hgr2.block g (af hg1) (fun e=>q (iP e))).trans hg1,_,hown2,hR.put c v⟩,hgr1.andThen hgr2 (fun j hj=> .inr hj)⟩;exact yeo
theorem ew(w:ej):(zeroValue 4).run eX w=.ok (.bool false) w:=by kernel_rfl
theorem get(g b n:Nat)(f:List (Ad×gg))(a:Ad)(w:ej)(h:LY w 168 g b n f)(c:a.wf):
 hX eX 61 #[g,.agg a.v.toArray] w fun e i=>e=.returned (.tuple #[Lu f a (.bool false),.bool (My f a)])∧js w.heap.size w i:=by
 obtain⟨hg,D,hown,j⟩:=h;have l:=JY;have hown1:=hown.alloc (.cells a.v.toArray 52);have hg1:=am hg (.cells a.v.toArray 52);have ha1:=ed w (.cells a.v.toArray 52);have hbel:=(hG _ w).alloc (fj _) (.cells a.v.toArray 52);go_enter func61, ntmps61;go_upto_region 4 with fail
 generalize w.alloc (.cells a.v.toArray 52)=k at*;have m:k.cell? ⟨g,0,none⟩=some (.map (some b)):=by rw[ae hg1];rfl
 obtain⟨c0,c1,c2⟩:=cM ha1;have hrun:=tP hown1.drew j c jm (ew _);generalize hlv:Lu f a (.bool false)=o at hrun;exact ycq
theorem drop(g b n:Nat)(f:List (Ad×gg))(a:Ad)(w:ej)(h:LY w 168 g b n f)(i:a.wf):
 hX eX 62 #[g,.agg a.v.toArray] w fun e o=>e=.returned (.bool (My f a))∧LY o 168 g b n (LX f a)∧w.grownBy o (some b):=by
 have k:=h.below ((hG _ w).alloc (fj _) (.cells a.v.toArray 52));have l:=ed w (.cells a.v.toArray 52);have m:=(hG _ w).alloc (fj _) (.cells a.v.toArray 52);clear h;go_enter func62, ntmps62;go_upto_region 1 with fail
 generalize w.alloc (.cells a.v.toArray 52)=r at*;obtain⟨c0,c1,c2⟩:=cM l;go_wp2_with fail;refine(get g b n f a r k i).mono ?_;rintro e t ⟨rfl,c⟩;have h2:=k.below c;have ha2:=aa l c;have hbel2:=m.trans (c.mono m.size);clear c0 c1 c2 k l c m;cases hB:My f a with
 |false=>
  exact ybs
 |true=>
  obtain⟨hg,D,hown,hR⟩:=h2;obtain⟨c0,c1,c2⟩:=cM ha2;have B:t.cell? ⟨g,0,none⟩=some (.map (some b)):=by rw[ae hg];rfl
  have u:ly eX 52 (.agg #[a.d,a.b,a.p])=some (klA a):=cy i;obtain⟨q,C,hown3,ht⟩:=hown.drew.drop dm jm u 0;have hgr3:=cC (jN ht);have z:=mK hown hg;have fin:LY q 168 g b n (LX f a)∧w.grownBy q (some b):=⟨⟨(hgr3.block g (af hg) (fun e=>z (iP e))).trans hg,_,hown3,hR.del i⟩,(eZ hbel2 (some b)).andThen hgr3 (fun j hj=> .inr hj)⟩;exact ycs
theorem all(g b n:Nat)(f:List (Ad×gg))(w:ej)(h:LY w 168 g b n f)(o:n≤100000):
 hX eX 244 #[g] w fun e i=>∃v,e=.returned v∧OwnRows i (w.heap.size+1) 52 3 v f.length (ads (Lq (f.map (·.1))))∧js w.heap.size w i∧w.heap.size+1≤i.heap.size:=by
 obtain⟨hg,D,hown,j⟩:=h;have p:=JY;have hc:w.cell? ⟨g,0,none⟩=some (.map (some b)):=by rw[ae hg];rfl
 have HR:=qZ j;have q:=hown.lt;have m:=hown.size_le;rw[j.size]at m;clear j;go_enter func244, ntmps244;go_wp2_with (first|(at_range;refine kb _ rfl _ 166 rfl 52 4 dm jm Ks b n D rfl hown ?_;intro w0 hrg0 hg0 hs0));exact yad
theorem GF(x:Ad)(g1 g2:Nat)(d b:Int)(w:ej)(c:w.cell? ⟨g1,0,none⟩=some (.int .i64 d))(f:w.cell? ⟨g2,0,none⟩=some (.int .i64 b)):
 hX eX 245 #[.agg x.v.toArray,g1,g2] w fun e g=>e=.returned (.bool (NL d b x))∧js w.heap.size w g:=by
 have hx:=ed w (.cells x.v.toArray 52);have hbel:=(hG _ w).alloc (fj _) (.cells x.v.toArray 52);have k1:=cQ c (.cells x.v.toArray 52);have k2:=cQ f (.cells x.v.toArray 52);clear c f;go_enter func245, ntmps245;exact ya2
theorem idx(A:Option lx)(n c B:Nat)(l:List Ad)(g1 g2:Nat)(d b:Int)(w:ej)(hr:Rds w B A 3 n (ads l))(hB:B≤w.heap.size)(h1:w.cell? ⟨g1,0,none⟩=some (.int .i64 d))(h2:w.cell? ⟨g2,0,none⟩=some (.int .i64 b))(g:n≤1000000):
 hX eX 252 #[.slice A n c,(.func (.func 245) #[] #[g1,g2])] w fun e f=>e=.returned (.int .i64 (Po (NL d b) l))∧js w.heap.size w f:=by
 exact yae
theorem del(base:Nat)(v:gg)(l:List Ad)(g1 g2:Nat)(d b:Int)(w:ej)(h:OwnRows w base 52 3 v l.length (ads l))(hbase:base≤w.heap.size)(h1:w.cell? ⟨g1,0,none⟩=some (.int .i64 d))(h2:w.cell? ⟨g2,0,none⟩=some (.int .i64 b))(q1:g1<base)(q2:g2<base)(hn:l.length≤1000000):
 hX eX 243 #[v,(.func (.func 245) #[] #[g1,g2])] w fun e f=>∃A c,e=.returned (.slice A (Lv d b l).length c)∧Rds f f.heap.size A 3 (Lv d b l).length (ads (Lv d b l))∧js base w f:=by
 have H1:=qZ h1;have H2:=qZ h2;have m:=qZ hn;cases hi:l.findIdx? (NL d b)with
 |none=>
  exact yav
 |some i0=>
  exact yab
theorem block(g m n:Nat)(f:List (Ad×gg))(d b:Int)(w:ej)(h:LY w 168 g m n f)(hn:n≤100000):
 hX eX 223 #[g,d,b] w fun e i=>∃A c,e=.returned (.slice A (Lv d b (Lq (f.map (·.1)))).length c)∧Rds i i.heap.size A 3 (Lv d b (Lq (f.map (·.1)))).length (ads (Lv d b (Lq (f.map (·.1)))))∧js w.heap.size w i:=by
 have hb2:=cG w (.cells #[d] 3) (.cells #[b] 3);have h1:((w.alloc (.cells #[d] 3)).alloc (.cells #[b] 3)).cell? ⟨w.heap.size,0,none⟩=some (.int .i64 d):=by rw[ae (bu _ _ _)];rfl
 have h2:((w.alloc (.cells #[d] 3)).alloc (.cells #[b] 3)).cell? ⟨w.heap.size+1,0,none⟩=some (.int .i64 b):=by rw[ae (aj (w.alloc _) _ _ (by simp))];rfl
 have hS:=h.below hb2;have j:((w.alloc (.cells #[d] 3)).alloc (.cells #[b] 3)).heap.size=w.heap.size+2:=by simp
 have o:f.length≤n:=by
  obtain⟨-,D,k,l⟩:=h;have:=k.size_le;rwa [l.size]at this
 have HSZ:=qZ j;clear h j;go_enter func223, ntmps223;exact yam
end spotBool
namespace spotStr
open Go.Maps (Keyed)
theorem qW: eX.underlying 336 =some (.pointer (eX.pointee 336)):=by kernel_rfl
theorem cw(x:lx)(w:ej):(kn .neq 336 (.pointer (some x)) (.pointer none)).run eX w=.ok (.bool true) w:=fo w 336 (some x) qW
theorem JY(x:lx)(w:ej):(kn .eql 336 (.pointer (some x)) (.pointer none)).run eX w=.ok (.bool false) w:=jw w 336 (some x) qW
theorem mQ(w:ej):(kn .neq 336 (.pointer none) (.pointer none)).run eX w=.ok (.bool false) w:=fo w 336 none qW
theorem new(w:ej):hX eX 291 #[] w fun e b=>e=.returned (.pointer (some ⟨w.heap.size+1,0,none⟩))∧LY b 345 (w.heap.size+1) w.heap.size 0 []∧js w.heap.size w b:=by
 have f:= @kr eX;have c:∀x:Nat, eX.built 345 [(0,.map (some x))]=some #[.map (some x)]:=fun x=>by kernel_rfl
 go_enter func291, ntmps291;go_wp2_with (refine ac rfl 345 _ rfl _ rfl _ (c _) ?_);exact yeh
theorem set(g b n:Nat)(f:List (Ad×gg))(a:Ad)(v:gg)(w:ej)(h:LY w 345 g b n f)(c:a.wf)(r:n≤100000)(t:v.oneCell'=true):
 hX eX 292 #[g,.agg a.v.toArray,v] w fun e i=>e=.returned (.tuple #[])∧LY i 345 g b (n+1) (Oz f a v)∧w.grownBy i (some b):=by
 obtain⟨o,D,k,hR⟩:=h;have l:=cy c;have u:=cw;have hown1:=k.alloc (.cells a.v.toArray 52);have hg1:=am o (.cells a.v.toArray 52);have ha1:=ed w (.cells a.v.toArray 52);have hgr1:=World.grownBy_alloc w (.cells a.v.toArray 52) (some b);have z:(w.alloc (.cells a.v.toArray 52)).heap.size=w.heap.size+1:=by simp
 have B:=k.lt;go_enter func292, ntmps292;go_upto_region 2 with fail
 generalize w.alloc (.cells a.v.toArray 52)=p at*;have C:p.cell? ⟨g,0,none⟩=some (.map (some b)):=by rw[ae hg1];rfl
 obtain⟨c0,c1,c2⟩:=cM ha1;have l:ly eX 52 (.agg #[a.d,a.b,a.p])=some (klA a):=cy c;obtain⟨m,E,hown2,hgr2⟩:=hown1.drew.update (val:=v) dm hZ (by unfold maxLen;omega) l (show Ks v=some (.held v,[])from rfl);have hgr2:=cC hgr2;have q:=mK hown1 hg1;have fin:LY m 345 g b (n+1) (Oz f a v)∧w.grownBy m (some b):=⟨⟨(hgr2.block g (af hg1) (fun e=>q (iP e))).trans hg1,_,hown2,hR.put c v⟩,hgr1.andThen hgr2 (fun j hj=> .inr hj)⟩;exact yeo
theorem ew(w:ej):(zeroValue 9).run eX w=.ok (.string ⟨#[]⟩) w:=by kernel_rfl
theorem get(g b n:Nat)(f:List (Ad×gg))(a:Ad)(w:ej)(h:LY w 345 g b n f)(c:a.wf):
 hX eX 293 #[g,.agg a.v.toArray] w fun e i=>e=.returned (.tuple #[Lu f a (.string ⟨#[]⟩),.bool (My f a)])∧js w.heap.size w i:=by
 obtain⟨hg,D,hown,j⟩:=h;have l:=JY;have hown1:=hown.alloc (.cells a.v.toArray 52);have hg1:=am hg (.cells a.v.toArray 52);have ha1:=ed w (.cells a.v.toArray 52);have hbel:=(hG _ w).alloc (fj _) (.cells a.v.toArray 52);go_enter func293, ntmps293;go_upto_region 4 with fail
 generalize w.alloc (.cells a.v.toArray 52)=k at*;have m:k.cell? ⟨g,0,none⟩=some (.map (some b)):=by rw[ae hg1];rfl
 obtain⟨c0,c1,c2⟩:=cM ha1;have hrun:=tP hown1.drew j c hZ (ew _);generalize hlv:Lu f a (.string ⟨#[]⟩)=o at hrun;exact ycq
theorem len(g b n:Nat)(f:List (Ad×gg))(w:ej)(h:LY w 345 g b n f):
 hX eX 296 #[g] w fun e w'=>e=.returned (.int .i64 (f.length:Int))∧w=w':=by
 obtain⟨hg,D,hown,hR⟩:=h;have hnn:=JY;have hc:w.cell? ⟨g,0,none⟩=some (.map (some b)):=by rw[ae hg];rfl
 have hl:=fun ty=>hown.len hZ ty
 rw[hR.size]at hl;clear hown hg;go_enter func296, ntmps296;exact nj
theorem drop(g b n:Nat)(f:List (Ad×gg))(a:Ad)(w:ej)(h:LY w 345 g b n f)(i:a.wf):
 hX eX 298 #[g,.agg a.v.toArray] w fun e o=>e=.returned (.bool (My f a))∧LY o 345 g b n (LX f a)∧w.grownBy o (some b):=by
 have k:=h.below ((hG _ w).alloc (fj _) (.cells a.v.toArray 52));have l:=ed w (.cells a.v.toArray 52);have m:=(hG _ w).alloc (fj _) (.cells a.v.toArray 52);clear h;go_enter func298, ntmps298;go_upto_region 1 with fail
 generalize w.alloc (.cells a.v.toArray 52)=r at*;obtain⟨c0,c1,c2⟩:=cM l;go_wp2_with fail;refine(get g b n f a r k i).mono ?_;rintro e t ⟨rfl,c⟩;have h2:=k.below c;have ha2:=aa l c;have hbel2:=m.trans (c.mono m.size);clear c0 c1 c2 k l c m;cases hB:My f a with
 |false=>
  exact ybs
 |true=>
  obtain⟨hg,D,hown,hR⟩:=h2;obtain⟨c0,c1,c2⟩:=cM ha2;have B:t.cell? ⟨g,0,none⟩=some (.map (some b)):=by rw[ae hg];rfl
  have u:ly eX 52 (.agg #[a.d,a.b,a.p])=some (klA a):=cy i;obtain⟨q,C,hown3,ht⟩:=hown.drew.drop dm hZ u 0;have hgr3:=cC (jN ht);have z:=mK hown hg;have fin:LY q 345 g b n (LX f a)∧w.grownBy q (some b):=⟨⟨(hgr3.block g (af hg) (fun e=>z (iP e))).trans hg,_,hown3,hR.del i⟩,(eZ hbel2 (some b)).andThen hgr3 (fun j hj=> .inr hj)⟩;exact ycs
theorem all(g b n:Nat)(f:List (Ad×gg))(w:ej)(h:LY w 345 g b n f)(o:n≤100000):
 hX eX 294 #[g] w fun e i=>∃v,e=.returned v∧OwnRows i (w.heap.size+1) 52 3 v f.length (ads (Lq (f.map (·.1))))∧js w.heap.size w i∧w.heap.size+1≤i.heap.size:=by
 obtain⟨hg,D,hown,j⟩:=h;have p:=JY;have hc:w.cell? ⟨g,0,none⟩=some (.map (some b)):=by rw[ae hg];rfl
 have HR:=qZ j;have q:=hown.lt;have m:=hown.size_le;rw[j.size]at m;clear j;go_enter func294, ntmps294;go_wp2_with (first|(at_range;refine kb _ rfl _ 343 rfl 52 9 dm hZ Ks b n D rfl hown ?_;intro w0 hrg0 hg0 hs0));exact yad
theorem GF(x:Ad)(g1 g2:Nat)(d b:Int)(w:ej)(c:w.cell? ⟨g1,0,none⟩=some (.int .i64 d))(f:w.cell? ⟨g2,0,none⟩=some (.int .i64 b)):
 hX eX 302 #[.agg x.v.toArray,g1,g2] w fun e g=>e=.returned (.bool (NL d b x))∧js w.heap.size w g:=by
 have hx:=ed w (.cells x.v.toArray 52);have hbel:=(hG _ w).alloc (fj _) (.cells x.v.toArray 52);have k1:=cQ c (.cells x.v.toArray 52);have k2:=cQ f (.cells x.v.toArray 52);clear c f;go_enter func302, ntmps302;exact ya2
theorem idx(A:Option lx)(n c B:Nat)(l:List Ad)(g1 g2:Nat)(d b:Int)(w:ej)(hr:Rds w B A 3 n (ads l))(hB:B≤w.heap.size)(h1:w.cell? ⟨g1,0,none⟩=some (.int .i64 d))(h2:w.cell? ⟨g2,0,none⟩=some (.int .i64 b))(g:n≤1000000):
 hX eX 252 #[.slice A n c,(.func (.func 302) #[] #[g1,g2])] w fun e f=>e=.returned (.int .i64 (Po (NL d b) l))∧js w.heap.size w f:=by
 exact yae
theorem del(base:Nat)(v:gg)(l:List Ad)(g1 g2:Nat)(d b:Int)(w:ej)(h:OwnRows w base 52 3 v l.length (ads l))(hbase:base≤w.heap.size)(h1:w.cell? ⟨g1,0,none⟩=some (.int .i64 d))(h2:w.cell? ⟨g2,0,none⟩=some (.int .i64 b))(q1:g1<base)(q2:g2<base)(hn:l.length≤1000000):
 hX eX 243 #[v,(.func (.func 302) #[] #[g1,g2])] w fun e f=>∃A c,e=.returned (.slice A (Lv d b l).length c)∧Rds f f.heap.size A 3 (Lv d b l).length (ads (Lv d b l))∧js base w f:=by
 have H1:=qZ h1;have H2:=qZ h2;have m:=qZ hn;cases hi:l.findIdx? (NL d b)with
 |none=>
  exact yav
 |some i0=>
  exact yab
theorem block(g m n:Nat)(f:List (Ad×gg))(d b:Int)(w:ej)(h:LY w 345 g m n f)(hn:n≤100000):
 hX eX 297 #[g,d,b] w fun e i=>∃A c,e=.returned (.slice A (Lv d b (Lq (f.map (·.1)))).length c)∧Rds i i.heap.size A 3 (Lv d b (Lq (f.map (·.1)))).length (ads (Lv d b (Lq (f.map (·.1)))))∧js w.heap.size w i:=by
 have hb2:=cG w (.cells #[d] 3) (.cells #[b] 3);have h1:((w.alloc (.cells #[d] 3)).alloc (.cells #[b] 3)).cell? ⟨w.heap.size,0,none⟩=some (.int .i64 d):=by rw[ae (bu _ _ _)];rfl
 have h2:((w.alloc (.cells #[d] 3)).alloc (.cells #[b] 3)).cell? ⟨w.heap.size+1,0,none⟩=some (.int .i64 b):=by rw[ae (aj (w.alloc _) _ _ (by simp))];rfl
 have hS:=h.below hb2;have j:((w.alloc (.cells #[d] 3)).alloc (.cells #[b] 3)).heap.size=w.heap.size+2:=by simp
 have o:f.length≤n:=by
  obtain⟨-,D,k,l⟩:=h;have:=k.size_le;rwa [l.size]at this
 have HSZ:=qZ j;clear h j;go_enter func297, ntmps297;exact yam
end spotStr
end Go.Proofs.YtlkpfnjdbgeifaaGreat
