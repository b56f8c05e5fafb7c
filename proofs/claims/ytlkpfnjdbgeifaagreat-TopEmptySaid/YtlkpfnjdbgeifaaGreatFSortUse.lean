import Derived.Test.YtlkpfnjdbgeifaaGreatFOrderAd
import Derived.Test.YtlkpfnjdbgeifaaGreatFOwnRows
set_option linter.unusedSimpArgs false
set_option linter.unusedVariables false
open Bool renaming eq_false_iff→ed,not_eq_true'→eX
open Go renaming Value→ej,World→hZ,TypeId→iP,DataW→jd
open List renaming getElem?_eq_getElem→ek,getElem?_take_of_lt→fj,pairwise_mergeSort→fo,getElem?_eq_none→gg,mergeSort_perm→hG,mem_singleton→hO,ext_getElem?→hX
open Array renaming getElem?_toList→eD
namespace Go.Proofs.YtlkpfnjdbgeifaaGreat
open Go.Proofs.Tryz
open Go.Proofs.Tryz
theorem ye8{A:Prop}(h:A:=by
 intro r hr;obtain⟨x,_,rfl⟩:=List.mem_map.1 hr;rfl):A:=h
section
open Go.RowKit Go.Shelf Go.Lib Go.Sort
instance:Inhabited Ad:=⟨⟨0,0,0⟩⟩
def Qb(x y:Ad):Bool:=if x.d≠y.d then decide (x.d<y.d)else if x.b≠y.b then decide (x.b<y.b)else decide (x.p<y.p)
theorem jk(x y:Ad):ltOf Ol x y=Qb x y:=by
 unfold ltOf Ol Qb orI orI orI orI LD;grind
theorem fE(x y:Ad):Qb x y=true↔x.d<y.d∨(x.d=y.d∧(x.b<y.b∨(x.b=y.b∧x.p<y.p))):=by
 unfold Qb;grind
theorem IN:SWO (ltOf Ol)where
 irrefl x:=by rw[jk,ed,ne_eq,fE];omega
 trans x y z h1 h2:=by rw[jk,fE]at*;omega
 ntrans x y z h1 h2:=by rw[jk,ed,ne_eq,fE]at*;omega
theorem IK(x y:Ad)(c:ltOf Ol x y=false)(e:ltOf Ol y x=false):x=y:=by
 rw[jk,ed,ne_eq,fE]at c e;obtain⟨d,b,p⟩:=x;obtain⟨f,g,h⟩:=y;grind
def ads(l:List Ad):List (List ej):=l.map Ad.v
theorem b8(l:List Ad):∀r∈ads l,r.length=3:=by
 exact ye8
theorem od(x:Ad):∀v∈x.v,v.oneCell'=true:=by
 intro v b;simp[Ad.v]at b;rcases b with rfl|rfl|rfl<;>rfl
def Lq(l:List Ad):List Ad:=l.mergeSort fun x y=> !(ltOf Ol) y x
theorem FP(g off size:Nat)(w:hZ):CmpLays prog 254 #[] Ad.v 3 Ol g off size w:=fun _ _ _ _ x y=>yQ x y _
theorem qu(l:List Ad):(flatK Ad.v 3 l.toArray).toList=(ads l).flatten:=by
 apply hX;intro j;have g:(ads l).flatten.length=l.length*3:=by rw[bx (b8 l)];simp[ads]
 by_cases hj:j<l.length*3
 · have b:j/3<l.length:=by omega
   have c:j%3<3:=by omega
   have e:=aW (C:=3) (b8 l) (i:=j/3) (j:=j%3) (r:=l[j/3].v) (by rw[ads,List.getElem?_map,ek b];rfl) c;rw[show j/3*3+j%3=j by omega]at e;rw[e];have f:j%3<l[j/3].v.length:=c;rw[ek f];simp[flatK,hj,b];simp_all
 simp_all
theorem zx{enc:Ad→List ej}{k:Nat}{w:hZ}{g m:Nat}{d:Array Ad}{os:Array Obj}{b:Array ej}{e:iP}{fr:Nat×Nat}(c:w.heap[g]? =some (.cells b e fr)):
 (sortWorldK enc k w g 0 m d os).heap[g]? =some (.cells (putCells id 0 (flatK enc k d) b) e fr):=by
 have f:=af c;change (w.heap.modify g (onCells (putCells id 0 (flatK enc k d)))++os)[g]? =_;rw[Array.getElem?_append_left (by simp_all),Array.getElem?_modify,c];simp[onCells]
theorem mH{b:Ad→List ej}{k:Nat}{w:hZ}{g m i:Nat}{d:Array Ad}{c:Array Obj}(e:i<w.heap.size)(f:i≠g):(sortWorldK b k w g 0 m d c).heap[i]? =w.heap[i]? :=by
 change (w.heap.modify g (onCells (putCells id 0 (flatK b k d)))++c)[i]? =_;grind
theorem jP(base:Nat)(v:ej)(b:List Ad)(w:hZ)(h:OwnRows w base 52 3 v b.length (ads b))(R:b.length≤1000000):
 Calls prog 253 #[v,.func (.func 254) #[] #[]] w fun e f=>e=.returned (.tuple #[])∧OwnRows f base 52 3 v b.length (ads (Lq b))∧w.grownBy f v.ownBlock:=by
 rcases h.1.2 with⟨rfl,u⟩|⟨g,n,z,rfl,B,l,C,D,q,E⟩
 · have:b=[]:=List.eq_nil_of_length_eq_zero u
   subst this
   exact(AnyF.slices_SortFunc_none Tryz.QN none 0 _ w).mono fun e f ⟨o,c⟩=>by
    subst c;exact⟨o,by simpa[Lq]using h,World.grownBy.refl _ _⟩
 · have G:=af l
   have H:HoldsK Ad.v 3 w g 0 b.toArray:=by
    intro j hj;refine⟨?_,ao l _⟩;rw[Nat.zero_add,ae l];have e:=qu b;have I:j<(flatK Ad.v 3 b.toArray).toList.length:=by simpa using hj
    rw[getElem!_pos (flatK Ad.v 3 b.toArray) j hj,←eD,←fj (j:=b.length*3) (by simp_all),E,←e,ek I];simp
   have J:∀r w,(callFunc 254 r).run prog w=.ok (.enter 254 r) w:=enters_of func254 (by rfl) rfl;have t:=AnyQ.slices_SortFunc_total Tryz.QN 3 Tryz.isAgg52 Tryz.sizeOf52 Ad.v (fun _=>rfl) od Ol IN 254 #[] g 0 n b.toArray w J (FP g 0 _ w) H G (by grind) IK;have K:b.toArray.size=b.length:=by simp
   rw[K]at t;refine t.mono fun e f ⟨o,m,L,c⟩=>⟨o,?_,?_⟩
   · have M:=zx (enc:=Ad.v) (k:=3) (m:=m) (d:=(Lq b).toArray) (os:=L) l
     have p:(Lq b).length=b.length:=by unfold Lq;exact List.length_mergeSort _
     refine⟨⟨?_,.inr ⟨g,n,_,rfl,B,by rw[c];exact M,C,D,by simp[putCells,q],?_⟩⟩,by simp[ads,p],b8 _⟩
     · rw[bx (b8 _)];simp[ads,p]
     · rw[←qu]
       apply hX;intro j;have S:z.size=n*3:=q;by_cases hj:j<b.length*3
       · have N:j<(flatK Ad.v 3 (Lq b).toArray).size:=by simp[p];omega
         rw[fj hj,eD,eD,Array.getElem?_eq_getElem N];unfold putCells;grind
       · rw[gg (by grind),gg (by simp_all)]
   · have O:w.heap.size≤f.heap.size:=by rw[c];exact size_sortWorldK_c _ _ _ _ _ _ _ _
     exact⟨by rw[c];rfl,by rw[c];rfl,by rw[c];rfl,O,fun i P Q=>by rw[c];exact mH P (fun e=>Q (by rw[e];rfl))⟩
end
section
open Go.RowKit Go.Shelf Go.Lib Go.Sort
theorem invA(key:ej)(b:Lit)(h:keyOf prog 52 key=some b):∃a:Ad,key=.agg #[.int .i64 a.d,.int .i64 a.b,.int .i64 a.p]:=by
 obtain⟨a,e,-,-⟩:=Cx h;exact⟨a,e⟩
def Rg:ej→List ej
 | .agg b=>b.toList
 |_=> []
theorem keyA{a:Ad}{b:Lit}(h:keyOf prog 52 (.agg #[.int .i64 a.d,.int .i64 a.b,.int .i64 a.p])=some b):a.wf∧b=klA a:=by
 obtain⟨c,e,f,rfl⟩:=Cx h;have:a=c:=Ad.Rb (congrArg Rg e)
 simp_all
structure Ni (D:jd ej) (left:Lit→Bool) (ks:List Ad):Prop where
 met:∀a∈ks,a.wf∧Maps.has D (klA a)=true∧left (klA a)=false
 nodup:ks.Nodup
 rest:∀a:Ad,a.wf→Maps.has D (klA a)=true→a∈ks∨left (klA a)=true
theorem Ni.start(D:jd ej):Ni D (Maps.has D) []:=⟨by simp,by simp,fun a _ h=> .inr h⟩
theorem Ni.next{D:jd ej}{left:Lit→Bool}{g:List Ad}(h:Ni D left g){x:Ad}(i:x.wf)(j:left (klA x)=true){y:jd ej}(l:∀m,D.atKey (klA x) m=y):Ni D (fun z=>left z&& !z.sameKey (klA x)) (g++[x])where
 met a c:=by
  rcases List.mem_append.1 c with c|c
  · obtain⟨f,n,o⟩:=h.met a c
    simp_all
  · rw[hO]at c
    subst c;exact⟨i,Maps.has_true_of_atKey l,by rw[WideAt.sameKey_self (mU _)];simp⟩
 nodup:=by
  rw[List.nodup_append];refine⟨h.nodup,by simp,fun a c b k=> ?_⟩;rw[hO]at k;subst k;intro e;subst e;rw[(h.met _ c).2.2]at j;cases j
 rest a c hD:=by
  by_cases e:a=x
  · simp_all
  · rcases h.rest a c hD with f|f
    · simp_all
    · refine .inr ?_
      rw[f,Maps.sameKey_ne (o7 c i e)];rfl
theorem vb{l e:List Ad}(h:l.Perm e):Lq l=Lq e:=by
 have f:∀a b c:Ad,(!(ltOf Ol) b a)=true→(!(ltOf Ol) c b)=true→(!(ltOf Ol) c a)=true:=fun a b c g i=>by
  simp only[eX]at*;exact IN.ntrans c b a i g
 have j:∀a b:Ad,((!(ltOf Ol) b a) ||(!(ltOf Ol) a b))=true:=fun a b=>by
  rw[jk,jk,Bool.or_eq_true,eX,eX,ed,ed,ne_eq,ne_eq,fE,fE];omega
 unfold Lq;refine List.Perm.eq_of_pairwise (le:=fun x y=>(!(ltOf Ol) y x)=true) (fun a b _ _ g i=>IK a b (by simp_all) (by simp_all)) (fo f j l) (fo f j e) ?_;exact(hG l _).trans (h.trans (hG e _).symm)
theorem Ni.done{D:jd ej}{left:Lit→Bool}{e:List Ad}{f:List (Ad×ej)}(h:Ni D left e)(b:Rel D f)(l:∀j,left j=false):Lq e=Lq (f.map (·.1))∧e.length=f.length:=by
 have c:e.Perm (f.map (·.1)):=by
  rw[List.perm_ext_iff_of_nodup h.nodup b.nodup];intro a;constructor
  · intro g
    obtain⟨i,k,-⟩:=h.met a g;exact(b.has a i).1 k
  · intro g
    obtain⟨p,c,rfl⟩:=List.mem_map.1 g;rcases h.rest _ (b.wf p c) ((b.has _ (b.wf p c)).2 g)with i|i
    · exact i
    simp_all
 exact⟨vb c,by rw[c.length_eq,List.length_map]⟩
theorem qf:∀{l m:List Ad},l.Nodup→(∀a∈l,a∈m)→l.length≤m.length
 |[],_,_,_=>Nat.zero_le _
 |a::l,m,h,c=>by
  obtain⟨f,e⟩:=List.nodup_cons.1 h;have g:=c a (by simp)
  have:=qf (m:=m.erase a) e fun b i=>by
   grind
  grind
theorem Ni.len{D:jd ej}{left:Lit→Bool}{ks:List Ad}{f:List (Ad×ej)}(h:Ni D left ks)(hR:Rel D f):ks.length≤f.length:=by
 have:=qf (m:=f.map (·.1)) h.nodup fun a ha=>by
  obtain⟨h1,h2,-⟩:=h.met a ha;exact(hR.has a h1).1 h2
 simp_all
theorem OwnRows.grown{w b:hZ}{base C n:Nat}{e:iP}{v:ej}{c:List (List ej)}{row:Option Nat}(h:OwnRows w base e C v n c)(j:w.grownBy b row)(l:∀k,row=some k→v.ownBlock≠some k):OwnRows b base e C v n c:=by
 refine⟨⟨h.1.1,?_⟩,h.2⟩;rcases h.1.2 with q|⟨g,m,o,f,p,i,r⟩
 · simp_all
 · exact .inr ⟨g,m,o,f,p,(j.block g (af i) (fun e=>l g e.symm (by rw[f];rfl))).trans i,r⟩
theorem OwnRows.P7{w:hZ}{base C n:Nat}{e:iP}{v:ej}{c:List (List ej)}(h:OwnRows w base e C v n c):∀k,v.ownBlock=some k→base≤k:=by
 intro k b;rcases h.1.2 with⟨rfl,-⟩|⟨g,i,j,rfl,f,-⟩
 · cases b
 · cases b;exact f
theorem OwnRows.ne5{w:hZ}{base C n:Nat}{e:iP}{v:ej}{b:List (List ej)}(h:OwnRows w base e C v n b){g:Nat}(f:g<base):v.ownBlock≠some g:=by
 intro c;have:=h.P7 g c;omega
theorem OwnRows.Rk{w:hZ}{base C n:Nat}{e:iP}{v:ej}{b:List (List ej)}(h:OwnRows w base e C v n b):v.ownBlock≠some w.heap.size:=by
 intro c;have:=(h.1.lt _ c).2;omega
theorem Upd.grown{g:Nat}{o:Obj}{w b:hZ}(h:Upd g o w b):w.grownBy b (some g):=⟨h.os,h.tape,h.output,by rw[h.size];omega,fun i _ c=>h.block i fun e=>c (by rw[e])⟩
theorem bL:(prog.info? 52).map (·.size)=some 3:=by kernel_rfl
theorem Ip:(prog.info? 52).map (fun i=>(i.zero,i.size,i.bytes))=some (some (.agg #[.int .i64 0,.int .i64 0,.int .i64 0]),3,24):=by kernel_rfl
end
end Go.Proofs.YtlkpfnjdbgeifaaGreat
