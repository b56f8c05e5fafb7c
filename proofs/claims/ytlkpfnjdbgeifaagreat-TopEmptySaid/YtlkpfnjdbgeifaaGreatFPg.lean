import Derived.WideKeyEntry
import Derived.Test.YtlkpfnjdbgeifaaGreatFOwn
import Derived.Test.YtlkpfnjdbgeifaaGreatFSpotOps
set_option linter.unusedVariables false
set_option maxRecDepth 100000
open Go renaming Value→ed,DataW→hG,deep_law_laid→hX,World→iP
open Go.ChangeMaps renaming heap_setBlock_same→ej,setBlock→ek,heap_setBlock_other→gg
open List renaming replicate_succ→eD,drop_eq_getElem_cons→eX,mem_cons→fj,take→fo,replicate→hO,mem_map→hZ,drop→jd
namespace Go.Proofs.YtlkpfnjdbgeifaaGreat
open Go.Proofs.Tryz
open Go.RowKit
namespace pg
open Go.Maps (Keyed)
def wfP(p:List Nat):Prop:=p.length=32∧∀x∈p,x<256
theorem By:(55 :TypeId)< prog.types.size:=of_decide_eq_true (by rfl)
theorem xy:(match prog.underlying 55 with|some (.array _ _)|some (.struct _)=>true|_=>false)=true:=by rfl
theorem Gj: prog.keyTypeAt 2 55 =true:=by rfl
theorem tT:Keyed prog 55 :=Keyed.of_law (hX jH (m:=2) (by omega) By Gj xy)
theorem EJ: prog.keyType 55 =true:=by rfl
theorem tj: prog.cellsOf 55 =32:=by rfl
theorem AG: prog.cellsOf 5 =1:=by rfl
theorem o8(d:Nat)(c:ed)(l:List Lit): prog.keyLits (d+1) 5 [c]=some l↔∃n,c=.int .u8 n∧(Lit.int .u8 n).wf=true∧l=[.int .u8 n]:=by
 unfold Program.keyLits;rw[underlying5];grind
theorem tO{b e:Type}{f:b→Option e}:∀{l:List b},(∀x∈l,∃y,f x=some y)→∃c,l.mapM f=some c
 |[],_=>⟨[],rfl⟩
 |a::l,h=>by
  obtain⟨y,i⟩:=h a (by simp);obtain⟨c,j⟩:=tO (l:=l) fun x g=>h x (by simp[g])
  simp_all
theorem tN{c e:Type}{f:c→Option e}:∀{l:List c} {g:List e},l.mapM f=some g→∀x∈l,∃y,f x=some y
 |[],_,_,x,b=>by simp_all
 |a::l,g,h,x,b=>by
  rw[List.mapM_cons]at h;simp only[Option.bind_eq_bind,Option.bind_eq_some_iff]at h;obtain⟨y,j,k,i,-⟩:=h;rcases fj.1 b with rfl|b
  · simp_all
  · exact tN i x b
theorem lX:∀{n:Nat} {b:List ed},Ku (hO n (Kd.int .u8)) b=true→∃d:List Nat,b=An .u8 d∧d.length=n∧∀x∈d,x<256
 |0,[],_=>⟨[],rfl,rfl,by simp⟩
 |0,_::_,h=>by simp[Ku]at h
 |n+1,[],h=>by simp[Ku,eD]at h
 |n+1,c::b,h=>by
  rw[eD]at h;simp only[Ku,Bool.and_eq_true]at h;obtain⟨x,rfl,e⟩:=gK h.1;have f:=IC e;obtain⟨d,rfl,g,i⟩:=lX h.2;obtain⟨X,rfl⟩:=Int.eq_ofNat_of_zero_le f.1;refine⟨X::d,rfl,by simp[g],fun y j=> ?_⟩;grind
theorem vN(d:Nat)(b:List ed):(∃l, prog.keyLits (d+1+1) 55 b=some l)↔∃p,b=An .u8 p∧wfP p:=by
 unfold Program.keyLits;rw[underlying55];simp only[];rw[tj,AG];constructor
 · rintro ⟨l,h⟩
   split at h
   · rename_i m
     rw[Option.map_eq_some_iff]at h;obtain⟨r,h,-⟩:=h
     have t:Ku (hO 32 (Kd.int .u8)) b=true:=by
      have key:∀i (e:i<b.length),(Kd.int .u8).ok b[i]=true:=by
       intro i e;obtain⟨y,o⟩:=tN h i (by simp;omega);rw[Nat.mul_one,show fo 1 (b.drop i)=[b[i]] by rw[eX e];rfl]at o;obtain⟨n,u,g,-⟩:=(o8 d _ _).1 o;rw[u];simp[Kd.ok,g]
      rw[←m];clear h m;induction b with
      |nil=>rfl
      |cons c b w=>
       rw[List.length_cons,eD];simp only[Ku,Bool.and_eq_true];exact⟨key 0 (by simp),w fun i e=>key (i+1) (by simpa using e)⟩
     obtain⟨p,rfl,j,k⟩:=lX t;exact⟨p,rfl,j,k⟩
   · cases h
 · rintro ⟨p,rfl,j,k⟩
   rw[if_pos (by rw[ah];exact j)]
   obtain⟨r,z⟩:=tO (l:=List.range 32) (f:=fun i=> prog.keyLits (d+1) 5 (fo 1 (jd (i*1) (An .u8 p)))) (by
    intro i e;have e:i<32:=by simpa using e
    have q:i<p.length:=by omega
    have A:i<(An .u8 p).length:=by rw[ah];exact q
    have g:(Lit.int .u8 (p[i]:Int)).wf=true:=by
     have:=k p[i] (List.getElem_mem q);simp[Lit.wf,IntKind.min,IntKind.max,IntKind.bits,IntKind.signed];omega
    have B:(An .u8 p)[i]=.int .u8 (p[i]:Int):=by simp[An]
    refine⟨[.int .u8 (p[i]:Int)],?_⟩;show prog.keyLits (d+1) 5 (fo 1 (jd (i*1) (An .u8 p)))=_;rw[Nat.mul_one,show fo 1 ((An .u8 p).drop i)=[(An .u8 p)[i]] by rw[eX A];rfl];exact(o8 d _ _).2 ⟨_,B,g,rfl⟩)
   rw[z];exact⟨_,rfl⟩
noncomputable def klP(p:List Nat):Lit:=(keyOf prog 55 (.agg (An .u8 p).toArray)).getD (.bool false)
theorem gR{p:List Nat}(h:wfP p):keyOf prog 55 (.agg (An .u8 p).toArray)=some (klP p):=by
 have:∃l,keyOf prog 55 (.agg (An .u8 p).toArray)=some l:=by
  obtain⟨d,b⟩:=iR;unfold keyOf;rw[underlying55]
  have c:(Value.agg (An .u8 p).toArray).formed prog 55 =true:=by
   unfold Value.formed;rw[underlying55,tj];simp[ah,h.1]
  obtain⟨l,e⟩:=(vN d (An .u8 p)).2 ⟨p,rfl,h⟩;simp only[EJ,c,Bool.and_self,if_true,b];rw[show(Value.agg (An .u8 p).toArray).cells.toList=An .u8 p from rfl,e];exact⟨_,rfl⟩
 obtain⟨l,f⟩:=this;unfold klP;simp_all
theorem Fc{p b:List Nat}(h:wfP p)(c:wfP b)(e:klP p=klP b):p=b:=by
 have:=tT.inj (gR h) (by rw[e];exact gR c);simp at this;exact kh.1 this
open Go.Maps (Keyed)
structure Rel (D:hG ed) (f:List (List Nat×ed)):Prop where
 tidy:Maps.Tidy D
 wf:∀p∈f,wfP p.1
 nodup:(f.map (·.1)).Nodup
 at_:∀a v,(a,v)∈f→∀z,D.atKey (klP a) z=.held v
 has:∀a:List Nat,wfP a→(Maps.has D (klP a)=true↔a∈f.map (·.1))
 size:Maps.size D=f.length
theorem Rel.nil:Rel (.map []) []:=⟨Maps.tidy_empty,by simp,by simp,by simp,fun a _=>by rw[Maps.has_eq];simp,rfl⟩
theorem Rel.perm{D:hG ed}{f c:List (List Nat×ed)}(h:Rel D f)(b:f.Perm c):Rel D c:=
 ⟨h.tidy,fun p e=>h.wf p (b.mem_iff.2 e),(b.map _).nodup_iff.1 h.nodup,fun a v g=>h.at_ a v (b.mem_iff.2 g),fun a i=>by rw[h.has a i];grind,by rw[h.size,b.length_eq]⟩
theorem rl{a:List Nat}(h:wfP a):WideAt.IsKeyLit (klP a):=tT.key (gR h)
theorem rk{a b:List Nat}(h:wfP a)(c:wfP b)(f:a≠b):klP a≠klP b:=fun e=>f (Fc h c e)
def LX(f:List (List Nat×ed))(a:List Nat):List (List Nat×ed):=f.filter fun p=>decide (p.1≠a)
def Oz(f:List (List Nat×ed))(a:List Nat)(v:ed):List (List Nat×ed):=(a,v)::LX f a
def My(f:List (List Nat×ed))(a:List Nat):Bool:=decide (a∈f.map (·.1))
theorem bj{f:List (List Nat×ed)}{a:List Nat}{p:List Nat×ed}:p∈LX f a↔p∈f∧p.1≠a:=by simp[LX]
theorem bR(f:List (List Nat×ed))(a:List Nat):(LX f a).map (·.1)=(f.map (·.1)).filter fun b=>decide (b≠a):=by
 unfold LX;rw[List.filter_map];rfl
theorem fX:∀{l:List (List Nat)} (a:List Nat),l.Nodup→(l.filter fun b=>decide (b≠a)).length+(if a∈l then 1 else 0)=l.length
 |[],a,_=>by simp
 |b::l,a,h=>by
  have c:=(List.nodup_cons.1 h);have e:=fX a c.2;grind
theorem Rel.Ot{D:hG ed}{f:List (List Nat×ed)}(h:Rel D f)(a:List Nat):(LX f a).length+(if a∈f.map (·.1)then 1 else 0)=f.length:=by
 exact yfq
theorem Rel.del{D:hG ed}{f:List (List Nat×ed)}(h:Rel D f){a:List Nat}(ha:wfP a):Rel (D.del (klP a)) (LX f a)where
 tidy:=h.tidy.del _
 wf p hp:=h.wf p (bj.1 hp).1
 nodup:=by rw[bR];exact h.nodup.filter _
 at_ b v hb z:=by
  obtain⟨h1,h2⟩:=bj.1 hb;rw[Maps.atKey_del_other (rk (h.wf _ h1) ha h2)];exact h.at_ b v h1 z
 has b hb:=by
  rw[bR];by_cases e:b=a
  · subst e
    rw[Maps.has_del_same];simp
  · rw[Maps.has_del_other (rk hb ha e),h.has b hb];simp[e]
 size:=by
  have h1:=Maps.size_del h.tidy (k:=klP a);exact ybp
theorem Rel.put{D:hG ed}{f:List (List Nat×ed)}(h:Rel D f){a:List Nat}(ha:wfP a)(v:ed):Rel (D.put (klP a) (.held v)) (Oz f a v)where
 tidy:=h.tidy.put (rl ha) _
 wf p g:=(fj.1 g).elim (fun e=>by simp_all) (fun g=>h.wf p (bj.1 g).1)
 nodup:=by
  exact yez
 at_ b u c z:=by
  rcases fj.1 c with e|c
  · simp at e
    obtain⟨rfl,rfl⟩:=e;exact Maps.atKey_put_same h.tidy.isMap (rl ha) _ _
  · obtain⟨i,j⟩:=bj.1 c
    rw[Maps.atKey_put_other (rk (h.wf _ i) ha j)];exact h.at_ b u i z
 has b c:=by
  show _↔b∈a::(LX f a).map (·.1);rw[bR];by_cases e:b=a
  · subst e
    rw[Maps.has_put_same h.tidy.isMap (rl ha)];simp
  · rw[Maps.has_put_other (rk c ha e),h.has b c];simp[e]
 size:=by
  rw[Maps.size_put h.tidy,h.size];have j:=h.Ot a;show _=(LX f a).length+1;exact ycj
theorem Rel.hasB{D:hG ed}{f:List (List Nat×ed)}(h:Rel D f){a:List Nat}(b:wfP a):Maps.has D (klP a)=My f a:=by
 unfold My;rw[Bool.eq_iff_iff,h.has a b];simp
def Lu(f:List (List Nat×ed))(a:List Nat)(z:ed):ed:=((f.find? fun p=>decide (p.1=a)).map (·.2)).getD z
theorem i7:∀{f:List (List Nat×ed)} {a:List Nat} {v:ed},(f.map (·.1)).Nodup→(a,v)∈f→f.find? (fun p=>decide (p.1=a))=some (a,v)
 |[],_,_,_,h=>by grind
 |p::f,a,v,hn,h=>by
  exact ycz
theorem o3{f:List (List Nat×ed)}{a:List Nat}{v z:ed}(b:(f.map (·.1)).Nodup)(h:(a,v)∈f):Lu f a z=v:=by unfold Lu;rw[i7 b h];rfl
theorem lj{f:List (List Nat×ed)}{a:List Nat}{z:ed}(h:a∉f.map (·.1)):Lu f a z=z:=by
 unfold Lu
 have:f.find? (fun p=>decide (p.1=a))=none:=by
  rw[List.find?_eq_none];intro p b;simp;intro e;exact h (hZ.2 ⟨p,b,e⟩)
 grind
theorem lawP:WideMaps.KeyLaw prog 55 :=hX jH (m:=2) (by omega) By Gj xy
theorem AC{w:iP}{b n:Nat}{D:hG ed}{f:List (List Nat×ed)}{t e:TypeId}(h:w.ownsMap prog 55 Ks b n D)(c:Rel D f){p:List Nat}(i:wfP p)(u: prog.underlying t=some (.map 55 e)){z:ed}(A:(zeroValue e).run prog w=.ok z w):
 (Instr.lookup t (.map (some b)) (.agg (An .u8 p).toArray) false).run prog w=.ok (Lu f p z) w:=by
 have B:=gR i;obtain⟨J,clock,C,F,K,rfl⟩:=h;rcases Maps.fit_look false tT u A C F B with⟨j,-,g⟩|⟨k,y,-,-,j,E,g,-⟩
 · have o:=Maps.has_false_of_atKey g
   have G:¬p∈f.map (·.1):=fun H=>by rw[(c.has p i).2 H]at o;cases o
   rw[j,lj G];rfl
 · have I:=Maps.has_true_of_atKey g
   obtain⟨q,r,e⟩:=hZ.1 ((c.has p i).1 I);obtain⟨L,v⟩:=q;simp only at e;subst e;have l:=c.at_ _ v r (.held v);rw[g]at l;have m:y=(DataW.held k.val,[]):=(Option.some.inj (show some ((DataW.held k.val:hG ed),([]:List MemPlace))=some y from E)).symm;rw[m]at l;have m:k.val=v:=DataW.held.inj l;rw[j,o3 c.nodup r,m];rfl
theorem zI{w:iP}{b n:Nat}{D:hG ed}{f:List (List Nat×ed)}{t e:TypeId}(h:w.ownsMap prog 55 Ks b n D)(N:Rel D f){p:List Nat}(A:wfP p)(j: prog.underlying t=some (.map 55 e)){z:ed}(m:∀u:iP,(zeroValue e).run prog u=.ok z u)(O:n<maxLen):
 ∃(st:Nat) (k:iP),(Instr.mapEntry t (.map (some b)) (.agg (An .u8 p).toArray)).run prog w=.ok (.tuple #[Lu f p z,.int .i64 (st:Int)]) k∧w.grownBy k (some b)∧k.heap.size=w.heap.size∧
  ∀(c:iP) (g:ed),c.heap[b]? =k.heap[b]?→∃q,(Instr.entryStore t (.map (some b)) (.int .i64 (st:Int)) g).run prog c=.ok () q∧q.ownsMap prog 55 Ks b (n+1) (D.put (klP p) (.held g))∧c.grownBy q (some b):=by
 have r:=gR A;have B:=AC h N A j (m w);have P:=h;obtain⟨C,clock,i,F,hs,hD⟩:=h;obtain⟨Q,st,es1,R,S,T,U⟩:=WideElems.entry_then_store lawP j m i F r
 have V:Q=Lu f p z:=by
  rcases Maps.fit_look false tT j (m w) i F r with⟨E,W,-⟩|⟨G,y,X,Y,E,-,-,-⟩
  · grind
  · rw[E]at B
    have ah:G.val=Lu f p z:=by injection B
    rcases T with⟨e1,Z,aa,e2⟩|⟨W,-⟩
    · have:e1=G:=entry_eq_of_key ((MapKept.stamped_iff C clock).1 F.stamped).2.2 Z X (aa.trans Y.symm)
      simp_all
    simp_all
 have H:∀(u:iP) (I:Array MapEntry) (c0:Nat) (o:Obj),u.heap[b]? =some (.map I c0)→u.grownBy (ek u b o) (some b):=fun u I c0 o hu=>
  ⟨rfl,rfl,rfl,by simp[ek],fun ai _ hi=>gg hu _ (fun e=>hi (by rw[e]))⟩
 refine⟨st,_,by rw[S,V];rfl,H w C clock _ i,by simp[ek],fun c g l=> ?_⟩;rw[ej i]at l;obtain⟨J,K,ab,ad⟩:=U c g l;obtain⟨w',L,ae,-⟩:=P.update tT j O r (show Ks g=some (.held g,[])from rfl);rw[ad]at L;have af:ek w b (.map J K)=w':=by injection L
 subst af;obtain⟨aj,ak,M,ag⟩:=ae;rw[ej i]at M;cases M
 exact⟨_,ab,⟨J,K,ej l _,ag⟩,H c es1 R _ l⟩
end pg
end Go.Proofs.YtlkpfnjdbgeifaaGreat
