import Derived.StillTailTactics
import Derived.Test.YtlkpfnjdbgeifaaGreatFRegion2
import Derived.Test.YtlkpfnjdbgeifaaGreatFOwnRows
set_option linter.unusedSimpArgs false
set_option linter.unusedVariables false
open Go renaming TypeId→ed,Value→ej,wpList→fj,Operand→gg,World→hO,wpList_plain→hZ,Program→iP,execOp→js,undef→jw,TypeDesc→jI,run_loadAt_mid→kr,all_oneCell_toArray→lx,wpStill→l4,wpList_load_mid→nr,maxLen→ps,typeInfo→py,Oper→pz,newVar→qa,Act→r2
open List renaming pairwise_cons→ek,getElem?_toArray→eX,getElem?_eq_getElem→hG,mem_of_getElem?→hX,getElem?_eq_some_iff→jd,pairwise_iff_getElem→jg,mem_cons→jt,mem_of_mem_drop→kn,size_toArray→ly,getElem_set→l5,map_toArray→l8,map_cons→pn,map_nil→px
open Go.Result renaming andThen_ok→eD,andThen→kb
open Go.Sem renaming run_bind→fo,run_pure→kd
open Go.Oper renaming wp→jm,stillUpon→o4,still→qc
open Option.some renaming inj→kk
namespace Go.Proofs.YtlkpfnjdbgeifaaGreat
open Go.RowKit
section
theorem lF{P:iP}{o:pz}{a:r2}{w:hO}{K:r2→hO→Prop}{Q:Exit→r2→hO→Prop}(b:ed)(x y:gg)(e:o.op=.store b x y)(g i:Nat)(new:List ej)(f:a.eval x=.pointer (some ⟨g,i,none⟩))(k:a.eval y=.agg new.toArray)(t:ed)(old:List ej)(hg:w.heap[g]? =some (.cells old.toArray t (0,0)))(m:(P.info? b).map (·.size)=some new.length)(hold:i+new.length≤old.length)(l:∀v∈new,v.oneCell'=true)(h:∀c,Upd g (.cells (splice old i new).toArray t (0,0)) w c→K (a.put o.dst jw) c):o.wp P a w K Q:=by
 have n:=cA (i:=i) hg hold;refine wp_store_mid b x y e g i new.toArray f k (fun j hj=> ?_) (by omega) (lx l) (by simp_all);exact yd4
end
section
abbrev Bk:=Nat×List ej×ed
structure Sl where
 (e:ed) (C:Nat) (v:ej) (n:Nat) (xs:List ej)
def Loc(d:ed→Bool)(w:hO)(k:Nat):Prop:=∃b t fr,w.heap[k]? =some (.cells b t fr)∧d t=false
abbrev Chg(d:ed→Bool)(w b:hO):Prop:=Kj (Loc d w) w b
abbrev Dvc(d:ed→Bool)(base:Nat)(w b:hO):Prop:=Kj (fun k=>base≤k∧¬Loc d w k) w b
abbrev Old(d:ed→Bool)(C:Nat)(w b:hO):Prop:=Kj (fun k=>¬(k<C∧Loc d w k)) w b
structure Ms (da dv:ed→Bool) (base:Nat) (A B:hO→Prop) (w0 w:hO) (L:List Bk) (S:List Sl):Prop where
 sub:∀t,da t=true→dv t=true
 own:∀x∈L,w.heap[x.1]? =some (.cells x.2.1.toArray x.2.2 (0,0))∧base≤x.1∧da x.2.2=false∧(dv x.2.2=true∨w0.heap.size≤x.1)
 srt:L.Pairwise fun x y=>x.1≠y.1
 sls:∀s∈S,w.ownsRow w0.heap.size s.e s.C s.v s.n s.xs∧da s.e=false∧∀x∈L,s.v.ownBlock≠some x.1
 sps:S.Pairwise fun s t=>∀k,s.v.ownBlock=some k→t.v.ownBlock≠some k
 fr:Dvc dv base w0 w
 le:base≤w0.heap.size
 sa:∀w1 w2,Chg da w1 w2→A w1→A w2
 sb:∀w1 w2,Old dv w0.heap.size w1 w2→B w1→B w2
 a:A w
 b:B w
section
variable {da dv:ed→Bool}{base:Nat}{A B A':hO→Prop}{w0 w w':hO}{L:List Bk}{S:List Sl}
theorem br{w:hO}{base n C:Nat}{e:ed}{v:ej}{b:List ej}(h:w.ownsRow base e C v n b){k:Nat}(hk:v.ownBlock=some k):∃cur,w.heap[k]? =some (.cells cur e (0,0))∧base≤k:=by
 exact yek
theorem gQ{d:ed→Bool}{k:Nat}{b:Array ej}{t:ed}{fr:Nat×Nat}(h:w.heap[k]? =some (.cells b t fr))(c:d t=false):Loc d w k:=⟨b,t,fr,h,c⟩
theorem ku{d b:ed→Bool}(h:∀t,d t=true→b t=true){k:Nat}(c:Loc b w k):Loc d w k:=by
 obtain⟨e,t,fr,f,g⟩:=c;refine⟨e,t,fr,f,?_⟩;grind
theorem Ms.start(f:∀t,da t=true→dv t=true)(g:base≤w.heap.size)(h:∀c e,Chg da c e→A c→A e)(i:∀c e,Old dv w.heap.size c e→B c→B e)(a:A w)(b:B w):Ms da dv base A B w w [] []:=
 ⟨f,by simp,.nil,by simp,.nil,Kj.refl _ w,g,h,i,a,b⟩
theorem Ms.size(h:Ms da dv base A B w0 w L S):w0.heap.size≤w.heap.size:=h.fr.size
theorem Ms.blk(h:Ms da dv base A B w0 w L S){i k:Nat}{b:List ej}{t:ed}(c:L[i]? =some (k,b,t)):w.heap[k]? =some (.cells b.toArray t (0,0)):=(h.own _ (hX c)).1
theorem Ms.lt(h:Ms da dv base A B w0 w L S){x:Bk}(b:x∈L):x.1<w.heap.size:=af (h.own x b).1
theorem Ms.slt(h:Ms da dv base A B w0 w L S){s:Sl}(b:s∈S){k:Nat}(c:s.v.ownBlock=some k):w0.heap.size≤k∧k<w.heap.size:=by
 obtain⟨e,f,g⟩:=br (h.sls s b).1 c;grind
theorem Ms.keep(h:Ms da dv base A B w0 w L S){T:Nat→Prop}(c:Kj T w w')(n:∀x∈L,¬T x.1)(o:∀s∈S,∀k,s.v.ownBlock=some k→¬T k)(p:∀k,k<w.heap.size→T k→base≤k∧(w0.heap.size≤k∨¬Loc dv w k))(a:A' w')(q:∀j l,Chg da j l→A' j→A' l):Ms da dv base A' B w0 w' L S where
 sub:=h.sub
 own x hx:=⟨bE (h.own x hx).1 c (n x hx),(h.own x hx).2⟩
 srt:=h.srt
 sls s hs:=⟨nS (h.sls s hs).1 c (o s hs),(h.sls s hs).2⟩
 sps:=h.sps
 fr:=by
  refine⟨c.os.trans h.fr.os,c.tape.trans h.fr.tape,c.output.trans h.fr.output,Nat.le_trans h.fr.size c.size,fun k f g=> ?_⟩;have e:=h.fr.block k f g;refine(c.block k (Nat.lt_of_lt_of_le f h.fr.size) fun m=> ?_).trans e;obtain⟨r,i⟩:=p k (Nat.lt_of_lt_of_le f h.fr.size) m;rcases i with i|i
  · omega
  · refine g ⟨r,fun u=>i ?_⟩
    obtain⟨z,t,fr,e1,e2⟩:=u;exact⟨z,t,fr,e.trans e1,e2⟩
 le:=h.le
 sa:=q
 sb:=h.sb
 a:=a
 b:=h.sb _ _ ⟨c.os,c.tape,c.output,c.size,fun k f g=>c.block k f fun m=>g fun C=>by
  grind⟩ h.b
theorem Ms.below(h:Ms da dv base A B w0 w L S)(hb:Below w.heap.size w w'):Ms da dv base A B w0 w' L S:=
 h.keep (Kj.Mj (S:=fun _=>False) hb) (fun _ _=>id) (fun _ _ _ _=>id) (fun _ _=>False.elim) (h.sa _ _ (Kj.Mj hb) h.a) h.sa
theorem Ms.drew(h:Ms da dv base A B w0 w L S):Ms da dv base A B w0 w.drew L S:=h.below (Below.refl _ w).drew
theorem Ms.drewN(h:Ms da dv base A B w0 w L S)(n:Nat):Ms da dv base A B w0 (w.drewN n) L S:=h.below (aF (Below.refl _ w) n)
theorem Ms.dev(h:Ms da dv base A B w0 w L S)(i:Dvc da base w w')(a:A' w')(j:∀c e,Chg da c e→A' c→A' e):Ms da dv base A' B w0 w' L S:=
 h.keep i (fun x f b=>b.2 (gQ (h.own x f).1 (h.own x f).2.2.1)) (fun s g k l b=>by
  obtain⟨o,m,p⟩:=br (h.sls s g).1 l;exact b.2 (gQ m (h.sls s g).2.1)) (fun k _ b=>⟨b.1,.inr fun n=>b.2 (ku h.sub n)⟩) a j
theorem Ms.alloc(h:Ms da dv base A B w0 w L S)(g:List ej)(t:ed)(i:da t=false):Ms da dv base A B w0 (w.alloc (.cells g.toArray t)) ((w.heap.size,g,t)::L) S:=by
 have j:Below w.heap.size w (w.alloc (.cells g.toArray t)):=(Below.refl _ w).alloc (Nat.le_refl _) _;have b:=h.below j;refine⟨b.sub,fun x c=> ?_,?_,fun s f=>⟨(b.sls s f).1,(b.sls s f).2.1,fun x c=> ?_⟩,b.sps,b.fr,b.le,b.sa,b.sb,b.a,b.b⟩
 · rcases jt.1 c with rfl|c
   · exact⟨aj w _ _ rfl,by have:=h.le;have:=h.size;omega,i,.inr h.size⟩
   · exact b.own x c
 · refine ek.2 ⟨fun y k e=> ?_,b.srt⟩
   have:=h.lt k;omega
 · rcases jt.1 c with rfl|c
   · intro e
     have:=(h.slt f e).2;omega
   · exact(b.sls s f).2.2 x c
theorem Cb{b:Type}{l:List b}{i:Nat}{x y:b}(h:y∈l.set i x):y=x∨∃j,j≠i∧l[j]? =some y:=by
 obtain⟨j,hj⟩:=List.mem_iff_getElem?.1 h;grind
theorem Ms.ne(h:Ms da dv base A B w0 w L S){i j k:Nat}{b:List ej}{t:ed}{y:Bk}(c:L[i]? =some (k,b,t))(hj:L[j]? =some y)(e:j≠i):y.1≠k:=by
 obtain⟨f,g⟩:=jd.1 c;obtain⟨l,m⟩:=jd.1 hj;have n:=jg.1 h.srt;grind
theorem Ms.upd(h:Ms da dv base A B w0 w L S){i k:Nat}{cs new:List ej}{t:ed}(r:L[i]? =some (k,cs,t))(n:Upd k (.cells new.toArray t (0,0)) w w'):Ms da dv base A B w0 w' (L.set i (k,new,t)) S:=by
 have o:=hX r;have l:=h.own _ o;have E:Loc da w k:=gQ l.1 l.2.2.1;have G:Kj (fun x=>x=k) w w':=n.keep (S:=fun x=>x=k) rfl
 have H:∀x,x<w.heap.size→x=k→base≤x∧(w0.heap.size≤x∨¬Loc dv w x):=by
  rintro x _ rfl;refine⟨l.2.1,?_⟩;rcases l.2.2.2 with e|e
  · right
    rintro ⟨M,N,O,m,u⟩;simp_all
  · omega
 have I:A w':=h.sa _ _ (n.keep (S:=Loc da w) E) h.a;have z:∀y,y∈L.set i (k,new,t)→y=(k,new,t)∨(y∈L∧y.1≠k):=fun y g=>(Cb g).imp id fun⟨j,hj,g⟩=>⟨hX g,h.ne r g hj⟩
 have c:Ms da dv base A B w0 w' [] S:=
  Ms.keep (L:=[]) ⟨h.sub,by simp,.nil,fun s f=>⟨(h.sls s f).1,(h.sls s f).2.1,by simp⟩,h.sps,h.fr,h.le,h.sa,h.sb,h.a,h.b⟩ G (by simp) (fun s f b J e=>(h.sls s f).2.2 _ o (by rw[J,e])) H I h.sa
 refine⟨c.sub,fun y g=> ?_,?_,fun s f=>⟨(c.sls s f).1,(c.sls s f).2.1,fun y g=> ?_⟩,c.sps,c.fr,c.le,c.sa,c.sb,c.a,c.b⟩
 · rcases z y g with rfl|⟨m,u⟩
   · exact⟨n.at_,l.2⟩
   · exact⟨n.old (h.own y m).1 u,(h.own y m).2⟩
 · rw[jg]
   intro p q C D K;rw[l5,l5];rw[List.length_set]at C D;have:=jg.1 h.srt p q C D K;grind
 · rcases z y g with rfl|⟨m,-⟩
   · exact(h.sls s f).2.2 (k,cs,t) o
   · exact(h.sls s f).2.2 y m
theorem Ms.tail{x:Bk}(h:Ms da dv base A B w0 w (x::L) S):Ms da dv base A B w0 w L S:=
 ⟨h.sub,fun y b=>h.own y (by simp[b]),(ek.1 h.srt).2,fun s c=>⟨(h.sls s c).1,(h.sls s c).2.1,fun y b=>(h.sls s c).2.2 y (by simp[b])⟩,h.sps,h.fr,h.le,h.sa,h.sb,h.a,h.b⟩
theorem Ms.bare(h:Ms da dv base A B w0 w L S):Ms da dv base A B w0 w [] S:=
 ⟨h.sub,by simp,.nil,fun s b=>⟨(h.sls s b).1,(h.sls s b).2.1,by simp⟩,h.sps,h.fr,h.le,h.sa,h.sb,h.a,h.b⟩
theorem Ms.drop(h:Ms da dv base A B w0 w L S)(n:Nat):Ms da dv base A B w0 w (L.drop n) S:=
 ⟨h.sub,fun y b=>h.own y (kn b),h.srt.sublist (List.drop_sublist _ _),fun s c=>⟨(h.sls s c).1,(h.sls s c).2.1,fun y b=>(h.sls s c).2.2 y (kn b)⟩,h.sps,h.fr,h.le,h.sa,h.sb,h.a,h.b⟩
theorem Ms.O1{s:Sl}(h:Ms da dv base A B w0 w L (s::S)):Ms da dv base A B w0 w L S:=
 ⟨h.sub,h.own,h.srt,fun x b=>h.sls x (by simp[b]),(ek.1 h.sps).2,h.fr,h.le,h.sa,h.sb,h.a,h.b⟩
theorem Ms.got(h:Ms da dv base A B w0 w L S)(l:Below w.heap.size w w'){e:ed}{C n:Nat}{v:ej}{g:List ej}(i:w'.ownsRow w.heap.size e C v n g)(m:da e=false):Ms da dv base A B w0 w' L (⟨e,C,v,n,g⟩::S):=by
 have b:=h.below l;have j:∀k,v.ownBlock=some k→w.heap.size≤k:=fun k c=>by obtain⟨q,-,o⟩:=br i c;exact o
 refine⟨b.sub,b.own,b.srt,fun s f=> ?_,ek.2 ⟨fun s f k c e=> ?_,b.sps⟩,b.fr,b.le,b.sa,b.sb,b.a,b.b⟩
 · rcases jt.1 f with rfl|f
   · exact⟨gF i h.size,m,fun x p c=>by have:=j _ c;have:=h.lt p;omega⟩
   · exact b.sls s f
 · have:=j k c
   have:=(h.slt f e).2;omega
theorem Ms.empty(h:Ms da dv base A B w0 w L S)(e:ed)(C:Nat)(c:da e=false):Ms da dv base A B w0 w L (⟨e,C,.slice none 0 0,0,[]⟩::S):=by
 refine⟨h.sub,h.own,h.srt,fun s b=> ?_,ek.2 ⟨fun s b k e=>(nomatch e),h.sps⟩,h.fr,h.le,h.sa,h.sb,h.a,h.b⟩;rcases jt.1 b with rfl|b
 · exact⟨World.ownsRow_nil _ _ _ _,c,fun x _ e=>(nomatch e)⟩
 · exact h.sls s b
theorem Ms.app{s:Sl}(h:Ms da dv base A B w0 w L (s::S)){g:ej}{n:Nat}{o:List ej}(u:w'.ownsRow w0.heap.size s.e s.C g n o)(p:w.grownBy w' s.v.ownBlock)(q:g.ownBlock=s.v.ownBlock∨∃j,g.ownBlock=some j∧w.heap.size≤j):Ms da dv base A B w0 w' L (⟨s.e,s.C,g,n,o⟩::S):=by
 have i:=h.sls s (by simp);have z:=ek.1 h.sps
 have l:∀k,some k=s.v.ownBlock→Loc da w k∧w0.heap.size≤k:=fun k e=>by
  obtain⟨E,C,D⟩:=br i.1 e.symm;exact⟨gQ C i.2.1,D⟩
 have b:Ms da dv base A B w0 w' L S:=h.O1.keep (Kj.Ll p) (fun x m e=>i.2.2 x m e.symm) (fun t c k f e=>z.1 t c k e.symm f) (fun k _ e=>⟨by have:=(l k e).2;have:=h.le;omega,.inl (l k e).2⟩)
  (h.sa _ _ ((Kj.Ll p).mono fun k _ e=>(l k e).1) h.a) h.sa
 refine⟨b.sub,b.own,b.srt,fun t c=> ?_,ek.2 ⟨fun t c k f e=> ?_,b.sps⟩,b.fr,b.le,b.sa,b.sb,b.a,b.b⟩
 · rcases jt.1 c with rfl|c
   · refine⟨u,i.2.1,fun x m f=> ?_⟩
     rcases q with e|⟨j,e,hj⟩
     · grind
     · rw[e]at f
       have:=kk f;have:=h.lt m;omega
   · exact b.sls t c
 · rcases q with r|⟨j,r,hj⟩
   · simp_all
   · rw[r]at f
     have:=kk f;have:=(h.O1.slt c e).2;omega
theorem Ms.swap{s t:Sl}(h:Ms da dv base A B w0 w L (s::t::S)):Ms da dv base A B w0 w L (t::s::S):=by
 have b:=ek.1 h.sps;have f:=ek.1 b.2;refine⟨h.sub,h.own,h.srt,fun x g=>h.sls x (by grind),ek.2 ⟨fun y c k i e=> ?_,ek.2 ⟨fun y c=>b.1 y (by simp[c]),f.2⟩⟩,h.fr,h.le,h.sa,h.sb,h.a,h.b⟩;grind
theorem Ms.PC{x y:Bk}(h:Ms da dv base A B w0 w (x::y::L) S):Ms da dv base A B w0 w (y::x::L) S:=by
 have e:=ek.1 h.srt;have g:=ek.1 e.2;have f:∀z,z∈y::x::L→z∈x::y::L:=fun z b=>by grind
 refine⟨h.sub,fun z b=>h.own z (f z b),ek.2 ⟨fun z b=> ?_,ek.2 ⟨fun z b=>e.1 z (by simp[b]),g.2⟩⟩,fun s c=>⟨(h.sls s c).1,(h.sls s c).2.1,fun z b=>(h.sls s c).2.2 z (f z b)⟩,h.sps,h.fr,h.le,h.sa,h.sb,h.a,h.b⟩;grind
theorem Ms.sl(h:Ms da dv base A B w0 w L S){i:Nat}{s:Sl}(b:S[i]? =some s):w.ownsRow w0.heap.size s.e s.C s.v s.n s.xs:=(h.sls s (hX b)).1
theorem Ms.rds(h:Ms da dv base A B w0 w L S)(i:Nat){e:ed}{C n c:Nat}{A':Option Addr}{rows:List (List ej)}(b:S[i]? =some ⟨e,C,.slice A' n c,n,rows.flatten⟩)(f:rows.length=n)(g:∀r∈rows,r.length=C):Rds w w.heap.size A' C n rows:=
 OwnRows.rds (base:=w0.heap.size) (e:=e) (c:=c) ⟨h.sl b,f,g⟩
theorem Ms.rd(h:Ms da dv base A B w0 w L S)(i:Nat){e:ed}{n c:Nat}{A':Option Addr}{b:List ej}(f:S[i]? =some ⟨e,1,.slice A' n c,n,b⟩):Rd w w.heap.size A' n b:=Rd.O4 (h.sl f)
theorem Ms.slice(h:Ms da dv base A B w0 w L S)(i:Nat){s:Sl}(b:S[i]? =some s):∃A' c,s.v=.slice A' s.n c∧s.n≤c∧c≤ps:=eo (h.sl b)
theorem Ms.cell(h:Ms da dv base A B w0 w L S)(i j:Nat){k:Nat}{b:List ej}{t:ed}{v:ej}(c:L[i]? =some (k,b,t))(e:b[j]? =some v):w.cell? ⟨k,j,none⟩=some v:=by
 rw[ae (h.blk c),eX,e]
theorem Ms.froz(h:Ms da dv base A B w0 w L S)(i j:Nat){k:Nat}{b:List ej}{t:ed}(c:L[i]? =some (k,b,t)):w.frozen? ⟨k,j,none⟩=false:=ao (h.blk c) j
theorem Ms.frame(h:Ms da dv base A B w0 w L S):Dvc dv base w0 w:=h.fr
theorem Ms.out(h:Ms da dv w0.heap.size A B w0 w L S):Below w0.heap.size w0 w:=⟨h.fr.os,h.fr.tape,h.fr.output,h.fr.size,fun k hk=>h.fr.block k hk fun hc=>by omega⟩
theorem Ms.Q3{k:Nat}{b new:List ej}{t:ed}(h:Ms da dv base A B w0 w ((k,b,t)::L) S)(c:Upd k (.cells new.toArray t (0,0)) w w'):Ms da dv base A B w0 w' ((k,new,t)::L) S:=h.upd (i:=0) rfl c
theorem Ms.Qw{k:Nat}{b:List ej}{t:ed}(h:Ms da dv base A B w0 w ((k,b,t)::L) S)(j:Nat)(v:ej):Ms da dv base A B w0 (w.setCell ⟨k,j,none⟩ v) ((k,b.set j v,t)::L) S:=h.Q3 (ar (h.blk (i:=0) rfl) v)
theorem Ms.Rs{k:Nat}{c new:List ej}{t:ed}{b:Bk}(h:Ms da dv base A B w0 w (b::(k,c,t)::L) S)(e:Upd k (.cells new.toArray t (0,0)) w w'):Ms da dv base A B w0 w' (b::(k,new,t)::L) S:=h.upd (i:=1) rfl e
theorem Ms.set1{k:Nat}{b:List ej}{t:ed}{c:Bk}(h:Ms da dv base A B w0 w (c::(k,b,t)::L) S)(j:Nat)(v:ej):Ms da dv base A B w0 (w.setCell ⟨k,j,none⟩ v) (c::(k,b.set j v,t)::L) S:=h.Rs (ar (h.blk (i:=1) rfl) v)
theorem Ms.Rj{k:Nat}{e new:List ej}{t:ed}{b c:Bk}(h:Ms da dv base A B w0 w (b::c::(k,e,t)::L) S)(f:Upd k (.cells new.toArray t (0,0)) w w'):Ms da dv base A B w0 w' (b::c::(k,new,t)::L) S:=h.upd (i:=2) rfl f
theorem Ms.set2{k:Nat}{b:List ej}{t:ed}{c e:Bk}(h:Ms da dv base A B w0 w (c::e::(k,b,t)::L) S)(j:Nat)(v:ej):Ms da dv base A B w0 (w.setCell ⟨k,j,none⟩ v) (c::e::(k,b.set j v,t)::L) S:=h.Rj (ar (h.blk (i:=2) rfl) v)
theorem Ms.upd3{k:Nat}{f new:List ej}{t:ed}{b c e:Bk}(h:Ms da dv base A B w0 w (b::c::e::(k,f,t)::L) S)(g:Upd k (.cells new.toArray t (0,0)) w w'):Ms da dv base A B w0 w' (b::c::e::(k,new,t)::L) S:=h.upd (i:=3) rfl g
theorem Ms.Qu{P:iP}{f:Func}{p:Tmp}{c:ed}(g:Ms da dv base A B w0 w L S)(i:Nat){k n:Nat}{b:List ej}{t:ed}(j:L[i]? =some (k,b,t))(h:f.results= #[.cell p c])(e:Array ej)(l:e.getD p jw=.pointer (some ⟨k,0,none⟩)){d:jI}(m:P.underlying c=some d)(o:(match d with| .struct _| .array _ _=>true|_=>false)=true)(q:(P.info? c).map (·.size)=some n)(r:b.length=n):
 (results f e).run P w=.ok (.agg b.toArray) w:=dU h e w k t b (0,0) d l (g.blk j) m o (r▸q)
theorem Ms.Nn{P:iP}{f:Func}{p u:Tmp}{e:ed}(g:Ms da dv base A B w0 w L S)(i:Nat){k n:Nat}{b:List ej}{t:ed}(j:L[i]? =some (k,b,t))(h:f.results= #[.cell p e,.tmp u])(c:Array ej)(l:c.getD p jw=.pointer (some ⟨k,0,none⟩)){d:jI}(m:P.underlying e=some d)(o:(match d with| .struct _| .array _ _=>true|_=>false)=true)(q:(P.info? e).map (·.size)=some n)(r:b.length=n):
 (results f c).run P w=.ok (.tuple #[.agg b.toArray,c.getD u jw]) w:=aD h c w k t b (0,0) d l (g.blk j) m o (r▸q)
end
section
variable {P:iP}{ops:Array pz}{rest:List pz}{o:pz}{a:r2}{Q:Exit→r2→hO→Prop}{da dv:ed→Bool}{base:Nat}{A B:hO→Prop}{w0 w:hO}{L:List Bk}{S:List Sl}
theorem aJ{k:Nat}{c new:List ej}{t:ed}(f:Ms da dv base A B w0 w ((k,c,t)::L) S)(e:ed){x y:gg}(g:o.guard=none)(j:o.op=.store e x y)(l:a.eval x=.pointer (some ⟨k,0,none⟩))(m:a.eval y=.agg new.toArray){n:Nat}(p:(P.info? e).map (·.size)=some n)(q:new.length=n)(hold:c.length=n)(r:∀v∈new,v.oneCell'=true)(h:∀b,Ms da dv base A B w0 b ((k,new,t)::L) S→fj P ops Q rest (a.put o.dst jw) b):fj P ops Q (o::rest) a w:=
 ag g e x y j k new l m t c.toArray (f.blk (i:=0) rfl) (q▸p) (by simp_all) r fun b u=>h b (f.Q3 u)
theorem so{k:Nat}{b new:List ej}{t:ed}(f:Ms da dv base A B w0 w ((k,b,t)::L) S)(e:ed){x y:gg}(j:o.guard=none)(l:o.op=.store e x y)(i:Nat)(m:a.eval x=.pointer (some ⟨k,i,none⟩))(p:a.eval y=.agg new.toArray){n:Nat}(q:(P.info? e).map (·.size)=some n)(g:new.length=n)(hold:i+n≤b.length)(r:∀v∈new,v.oneCell'=true)(h:∀c,Ms da dv base A B w0 c ((k,splice b i new,t)::L) S→fj P ops Q rest (a.put o.dst jw) c):fj P ops Q (o::rest) a w:=
 bI j e x y l k i new m p t b (f.blk (i:=0) rfl) (g▸q) (g▸hold) r fun c u=>h c (f.Q3 u)
theorem lJ{k:Nat}{c new:List ej}{t:ed}{f:Bk}(g:Ms da dv base A B w0 w (f::(k,c,t)::L) S)(e:ed){x y:gg}(j:o.guard=none)(l:o.op=.store e x y)(m:a.eval x=.pointer (some ⟨k,0,none⟩))(p:a.eval y=.agg new.toArray){n:Nat}(q:(P.info? e).map (·.size)=some n)(r:new.length=n)(hold:c.length=n)(u:∀v∈new,v.oneCell'=true)(h:∀b,Ms da dv base A B w0 b (f::(k,new,t)::L) S→fj P ops Q rest (a.put o.dst jw) b):fj P ops Q (o::rest) a w:=
 ag j e x y l k new m p t c.toArray (g.blk (i:=1) rfl) (r▸q) (by simp_all) u fun b z=>h b (g.Rs z)
theorem sm{k:Nat}{c new:List ej}{t:ed}{f g:Bk}(j:Ms da dv base A B w0 w (f::g::(k,c,t)::L) S)(e:ed){x y:gg}(l:o.guard=none)(m:o.op=.store e x y)(p:a.eval x=.pointer (some ⟨k,0,none⟩))(q:a.eval y=.agg new.toArray){n:Nat}(r:(P.info? e).map (·.size)=some n)(u:new.length=n)(hold:c.length=n)(z:∀v∈new,v.oneCell'=true)(h:∀b,Ms da dv base A B w0 b (f::g::(k,new,t)::L) S→fj P ops Q rest (a.put o.dst jw) b):fj P ops Q (o::rest) a w:=
 ag l e x y m k new p q t c.toArray (j.blk (i:=2) rfl) (u▸r) (by simp_all) z fun b C=>h b (j.Rj C)
theorem sn{k:Nat}{b new:List ej}{t:ed}{f g:Bk}(j:Ms da dv base A B w0 w (f::g::(k,b,t)::L) S)(e:ed){x y:gg}(m:o.guard=none)(p:o.op=.store e x y)(i:Nat)(q:a.eval x=.pointer (some ⟨k,i,none⟩))(r:a.eval y=.agg new.toArray){n:Nat}(u:(P.info? e).map (·.size)=some n)(l:new.length=n)(hold:i+n≤b.length)(z:∀v∈new,v.oneCell'=true)(h:∀c,Ms da dv base A B w0 c (f::g::(k,splice b i new,t)::L) S→fj P ops Q rest (a.put o.dst jw) c):fj P ops Q (o::rest) a w:=
 bI m e x y p k i new q r t b (j.blk (i:=2) rfl) (l▸u) (l▸hold) z fun c C=>h c (j.Rj C)
theorem sk{k:Nat}{c new:List ej}{t:ed}{f g j:Bk}(l:Ms da dv base A B w0 w (f::g::j::(k,c,t)::L) S)(e:ed){x y:gg}(m:o.guard=none)(p:o.op=.store e x y)(q:a.eval x=.pointer (some ⟨k,0,none⟩))(r:a.eval y=.agg new.toArray){n:Nat}(u:(P.info? e).map (·.size)=some n)(z:new.length=n)(hold:c.length=n)(C:∀v∈new,v.oneCell'=true)(h:∀b,Ms da dv base A B w0 b (f::g::j::(k,new,t)::L) S→fj P ops Q rest (a.put o.dst jw) b):fj P ops Q (o::rest) a w:=
 ag m e x y p k new q r t c.toArray (l.blk (i:=3) rfl) (z▸u) (by simp_all) C fun b D=>h b (l.upd3 D)
theorem bK{P:iP}(w:hO)(k j:Nat)(c:ed)(v:ej)(b:(P.info? c).map (·.size)=some 1)(f:v.oneCell'=true)(h:(w.cell? ⟨k,j,none⟩).isSome=true)(l:w.frozen? ⟨k,j,none⟩=false):(Instr.storeAt c (.pointer (some ⟨k,j,none⟩)) v).run P w=.ok () (w.setCell ⟨k,j,none⟩ v):=by
 have m:v.cells= #[v]:=by cases v<;>first|rfl|cases f
 have:=run_storeCells_cells (P:=P) k j [v] 0 w (fun i b=>by simp at b;subst b;simpa using h) (fun i b=>by simp at b;subst b;simpa using l) (fun u g=>by simp at g;subst g;exact f);cases e:P.info? c with
 |none=>simp[e]at b
 |some i=>
  have n:i.size=1:=by simpa[e]using b
  simp only[Nat.add_zero]at this;simp[Instr.storeAt,Instr.sureAddr,storeVar,sizeOf,py,e,m,n,this,World.setCells]
theorem iV{b new:List ej}(h:b.length=new.length):splice b 0 new=new:=by simp[splice,h,List.drop_eq_nil_of_le]
theorem mI{K:r2→hO→Prop}{k:Nat}{c new:List ej}{t:ed}(f:Ms da dv base A B w0 w ((k,c,t)::L) S)(e:ed){x y:gg}(j:o.op=.store e x y)(l:a.eval x=.pointer (some ⟨k,0,none⟩))(m:a.eval y=.agg new.toArray){n:Nat}(p:(P.info? e).map (·.size)=some n)(q:new.length=n)(hold:c.length=n)(r:∀v∈new,v.oneCell'=true)(h:∀b,Ms da dv base A B w0 b ((k,new,t)::L) S→K (a.put o.dst jw) b):o.wp P a w K Q:=
 lF e x y j k 0 new l m t c (f.blk (i:=0) rfl) (q▸p) (by omega) r fun b g=>h b (f.Q3 (by rw[iV (by omega)]at g;exact g))
theorem Ea{K:r2→hO→Prop}{k:Nat}{c new:List ej}{t:ed}{f:Bk}(g:Ms da dv base A B w0 w (f::(k,c,t)::L) S)(e:ed){x y:gg}(l:o.op=.store e x y)(m:a.eval x=.pointer (some ⟨k,0,none⟩))(p:a.eval y=.agg new.toArray){n:Nat}(q:(P.info? e).map (·.size)=some n)(r:new.length=n)(hold:c.length=n)(u:∀v∈new,v.oneCell'=true)(h:∀b,Ms da dv base A B w0 b (f::(k,new,t)::L) S→K (a.put o.dst jw) b):o.wp P a w K Q:=
 lF e x y l k 0 new m p t c (g.blk (i:=1) rfl) (r▸q) (by omega) u fun b j=>h b (g.Rs (by rw[iV (by omega)]at j;exact j))
theorem lI{k j:Nat}{b:List ej}{t:ed}{v:ej}(c:Ms da dv base A B w0 w ((k,b,t)::L) S)(e:ed){x y:gg}(g:o.guard=none)(l:o.op=.store e x y)(m:a.eval x=.pointer (some ⟨k,j,none⟩))(n:a.eval y=v)(p:(P.info? e).map (·.size)=some 1)(hj:j<b.length)(q:v.oneCell'=true)(h:∀f,Ms da dv base A B w0 f ((k,b.set j v,t)::L) S→fj P ops Q rest (a.put o.dst jw) f):fj P ops Q (o::rest) a w:=by
 refine hZ g fun K r=> ?_;unfold jm js;simp only[l,m,n,fo,bK w k j e v p q (by rw[ae (c.blk (i:=0) rfl),eX,hG hj];rfl) (ao (c.blk (i:=0) rfl) j),eD];exact r _ _ (h _ (c.Qw j v))
theorem sj{k j:Nat}{b:List ej}{t:ed}{v:ej}{f:Bk}(c:Ms da dv base A B w0 w (f::(k,b,t)::L) S)(e:ed){x y:gg}(l:o.guard=none)(m:o.op=.store e x y)(n:a.eval x=.pointer (some ⟨k,j,none⟩))(p:a.eval y=v)(q:(P.info? e).map (·.size)=some 1)(hj:j<b.length)(r:v.oneCell'=true)(h:∀g,Ms da dv base A B w0 g (f::(k,b.set j v,t)::L) S→fj P ops Q rest (a.put o.dst jw) g):fj P ops Q (o::rest) a w:=by
 refine hZ l fun K u=> ?_;unfold jm js;simp only[m,n,p,fo,bK w k j e v q r (by rw[ae (c.blk (i:=1) rfl),eX,hG hj];rfl) (ao (c.blk (i:=1) rfl) j),eD];exact u _ _ (h _ (c.set1 j v))
theorem lH{k j:Nat}{b:List ej}{t:ed}{v:ej}{f g:Bk}(c:Ms da dv base A B w0 w (f::g::(k,b,t)::L) S)(e:ed){x y:gg}(m:o.guard=none)(n:o.op=.store e x y)(p:a.eval x=.pointer (some ⟨k,j,none⟩))(q:a.eval y=v)(r:(P.info? e).map (·.size)=some 1)(hj:j<b.length)(u:v.oneCell'=true)(h:∀l,Ms da dv base A B w0 l (f::g::(k,b.set j v,t)::L) S→fj P ops Q rest (a.put o.dst jw) l):fj P ops Q (o::rest) a w:=by
 refine hZ m fun K z=> ?_;unfold jm js;simp only[n,p,q,fo,bK w k j e v r u (by rw[ae (c.blk (i:=2) rfl),eX,hG hj];rfl) (ao (c.blk (i:=2) rfl) j),eD];exact z _ _ (h _ (c.set2 j v))
theorem bM(i:Nat){k:Nat}{b:List ej}{t:ed}(e:Ms da dv base A B w0 w L S)(f:L[i]? =some (k,b,t))(c:ed){x:gg}(g:o.guard=none)(j:o.op=.load c x)(l:a.eval x=.pointer (some ⟨k,0,none⟩)){d:jI}(m:P.underlying c=some d)(p:d.isRow=true){n:Nat}(q:(P.info? c).map (·.size)=some n)(r:b.length=n)(h:fj P ops Q rest (a.put o.dst (.agg b.toArray)) w):fj P ops Q (o::rest) a w:=
 nr g c x j k 0 l b d (ai (e.blk f)) m p (r▸q) h
theorem aX{P:iP}(w:hO)(b j:Nat)(c:ed){d:jI}{v:ej}(e:P.underlying c=some d)(i:d.isRow=false)(f:w.cell? ⟨b,j,none⟩=some v):(Instr.loadAt c (.pointer (some ⟨b,j,none⟩))).run P w=.ok v w:=by
 have g:(isAgg c).run P w=.ok false w:=by
  unfold isAgg;rw[fo,run_underlying e w];cases d<;>simp_all
 have h:(load ⟨b,j,none⟩).run P w=.ok v w:=by simp[load,Sem.run,f]
 simp only[Instr.loadAt,Instr.sureAddr,loadVar,fo,kd,eD,g,Bool.false_eq_true,if_false];exact h
theorem aK(i:Nat){j k:Nat}{c:List ej}{t:ed}(e:Ms da dv base A B w0 w L S)(f:L[i]? =some (k,c,t))(b:ed){x:gg}(g:o.guard=none)(l:o.op=.load b x)(m:a.eval x=.pointer (some ⟨k,j,none⟩)){d:jI}(n:P.underlying b=some d)(p:d.isRow=false){v:ej}(q:c[j]? =some v)(h:fj P ops Q rest (a.put o.dst v) w):fj P ops Q (o::rest) a w:=by
 refine hZ g fun K r=> ?_;unfold jm js;simp only[l,m,fo,aX w k j b n p (e.cell i j f q),eD];exact r _ _ h
theorem bS(i j:Nat){k:Nat}{c1 c2 c3:List ej}{t:ed}(c:Ms da dv base A B w0 w L S)(e:L[i]? =some (k,c1++(c2++c3),t))(hj:c1.length=j)(b:ed){x:gg}(f:o.guard=none)(g:o.op=.load b x)(l:a.eval x=.pointer (some ⟨k,j,none⟩)){d:jI}(m:P.underlying b=some d)(p:d.isRow=true){n:Nat}(q:(P.info? b).map (·.size)=some n)(r:c2.length=n)(h:fj P ops Q rest (a.put o.dst (.agg c2.toArray)) w):fj P ops Q (o::rest) a w:=
 nr f b x g k j l c2 d (bN (c.blk e) c1 c2 c3 rfl j hj) m p (r▸q) h
theorem az(g:Ms da dv base A B w0 w L S)(t:ed)(j:o.guard=none)(k:o.op=.alloc t)(z:ej)(b:List ej)(e:(P.info? t).map (·.zero)=some (some z))(l:z.cells=b.toArray)(m:da t=false)(h:∀f,Ms da dv base A B w0 f ((w.heap.size,b,t)::L) S→fj P ops Q rest (a.put o.dst (.pointer (some ⟨w.heap.size,0,none⟩))) f):fj P ops Q (o::rest) a w:=by
 cases c:P.info? t with
 |none=>simp[c]at e
 |some i=>
  have n:i.zero=some z:=by simpa[c]using e
  refine hZ j fun K p=> ?_;unfold jm js;have q:=p _ _ (h _ (g.alloc b t m));simp[k,Instr.alloc,zeroValue,py,c,n,qa,l,kb];exact q
theorem aG(e:Ms da dv base A B w0 w L S)(t:ed){x:gg}(f:o.guard=none)(g:o.op=.box t x)(v:ej)(b:List ej)(i:a.eval x=v)(j:v.cells=b.toArray)(k:da t=false)(h:∀c,Ms da dv base A B w0 c ((w.heap.size,b,t)::L) S→fj P ops Q rest (a.put o.dst (.pointer (some ⟨w.heap.size,0,none⟩))) c):fj P ops Q (o::rest) a w:=by
 refine hZ f fun K l=> ?_;unfold jm js;have m:=l _ _ (h _ (e.alloc b t k));simp[g,Instr.box,qa,i,j,kb];exact m
theorem iH{P:iP}(w:hO)(t e:ed)(v:ej)(row:List ej)(f:v.cells=row.toArray)(b:TypeInfo)(z:ej)(g:P.underlying t=some (.slice e))(i:P.info? e=some b)(j:b.zero=some z)(c:b.size=row.length)(n:0<row.length)(p:row.length≤1000):
 (Instr.buildSlice t 1 #[(0,v)]).run P w=.ok (.slice (some ⟨w.heap.size,0,none⟩) 1 1) (w.alloc (.cells row.toArray e)):=by
 refine run_buildSlice w t e 1 _ row.toArray b z g i j (by rw[c];omega) (by rw[c];omega) ?_;have k:((Array.range (1*b.size)).map (z.cells[· %z.cells.size]!)).toList.length=row.length:=by simp[c]
 generalize (Array.range (1*b.size)).map (z.cells[· %z.cells.size]!)=cells at*;obtain⟨cl,rfl⟩:∃cl:List ej,cells=cl.toArray:=⟨cells.toList,by simp⟩;have l:cl.length=row.length:=by simpa using k
 have hf:=oK row 0 cl (by omega)
 have m:splice cl 0 row=row:=by
  exact ye6
 rw[m]at hf;simp only[Instr.fill,f,ly,Nat.zero_mul,c,l];exact yc7
theorem Az{K:r2→hO→Prop}{row:List ej}{k c:Nat}{e l:ed}{C n:Nat}{v:ej}{j:List ej}(b:Ms da dv base A B w0 w ((k,row,l)::L) (⟨e,C,v,n,j⟩::S))(t:ed){s x:gg}(m:o.op=.call {callee:=.builtin .append,args:= #[s,x],argTypes:= #[t,t]}){z:ej}{bytes:Nat}(p:P.underlying t=some (.slice e))(q:(P.info? e).map (fun i=>(i.zero,i.size,i.bytes))=some (some z,C,bytes))(r:z.cells.size=C)(D:0<C)(Z:row.length=C)(E:a.eval s=v)(G:a.eval x=.slice (some ⟨k,0,none⟩) 1 c)(H:∀u∈row,u.oneCell'=true)(I:n+1≤ps)(J:(n+1)*bytes≤140737488355328)(h:∀f g,Ms da dv base A B w0 g (L) (⟨e,C,f,n+1,j++row⟩::S)→K (a.put o.dst f) g):o.wp P a w K Q:=by
 obtain⟨i,M,N,O,R⟩:=info_parts q;have T:=b.sl (i:=0) rfl
 obtain⟨f,g,U,V,W,_,X⟩:=run_append_own_at (P:=P) w w0.heap.size t o.type e i z C bytes p M N O R r D v n j T ⟨k,0,none⟩ 1 c row (by omega)
  (by intro aa u Y;rw[Addr.add_mid,Nat.zero_add,ae (b.blk (i:=0) rfl),eX];exact Y) H I J b.size
 unfold jm js;simp only[m,resolve,invoke,builtin,fo,kd,eD,l8,pn,px,E,G,U];exact h f g (b.app V W (X.imp id fun e=>⟨_,e,Nat.le_refl _⟩)).tail
theorem Ay{K:r2→hO→Prop}{row:List ej}{k c:Nat}{e j:ed}{C n:Nat}{v:ej}{g:List ej}{s0:Sl}(l:Ms da dv base A B w0 w ((k,row,j)::L) (s0::⟨e,C,v,n,g⟩::S))(t:ed){s x:gg}(m:o.op=.call {callee:=.builtin .append,args:= #[s,x],argTypes:= #[t,t]}){z:ej}{bytes:Nat}(p:P.underlying t=some (.slice e))(q:(P.info? e).map (fun i=>(i.zero,i.size,i.bytes))=some (some z,C,bytes))(r:z.cells.size=C)(D:0<C)(E:row.length=C)(G:a.eval s=v)(H:a.eval x=.slice (some ⟨k,0,none⟩) 1 c)(I:∀u∈row,u.oneCell'=true)(J:n+1≤ps)(M:(n+1)*bytes≤140737488355328)(h:∀b f,Ms da dv base A B w0 f (L) (s0::⟨e,C,b,n+1,g++row⟩::S)→K (a.put o.dst b) f):o.wp P a w K Q:=
 Az l.swap t m p q r D E G H I J M fun b f N=>h b f N.swap
theorem bT{row:List ej}{k c:Nat}{e j:ed}{C n:Nat}{v:ej}{g:List ej}(l:Ms da dv base A B w0 w ((k,row,j)::L) (⟨e,C,v,n,g⟩::S))(t:ed){s x:gg}(m:o.guard=none)(p:o.op=.call {callee:=.builtin .append,args:= #[s,x],argTypes:= #[t,t]}){z:ej}{bytes:Nat}(q:P.underlying t=some (.slice e))(r:(P.info? e).map (fun i=>(i.zero,i.size,i.bytes))=some (some z,C,bytes))(D:z.cells.size=C)(E:0<C)(G:row.length=C)(H:a.eval s=v)(I:a.eval x=.slice (some ⟨k,0,none⟩) 1 c)(J:∀u∈row,u.oneCell'=true)(M:n+1≤ps)(N:(n+1)*bytes≤140737488355328)(h:∀b f,Ms da dv base A B w0 f (L) (⟨e,C,b,n+1,g++row⟩::S)→fj P ops Q rest (a.put o.dst b) f):fj P ops Q (o::rest) a w:=
 hZ m fun K O=>Az l t p q r D E G H I J M N fun b f R=>O _ _ (h b f R)
theorem sq{row:List ej}{k c:Nat}{e j:ed}{C n:Nat}{v:ej}{g:List ej}{s0:Sl}(l:Ms da dv base A B w0 w ((k,row,j)::L) (s0::⟨e,C,v,n,g⟩::S))(t:ed){s x:gg}(m:o.guard=none)(p:o.op=.call {callee:=.builtin .append,args:= #[s,x],argTypes:= #[t,t]}){z:ej}{bytes:Nat}(q:P.underlying t=some (.slice e))(r:(P.info? e).map (fun i=>(i.zero,i.size,i.bytes))=some (some z,C,bytes))(D:z.cells.size=C)(E:0<C)(G:row.length=C)(H:a.eval s=v)(I:a.eval x=.slice (some ⟨k,0,none⟩) 1 c)(J:∀u∈row,u.oneCell'=true)(M:n+1≤ps)(N:(n+1)*bytes≤140737488355328)(h:∀b f,Ms da dv base A B w0 f (L) (s0::⟨e,C,b,n+1,g++row⟩::S)→fj P ops Q rest (a.put o.dst b) f):fj P ops Q (o::rest) a w:=
 hZ m fun K O=>Ay l t p q r D E G H I J M N fun b f R=>O _ _ (h b f R)
end
section
variable {P:iP}{ops:Array pz}{rest:List pz}{o:pz}{a:r2}{Q:r2→Prop}{da dv:ed→Bool}{base:Nat}{A B:hO→Prop}{w0 w:hO}{L:List Bk}{S:List Sl}
theorem cU(i:Nat){k:Nat}{b:List ej}{t:ed}(e:Ms da dv base A B w0 w L S)(f:L[i]? =some (k,b,t))(c:ed){x:gg}(g:Region.wanted o (yielded ops a.tmps)=true)(j:o.op=.load c x)(l:a.eval x=.pointer (some ⟨k,0,none⟩)){d:jI}(m:P.underlying c=some d)(p:d.isRow=true){n:Nat}(q:(P.info? c).map (·.size)=some n)(r:b.length=n)(h:l4 P ops w Q rest (a.put o.dst (.agg b.toArray))):l4 P ops w Q (o::rest) a:=by
 unfold l4;rw[if_pos g];unfold qc js;simp only[j,l,fo,kr w k 0 c b d (ai (e.blk f)) m p (r▸q),eD,kd,o4];simp_all
theorem aq(i:Nat){j k:Nat}{c:List ej}{t:ed}(e:Ms da dv base A B w0 w L S)(f:L[i]? =some (k,c,t))(b:ed){x:gg}(g:Region.wanted o (yielded ops a.tmps)=true)(l:o.op=.load b x)(m:a.eval x=.pointer (some ⟨k,j,none⟩)){d:jI}(n:P.underlying b=some d)(p:d.isRow=false){v:ej}(q:c[j]? =some v)(h:l4 P ops w Q rest (a.put o.dst v)):l4 P ops w Q (o::rest) a:=by
 unfold l4;rw[if_pos g];unfold qc js;simp only[l,m,fo,aX w k j b n p (e.cell i j f q),eD,kd,o4];simp_all
end
end
/-- What is known of a type: is it a row, its zero value, how many cells, how many bytes. -/
class TI (P:iP) (t:ed) (r:outParam Bool) (z:outParam ej) (n b:outParam Nat):Prop where
  u:(P.underlying t).map (·.isRow)=some r
  i:(P.info? t).map (fun i=>(i.zero,i.size,i.bytes))=some (some z,n,b)
class SL (P:iP) (t:ed) (e:outParam ed):Prop where
  u:P.underlying t=some (.slice e)
section
variable {P:iP}{t:ed}{r:Bool}{z:ej}{n b:Nat}
theorem TI.s[h:TI P t r z n b]:(P.info? t).map (·.size)=some n:=by
  have:=h.i;cases e:P.info? t with
  |none=>rw[e]at this;cases this
  |some i=>rw[e]at this;injection this with this;injection this with _ this;injection this with this;simp[this]
theorem TI.y[h:TI P t r z n b]:(P.info? t).map (·.zero)=some (some z):=by
  have:=h.i;cases e:P.info? t with
  |none=>rw[e]at this;cases this
  |some i=>rw[e]at this;injection this with this;injection this with this;simp[this]
theorem TI.d[h:TI P t r z n b]:∃d,P.underlying t=some d∧d.isRow=r:=by
  have:=h.u;cases e:P.underlying t with
  |none=>rw[e]at this;cases this
  |some d=>rw[e]at this;exact⟨d,rfl,kk this⟩
end
def LdK(P:iP)(w:hO)(b:ed)(k j:Nat)(R:ej→Prop):Prop:=∃v,(Instr.loadAt b (.pointer (some ⟨k,j,none⟩))).run P w=.ok v w∧R v
def StK(P:iP)(w:hO)(c:ed)(k j:Nat)(v:ej)(R:hO→Prop):Prop:=∃b,(Instr.storeAt c (.pointer (some ⟨k,j,none⟩)) v).run P w=.ok () b∧R b
section
variable {P:iP}{o:pz}{a:r2}{K:r2→hO→Prop}{Q:Exit→r2→hO→Prop}{da dv:ed→Bool}{base:Nat}{A B:hO→Prop}{w0 w:hO}{L L':List Bk}{S:List Sl}{ty t e:ed}{x y:gg}{r:Bool}{z v:ej}{n b j k C g c:Nat}{cs new row:List ej}{R:ej→Prop}{R':hO→Prop}
theorem wld(f:o.op=.load ty x)(i:a.eval x=.pointer (some ⟨k,j,none⟩))(h:LdK P w ty k j fun v=>K (a.put o.dst v) w):o.wp P a w K Q:=by
  obtain⟨v,l,m⟩:=h;unfold jm js;simp only[f,i,fo,l,eD];exact m
theorem wst(i:o.op=.store ty x y)(l:a.eval x=.pointer (some ⟨k,j,none⟩))(m:a.eval y=v)(h:StK P w ty k j v fun f=>K (a.put o.dst jw) f):o.wp P a w K Q:=by
  obtain⟨f,p,q⟩:=h;unfold jm js;simp only[i,l,m,fo,p,eD];exact q
theorem Gn(f:Ms da dv base A B w0 w L S){i:Nat}(l:L[i]? =some (k,cs,t))[T:TI P ty false z n b](m:cs[j]? =some v)(h:R v):LdK P w ty k j R:=by
  obtain⟨d,p,q⟩:=T.d;exact⟨v,aX w k j ty p q (f.cell i j l m),h⟩
theorem Iy(f:Ms da dv base A B w0 w L S){i:Nat}(l:L[i]? =some (k,cs,t))[T:TI P ty true z n b](m:cs.length=n)(h:R (.agg cs.toArray)):LdK P w ty k 0 R:=by
  obtain⟨d,p,q⟩:=T.d;exact⟨_,kr w k 0 ty cs d (ai (f.blk l)) p q (m▸T.s),h⟩
theorem Ix(p:Ms da dv base A B w0 w L S){i q m:Nat}{f:List ej}(u:S[i]? =some ⟨e,C,.slice (some ⟨g,0,none⟩) n c,q,f⟩)[T:TI P ty false z m b](D:f[j]? =some v)(h:R v):LdK P w ty g j R:=by
  obtain⟨d,E,G⟩:=T.d;have l:=(p.sl u).cells (g:=g) rfl j v D;rw[Addr.add_mid,Nat.zero_add]at l;exact⟨v,aX w g j ty E G l,h⟩
theorem GU(q:Ms da dv base A B w0 w L S){i D:Nat}{f:List (List ej)}(E:S[i]? =some ⟨e,C,.slice (some ⟨g,0,none⟩) n c,D,f.flatten⟩)[T:TI P ty true z C b](l:f[k]? =some row)(m:∀r∈f,r.length=C)(h:R (.agg row.toArray)):LdK P w ty g (k*C) R:=by
  obtain⟨d,G,H⟩:=T.d;have p:=m row (hX l)
  exact⟨_,kr w g (k*C) ty row d (fun j u hj=>by
    have I:j<C:=by rw[←p];exact(jd.1 hj).1
    have:=(q.sl E).cells (g:=g) rfl (k*C+j) u (by rw[aW m l I];exact hj);rw[Addr.add_mid,Nat.zero_add]at this;exact this) G H (by rw[p];exact T.s),h⟩
theorem lol(i:Ms da dv w0.heap.size A B w0 w L S)(f:w0.cell? ⟨k,j,none⟩=some v)[T:TI P ty false z n b](h:R v):LdK P w ty k j R:=by
  obtain⟨d,l,m⟩:=T.d;exact⟨v,aX w k j ty l m ((i.out.cell (p:=⟨k,j,none⟩) (World.block_lt_of_cell? w0 _ f)).trans f),h⟩
theorem lce(f:w.cell? ⟨k,j,none⟩=some v)[T:TI P ty false z n b](h:R v):LdK P w ty k j R:=by
  obtain⟨d,i,l⟩:=T.d;exact⟨v,aX w k j ty i l f,h⟩
theorem Gf(f:Ms da dv base A B w0 w L S){i:Nat}(l:L[i]? =some (k,cs,t))[T:TI P ty r z 1 b](p:L.set i (k,cs.set j v,t)=L')(hj:j<cs.length)(q:v.oneCell'=true)(h:∀m,Ms da dv base A B w0 m L' S→R' m):StK P w ty k j v R':=
  ⟨_,bK w k j ty v T.s q (by rw[ae (f.blk l),eX,hG hj];rfl) (ao (f.blk l) j),h _ (p▸f.upd l (ar (f.blk l) v))⟩
theorem Ev(f:Ms da dv base A B w0 w L S){i:Nat}(l:L[i]? =some (k,cs,t))[T:TI P ty r z n b](p:L.set i (k,splice cs j new,t)=L')(u:new.length=n)(M:j+n≤cs.length)(D:∀v∈new,v.oneCell'=true)(h:∀m,Ms da dv base A B w0 m L' S→R' m):StK P w ty k j (.agg new.toArray) R':=by
  have E:j+new.length≤cs.length:=by omega
  have G:=cA (i:=j) (f.blk l) E;have H:(P.info? ty).map (·.size)=some new.toArray.size:=by rw[ly,u];exact T.s
  refine⟨_,run_storeAt_mid w k j ty new.toArray (fun q I=> ?_) H (lx D),?_⟩
  · have J:j+q<cs.length:=by simp at I;omega
    refine⟨?_,ao (f.blk l) _⟩;rw[ae (f.blk l),eX,hG J];rfl
  · exact h _ (p▸f.upd l (by simpa using G))
theorem Gg(m:Ms da dv base A B w0 w L S){i:Nat}(p:L[i]? =some (k,cs,t))[T:TI P ty r z n b](q:L.set i (k,new,t)=L')(f:new.length=n)(u:cs.length=n)(D:∀v∈new,v.oneCell'=true)(h:∀l,Ms da dv base A B w0 l L' S→R' l):StK P w ty k 0 (.agg new.toArray) R':=
  Ev m p (by rw[iV (u.trans f.symm)];exact q) f (by omega) D h
theorem qnw(p:Ms da dv base A B w0 w L S)(q:o.op=.alloc t)[T:TI P t r z n b](u:z.cells=new.toArray)(D:da t=false)(h:∀l,Ms da dv base A B w0 l ((w.heap.size,new,t)::L) S→K (a.put o.dst (.pointer (some ⟨w.heap.size,0,none⟩))) l):o.wp P a w K Q:=by
  have m:=T.y;cases f:P.info? t with
  |none=>simp[f]at m
  |some i=>
    have E:i.zero=some z:=by simpa[f]using m
    unfold jm js;have G:=h _ (p.alloc new t D);simp[q,Instr.alloc,zeroValue,py,f,E,qa,u,kb];exact G
theorem qbx(i:Ms da dv base A B w0 w L S)(l:o.op=.box t x)(m:a.eval x=v)(p:v.cells=new.toArray)(q:da t=false)(h:∀f,Ms da dv base A B w0 f ((w.heap.size,new,t)::L) S→K (a.put o.dst (.pointer (some ⟨w.heap.size,0,none⟩))) f):o.wp P a w K Q:=by
  unfold jm js;have u:=h _ (i.alloc new t q);simp[l,Instr.box,qa,m,p,kb];exact u
theorem qb1(i:Ms da dv base A B w0 w L S)(l:o.op=.box t x)(m:a.eval x=v)(p:v.oneCell'=true)(q:da t=false)(h:∀f,Ms da dv base A B w0 f ((w.heap.size,[v],t)::L) S→K (a.put o.dst (.pointer (some ⟨w.heap.size,0,none⟩))) f):o.wp P a w K Q:=
  qbx i l m (by cases v<;>first|rfl|cases p) q h
theorem qon(l:Ms da dv base A B w0 w L S)(m:o.op=.buildSlice t 1 #[(0,x)])[T':SL P t e][T:TI P e r z C b](p:a.eval x=v)(q:v.cells=row.toArray)(u:da e=false)(D:row.length=C)(I:0<C)(J:C≤1000)(h:∀f,Ms da dv base A B w0 f ((w.heap.size,row,e)::L) S→K (a.put o.dst (.slice (some ⟨w.heap.size,0,none⟩) 1 1)) f):o.wp P a w K Q:=by
  obtain⟨i,E,G,H,M⟩:=info_parts T.i;unfold jm js;simp only[m,fo,l8,pn,px,p,iH w t e v row q i z T'.u E G (by rw[H,D]) (by omega) (by omega),eD];exact h _ (l.alloc row e u)
end
theorem g0{b:Type}{x:b}{l:List b}:(x::l)[0]? =some x:=rfl
theorem g1{b:Type}{a x:b}{l:List b}:(a::x::l)[1]? =some x:=rfl
theorem g2{c:Type}{a b x:c}{l:List c}:(a::b::x::l)[2]? =some x:=rfl
theorem g3{e:Type}{a b c x:e}{l:List e}:(a::b::c::x::l)[3]? =some x:=rfl
theorem g4{e:Type}{a b c d x:e}{l:List e}:(a::b::c::d::x::l)[4]? =some x:=rfl
theorem g5{f:Type}{a b c d e x:f}{l:List f}:(a::b::c::d::e::x::l)[5]? =some x:=rfl
theorem g6{g:Type}{a b c d e f x:g}{l:List g}:(a::b::c::d::e::f::x::l)[6]? =some x:=rfl
theorem g7{h:Type}{a b c d e f g x:h}{l:List h}:(a::b::c::d::e::f::g::x::l)[7]? =some x:=rfl
theorem s0{b:Type}{x y:b}{l:List b}:(x::l).set 0 y=y::l:=rfl
theorem s1{b:Type}{a x y:b}{l:List b}:(a::x::l).set 1 y=a::y::l:=rfl
theorem s2{c:Type}{a b x y:c}{l:List c}:(a::b::x::l).set 2 y=a::b::y::l:=rfl
theorem s3{e:Type}{a b c x y:e}{l:List e}:(a::b::c::x::l).set 3 y=a::b::c::y::l:=rfl
theorem s4{e:Type}{a b c d x y:e}{l:List e}:(a::b::c::d::x::l).set 4 y=a::b::c::d::y::l:=rfl
theorem s5{f:Type}{a b c d e x y:f}{l:List f}:(a::b::c::d::e::x::l).set 5 y=a::b::c::d::e::y::l:=rfl
theorem s6{g:Type}{a b c d e f x y:g}{l:List g}:(a::b::c::d::e::f::x::l).set 6 y=a::b::c::d::e::f::y::l:=rfl
theorem s7{h:Type}{a b c d e f g x y:h}{l:List h}:(a::b::c::d::e::f::g::x::l).set 7 y=a::b::c::d::e::f::g::y::l:=rfl
end Go.Proofs.YtlkpfnjdbgeifaaGreat
