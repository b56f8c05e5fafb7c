import Derived.Test.YtlkpfnjdbgeifaaGreatFDeskOps
import Derived.Test.YtlkpfnjdbgeifaaGreatFSweepErase
set_option linter.unusedSimpArgs false
set_option linter.unusedVariables false
set_option maxRecDepth 100000
set_option maxHeartbeats 16000000
open List renaming pairwise_cons→ed,foldl_cons→eD,sublist_cons_self→eX,foldl_nil→fj,perm_middle→fo,take_succ_cons→hO,drop_succ_cons→hX,mem_of_mem_take→iP,take_zero→jd,drop_zero→jg,length_pos_iff→jm,mem_cons_self→jt,mem_filter→jI,length_map→kb,mem_cons→kd
open Go renaming World→ej,Value→gg,Calls→js,wpStill_nil→jw,undef→kk
open Go.Region renaming wanted→ek,binds→hZ
open Nat renaming zero_le→hG
namespace Go.Proofs.YtlkpfnjdbgeifaaGreat
open Go.Proofs.Tryz
open Go.RowKit
theorem yb3{A:Prop}(h:A:=by
 have q:v'.ownBlock=some x.1:=q;rcases List.mem_cons.1 hx with rfl|hx
 · obtain⟨cur,q1,-⟩:=br h2.1 q
   simp_all
 · rcases f2 with f2|⟨j,f2,f3⟩
   · grind
   · rw[f2]at q
     have:=hs0.lt hx;grind):A:=h
theorem ycg{A:Prop}(h:A:=by
 refine⟨(hs1.sls s hs').1,(hs1.sls s hs').2.1,fun x hx q=> ?_⟩;rcases List.mem_cons.1 hx with rfl|hx
 · exact(hs.sls s (List.mem_cons_of_mem _ hs')).2.2 _ (List.mem_cons_self ..) q
 · exact(hs1.sls s hs').2.2 x hx q):A:=h
theorem ycu{A:Prop}(h:A:=by
 intro q;have hk:v'.ownBlock=some k:=hk;rcases f2 with f2|⟨j,f2,f3⟩
 · exact(List.pairwise_cons.1 hs.sps).1 s hs' k (f2▸hk) q
 · rw[f2]at hk
   have:=(hs0.slt hs' q).2;grind):A:=h
theorem yfo{A:Prop}(h:A:=by exact(hs.sls s (List.mem_cons_of_mem _ hs')).2.2 _ (List.mem_cons_self ..) (by rw[hk,q])):A:=h
namespace dev
open JT (Nd JS Fr Kn Ko)
open tal (Ty Kb L1)
open tab (Tb JZ LS)
open JX (KI EFr EUp)
def Fv.v(F:Fv)(pl:Pl)(b:Nat):List gg:=[.pointer (some ⟨pl.g,0,none⟩),.pointer (some ⟨pl.tg,0,none⟩),.pointer (some ⟨pl.lg,0,none⟩),.pointer (some ⟨pl.pg,0,none⟩),.pointer (some ⟨b,0,none⟩),.int .i64 F.next,.bool F.off]
section
variable {d d':TypeId→Bool}{w w' w0:ej}{base:Nat}
theorem gU(c:∀t,d t=true→d' t=true)(h:Dvc d base w w'):Dvc d' base w w':=⟨h.os,h.tape,h.output,h.size,fun k e f=>h.block k e fun b=>f ⟨b.1,fun g=>b.2 (ku c g)⟩⟩
theorem oV{b:Nat}(g:base≤b)(h:Dvc d b w w'):Dvc d base w w':=⟨h.os,h.tape,h.output,h.size,fun k c e=>h.block k c fun f=>e ⟨by omega,f.2⟩⟩
theorem oT{l:List En}(h:∀x∈l,x.ok):∀r∈ens l,r.length=19:=fun r b=>by
 obtain⟨x,c,rfl⟩:=List.mem_map.1 b;exact ax (h x c).1 _ _ _
end
section
variable {w w':ej}{pl:Pl}{m c:Nat}{D:Dv}
theorem Kk.tal2(h:Kk w pl m c D){Y:Ty}(b:Dim Y D.Y)(f:Kb w' pl.tg pl.tlb Y)(g:Kj (L1 pl.tg pl.tlb) w w'):Kk w' pl m c {D with Y:=Y}∧DFr pl.base w w':=by
 have i:=h.x.tal' f g;refine⟨⟨i.JT,i.tal,i.tab,(g.block _ (af h.pen) fun j=> ?_).trans h.pen,h.low,h.maps,⟨b.1.trans h.same.1,b.2.1.trans h.same.2.1,b.2.2.trans h.same.2.2⟩,h.KP⟩,DFr.Nl (gU (fun t f=>by unfold OZ at f;simp_all) (xg h.tal h.low.1 h.low.2.1 g))⟩;have q:=h.pen;rcases j with e|e
 · rw[e,h.tal.head]at q
   simp_all
 · rw[e,h.tal.rows]at q
   simp_all
end
abbrev Mv(pl:Pl)(base e b m c:Nat)(F:Fv)(v:gg)(B:ej→Prop)(f w:ej)(L:List Bk)(S:List Sl):Prop:=
 Ms Kx Kx base (fun w=>Kk w pl m c F.D) B f w ((e,F.v pl b, 88)::(b,[v], 149)::L) (⟨90,19,v,F.JX.length,(ens F.JX).flatten⟩::S)
abbrev Mw(pl:Pl)(base m c:Nat)(D:Dv)(B:ej→Prop)(b w:ej)(L:List Bk)(S:List Sl):Prop:=Ms Kx Kx base (fun w=>Kk w pl m c D) B b w L S
section
variable {w w' w0:ej}{pl:Pl}{base fg dg m c:Nat}{F E:Fv}{D D':Dv}{v:gg}{B:ej→Prop}{L P:List Bk}{S Q:List Sl}
theorem Mw.dv(b:Mw pl base m c D B w0 w L S)(e:base≤pl.base)(f:Kk w' pl m c D')(g:DFr pl.base w w'):Mw pl base m c D' B w0 w' L S:=
 b.dev (A':=fun w=>Kk w pl m c D') (oV e g.dvc) f (fun _ _ h a=>a.chg h)
theorem Mw.mid{x y:Bk}(b:Mw pl base m c D B w0 w (P++x::y::L) S):Mw pl base m c D B w0 w (x::y::(P++L)) S:=by
 refine b.perm ?_ (.refl _);exact(fo (a:=x) (l₁:=P) (l₂:=y::L)).trans ((fo (a:=y) (l₁:=P) (l₂:=L)).cons x)
theorem Mw.P8{x y:Bk}(b:Mw pl base m c D B w0 w (x::y::(P++L)) S):Mw pl base m c D B w0 w (P++x::y::L) S:=by
 refine b.perm ?_ (.refl _);exact((fo (a:=x) (l₁:=P) (l₂:=y::L)).trans ((fo (a:=y) (l₁:=P) (l₂:=L)).cons x)).symm
theorem Mw.LW{l:List En}{i j:Nat}(b:Mw pl base m c D B w0 w L S)(f:L[i]? =some (dg,[v], 149))(hj:S[j]? =some ⟨90,19,v,l.length,(ens l).flatten⟩)(g:∀e∈l,e.ok):KI w w0.heap.size dg l:=by
 refine⟨⟨v,b.blk f,b.sl hj,by simp[ens],oT g⟩,?_,g⟩;rcases(b.own _ (List.mem_of_getElem? f)).2.2.2 with h|h
 · exact absurd h (by show¬Kx 149 =true;decide)
 omega
theorem Mw.JX{l b:List En}(hs:Mw pl base m c D B w0 w ((dg,[v], 149)::L) (⟨90,19,v,l.length,(ens l).flatten⟩::S))(e:KI w' w0.heap.size dg b)(o:EUp dg w w'):∃v',Mw pl base m c D B w0 w' ((dg,[v'], 149)::L) (⟨90,19,v',b.length,(ens b).flatten⟩::S):=by
 obtain⟨v',f,h2⟩:=e.head;have g:=hs.blk (i:=0) rfl;obtain⟨f1,f2⟩:=o v v' g f;have p:=e.low;have n:=hs.sls _ (jt ..);have t:=hs.le;have hs0:Mw pl base m c D B w0 w L S:=hs.less (eX ..) (eX ..)
 have hs1:Mw pl base m c D B w0 w' L S:=hs0.keep f1 (fun x hx q=>by
  rcases q with q|q
  · exact(ed.1 hs.srt).1 x hx q.symm
  grind) (fun s hs' k hk q=>by
  rcases q with q|q
  · exact yfo
  · exact(ed.1 hs.sps).1 s hs' k q hk) (fun k hk q=>by
  rcases q with q|q
  · omega
  · obtain⟨cur,-,u⟩:=br n.1 q
    omega) (hs.a.chg ⟨f1.os,f1.tape,f1.output,f1.size,fun k hk r=>f1.block k hk fun q=>r (by
  rcases q with q|q
  · rw[q];exact gQ g rfl
  · obtain⟨cur,q1,-⟩:=br n.1 q
    exact gQ q1 rfl)⟩) hs0.sa
 refine⟨v',hs1.sub,fun x hx=> ?_,ed.2 ⟨(ed.1 hs.srt).1,hs1.srt⟩,fun s hs'=> ?_,ed.2 ⟨fun s hs' k hk=> ?_,hs1.sps⟩,hs1.fr,hs1.le,hs1.sa,hs1.sb,hs1.a,hs1.b⟩
 · rcases kd.1 hx with rfl|hx
   · exact⟨f,by omega,rfl,.inr p⟩
   · exact hs1.own x hx
 · rcases kd.1 hs' with rfl|hs'
   · refine⟨h2.1,rfl,fun x hx q=> ?_⟩
     exact yb3
   · exact ycg
 · exact ycu
end
open JT (Nd Blk)
open tal (Ty Sb)
open tab (Tb At6)
structure Fw (F:Fv) (k r:Nat):Prop where
 mkk:Mk F.D
 pw:Pw F.D
 log:F.D.T.logical≤200
 dk:∀e∈F.JX,e.ok∧wfI e.l
 len:F.JX.length≤7
 nx:0≤F.next∧F.next+(k:Int)≤1000000000000000
 tot:tot F.D.N+1000000000*k+r≤100000000000000
section
variable {F:Fv}{k r r' n:Nat}{E:Dv}{e:En}
theorem Fw.mono(h:Fw F k r)(b:r'≤r):Fw F k r':={h with tot:=by have:=h.tot;omega}
theorem Fw.cmd(h:Fw F (k+1) r):Fw F k (1000000000+r):={h with
 nx:=⟨h.nx.1,by have:=h.nx.2;omega⟩
 tot:=by have:=h.tot;omega}
theorem Fw.ref(h:Fw F k r):Fw F.ref k r:=⟨h.mkk,h.pw,h.log,h.dk,h.len,h.nx,h.tot⟩
theorem Fw.told(h:Fw F k r)(x:Int):Fw (F.told x) k r:=⟨h.mkk,h.pw,h.log,h.dk,h.len,h.nx,h.tot⟩
theorem Fw.dv(h:Fw F k r)(c:Mk E)(f:Pw E)(b:Dl F.D E n)(g:r'+n≤r):Fw {F with D:=E} k r' where
 mkk:=c
 pw:=f
 log:=by show E.T.logical≤200;rw[b.t];exact h.log
 dk:=h.dk
 len:=h.len
 nx:=h.nx
 tot:=by
  have:=h.tot;have:=b.n.tot;grind
theorem wA{l:List En}{q:Nat}(h:l≠ []→1≤q):(MN l (l.take q)).length≤l.length-1:=by
 cases l with
 |nil=>simp[MN]
 |cons a t=>
  have b:=h (by simp);obtain⟨q,rfl⟩:∃p,q=p+1:=⟨q-1,by omega⟩;unfold MN;grind
theorem Fw.dn(h:Fw F k r)(m:List En):Fw {F with JX:=MN F.JX m} k r:={h with
 dk:=fun e b=>h.dk e (jI.1 b).1
 len:=by
  show(MN F.JX m).length≤7;have:=List.length_filter_le (fun x=> !(m.any fun e=>e.l==x.l&&e.s==x.s)) F.JX;have:=h.len;unfold MN;omega}
theorem Fw.writes(h:Fw F k (r+20000000))(p:Oq F.D≤6000000)(f:F.D.room.2=0→∃q:Nat,(F.D.room.1.Kf F.JX).2.1=(q:Int)∧q≤F.JX.length∧((F.D.room.1.Kf F.JX).2.2=0→F.JX≠ []→1≤q)):
 Fw F.writes.1 k r∧(F.writes.2=0→F.writes.1.JX.length≤F.JX.length-1):=by
 have g:=iB F.D;have i:=iA F.D.room.1 F.JX;have b:Fw {F with D:=F.D.room.1} k (r+1600):=h.dv (eU h.mkk) (eR h.pw) g (by omega);unfold Fv.writes;dsimp only;by_cases c:F.D.room.2≠0
 · rw[if_pos c]
   exact⟨(b.mono (by omega)).told _,fun q=>absurd q c⟩
 · rw[if_neg c]
   obtain⟨q,j,t,l⟩:=f (Classical.byContradiction c);have m:Fw {F with D:=(F.D.room.1.Kf F.JX).1} k r:=b.dv (dx b.mkk _) (dw b.pw _) i (by omega);refine⟨(m.dn _).told _,fun o=> ?_⟩;show(MN F.JX (F.JX.take (F.D.room.1.Kf F.JX).2.1.toNat)).length≤F.JX.length-1;rw[j,Int.toNat_natCast];exact wA (l o)
theorem FD(l:List En)(e:En):(Pg l e).length≤l.length+1:=by
 unfold Pg;grind
theorem Fw.wait(h:Fw F k r)(c:e.ok∧wfI e.l)(g:F.JX.length≤6)(f:F.next+1+(k:Int)≤1000000000000000):Fw (F.wait e) k r where
 mkk:=h.mkk
 pw:=h.pw
 log:=h.log
 dk x b:=by
  have b:x∈Pg F.JX {e with s:=F.next}:=b;unfold Pg at b;rcases List.mem_append.1 b with q|q
  · exact h.dk x (jI.1 q).1
  · rw[List.mem_singleton]at q
    subst q;exact c
 len:=by
  have:=FD F.JX {e with s:=F.next};show(Pg F.JX {e with s:=F.next}).length≤7;omega
 nx:=⟨by have:=h.nx.1;show 0≤F.next+1;omega,f⟩
 tot:=h.tot
end
structure Fh (pl:Pl) (base m c:Nat):Prop where
 b:base≤pl.base
 m:m≤100000
 c:c≤100000000000000
section
variable {w w':ej}{pl:Pl}{fg dg m c k r:Nat}{F:Fv}{D E:Dv}
theorem vj(h:Kk w pl m c D)(b:D.T.logical≤200):Oq D≤6000000:=jW b h.JT.ok.geo.2.1 (by have:=h.same.2.1;have:=h.JT.ok.geo;omega)
end
end dev
theorem ycn{A:Prop}(h:A:=by
 clear ho hN;go_enter func48, ntmps48;go_wp2_with fail;refine HP.out.mono ?_;rintro e w1 ⟨rfl,rfl⟩;clear HP;go_wp2_with fail;go_ret;rw[HR.out.1,HR.out.2];exact⟨rfl,hs⟩):A:=h
namespace dev
open JT (Nd JS)
open JX (KI)
theorem xK(d b p:Int):0≤O8 d b p:=by
 unfold O8;split
 · rename_i h
   obtain⟨c,e,f,g⟩:=Co h;omega
 · omega
theorem oG(x:Addr)(w:ej):(binOp .eql 26 (.pointer (some x)) (.pointer none)).run prog w=.ok (.bool false) w:=run_eql_pointer_nil w 26 (some x) (by kernel_rfl: prog.underlying 26 =some (.pointer (prog.pointee 26)))
section
variable {w w' w0:ej}{pl:Pl}{base fg dg m c:Nat}{F:Fv}{v:gg}{B:ej→Prop}{L:List Bk}{S:List Sl}
theorem eE(hs:Mv pl base fg dg m c F v B w0 w L S):js prog 48 #[fg] w fun e w'=>e=.returned F.KR∧Mv pl base fg dg m c F.ref v B w0 w' L S:=by
 have c0:=hs.cell 0 0 rfl (v:=.pointer (some ⟨pl.g,0,none⟩)) rfl;have c6:=hs.cell 0 6 rfl (v:=.bool F.off) rfl;have ff:=hs.froz 0 6 rfl;have HP:=qZ (JT.Ja hs.a.JT);have b:=oG;cases ho:F.off with
 |true=>
  have HR:=qZ (show F.KR=9∧F.ref={F with off:=true} by unfold Fv.KR Fv.ref;rw[ho];exact⟨rfl,rfl⟩);rw[ho]at c6;replace hs:=hs.Qw 6 (.bool true);have c7:=hs.cell 0 6 rfl (v:=.bool true) rfl;clear ho HP;go_enter func48, ntmps48;go_wp2_with fail;go_ret;rw[HR.out.1,HR.out.2];exact⟨rfl,hs⟩
 |false=>
  rw[ho]at c6;cases hN:F.D.N.off with
  |true=>
   have HR:=qZ (show F.KR=9∧F.ref={F with off:=true} by unfold Fv.KR Fv.ref;rw[ho,hN];exact⟨rfl,rfl⟩);rw[hN]at HP;replace hs:=hs.Qw 6 (.bool true);have c7:=hs.cell 0 6 rfl (v:=.bool true) rfl;exact ycn
  |false=>
   have HR:=qZ (show F.KR=0∧F.ref={F with off:=false} by unfold Fv.KR Fv.ref;rw[ho,hN];exact⟨rfl,rfl⟩);rw[hN]at HP;replace hs:=hs.Qw 6 (.bool false);have c7:=hs.cell 0 6 rfl (v:=.bool false) rfl;exact ycn
theorem qL(f:Mv pl base fg dg m c F v B w0 w L S)(x:Int):js prog 77 #[fg,x] w fun e w'=>e=.returned x∧Mv pl base fg dg m c (F.told x) v B w0 w' L S:=by
 have c6:=f.cell 0 6 rfl (v:=.bool F.off) rfl;have ff:=f.froz 0 6 rfl;cases b:F.off with
 |true=>
  have g:=qZ (show F.told x={F with off:=true} by unfold Fv.told;rw[b];rfl);rw[b]at c6;clear b;go_enter func77, ntmps77;go_wp2_with fail;go_ret;rw[g.out];exact⟨rfl,f.Qw 6 (.bool true)⟩
 |false=>
  have g:=qZ (show F.told x={F with off:=(x==9)} by unfold Fv.told;rw[b];rfl);rw[b]at c6;clear b;go_enter func77, ntmps77;go_wp2_with fail;go_ret;rw[g.out];exact⟨rfl,f.Qw 6 (.bool (x==9))⟩
theorem iz(h:Kk w pl m c F.D)(c0:w.cell? ⟨fg,0,none⟩=some (.pointer (some ⟨pl.g,0,none⟩))):js prog 21 #[fg] w fun e w'=>e=.returned (.int .i64 (F.logical:Int))∧Below w.heap.size w w':=by
 have n:=oG;have g:=qZ (eI h.JT);have i:=qZ (fun W=>gP (F.D.N.D:Int) (F.D.N.B:Int) (F.D.N.P:Int) W);have j:=qZ (show((O8 (F.D.N.D:Int) (F.D.N.B:Int) (F.D.N.P:Int)).toNat:Int)=O8 (F.D.N.D:Int) (F.D.N.B:Int) (F.D.N.P:Int)from Int.toNat_of_nonneg (xK _ _ _));clear h;go_enter func21, ntmps21;go_wp2_with fail;refine g.out.mono ?_;rintro e k ⟨rfl,b⟩;go_wp2_with fail;refine(i.out k).mono ?_;rintro e o ⟨rfl,f⟩;have l:=qZ (b.trans (f.mono b.size));clear b f;go_wp2_with fail;go_ret;exact⟨by unfold Fv.logical;rw[j.out];rfl,l.out⟩
theorem vK(b:Mv pl base fg dg m c F v B w0 w L S):js prog 21 #[fg] w fun e w'=>e=.returned (.int .i64 (F.logical:Int))∧Below w.heap.size w w':=
 iz b.a (b.cell 0 0 rfl (v:=.pointer (some ⟨pl.g,0,none⟩)) rfl)
end
end dev
theorem ycf{A:Prop}(h:A:=by
 have q4:w'.cell? ⟨fg,4,none⟩=some (.pointer (some ⟨dg,0,none⟩)):=by
  cases e:L 9 with
  |false=>exact(hJ.out.a e).cell 0 4 rfl rfl
  |true=>exact(hJ.out.b e).cell 0 4 rfl rfl
 exact cH):A:=h
namespace dev
open JT (Nd JS)
open JX (KI EUp)
structure StV (P1:ej→Prop) (P2:gg→ej→Prop) (i j o:Nat) (x:gg×gg) (L:Nat→Bool) (w:ej):Prop where
 a:L i=false→P1 w
 b:L i=true→P2 x.1 w
 b9:L i=true→L j=true
 d:L o=true→L i=true∧x.2=x.1
theorem StV.JW{P1:ej→Prop}{P2:gg→ej→Prop}{i j o k:Nat}{x:gg×gg}{L:Nat→Bool}{w:ej}(h:StV P1 P2 i j o x L w)(e:Go.Proofs.YtlkpfnjdbgeifaaGreat.JW L k i=L i)(e2:Go.Proofs.YtlkpfnjdbgeifaaGreat.JW L k o=L o):StV P1 P2 i j o x (Go.Proofs.YtlkpfnjdbgeifaaGreat.JW L k) w:=⟨fun q=>h.a (by rw[←e];exact q),fun q=>h.b (by rw[←e];exact q),fun q=>bz (h.b9 (by rw[←e];exact q)),fun q=>by rw[e];exact h.d (by rw[←e2];exact q)⟩
theorem Ek{t k r:Nat}(b:20000000≤r)(h:t+1000000000*k+r≤100000000000000):t+10000000≤100000000000000:=by omega
theorem sU{w:ej}{C k n:Nat}{A:Option Addr}{f:List (List gg)}(h:Rds w C A k n f){q:Nat}(B:q≤n):Rds w C A k q (f.take q):=by
 obtain⟨g,l,m⟩:=h;refine⟨by rw[List.length_take,g];omega,fun r p=>l r (iP p),fun D=> ?_⟩;obtain⟨b,o,e,t,z⟩:=m (by omega);refine⟨b,o,e,t,fun i r j u c hj=>z i r j u ?_ hj⟩;rw[List.getElem?_take]at c;split at c
 · exact c
 · cases c
section
variable {w w' w0:ej}{pl:Pl}{base fg dg m c k r:Nat}{F:Fv}{v:gg}{B:ej→Prop}{Lb:List Bk}{S:List Sl}
theorem pI(hs:Mv pl base fg dg m c F v B w0 w Lb S)(f:Fw F k (r+20000000))(T:Fh pl base m c):js prog 56 #[fg] w fun e w'=>e=.returned F.writes.2∧∃v',Mv pl base fg dg m c F.writes.1 v' B w0 w' Lb S∧Fw F.writes.1 k r∧(F.writes.2=0→F.writes.1.JX.length≤F.JX.length-1):=by
 have z:=qZ (show∀e∈F.JX,e.ok from fun e he=>(f.dk e he).1);have az:=qZ f.dk;have U:=qZ f.len;have Z:=qZ T;have ag:=f.tot;have ah:=qZ (fun aA (h:Kk aA pl m c F.D)=>gC h f.mkk f.pw f.log (Ek (Nat.le_add_left _ _) ag) T.c T.m)
 have ai:=qZ (show∀D1:Dv,D1=F.D.room.1→Mk D1∧Pw D1∧tot D1.N+1600≤100000000000000 from fun D1 e=>by
  have hd:=iB F.D;have h2:=hd.n.tot;have hC:=vj hs.a f.log;rw[e];exact⟨eU f.mkk,eR f.pw,by omega⟩)
 have aa:=qZ (fun hq=>Fw.writes (F:=F) (k:=k) (r:=r) f (vj hs.a f.log) hq);have ab:=qZ (show F.writes=if F.D.room.2≠0 then(Fv.told {F with D:=F.D.room.1} F.D.room.2,F.D.room.2)else(Fv.told {F with D:=(F.D.room.1.Kf F.JX).1,JX:=MN F.JX (F.JX.take (F.D.room.1.Kf F.JX).2.1.toNat)} (F.D.room.1.Kf F.JX).2.2,(F.D.room.1.Kf F.JX).2.2)from rfl);clear f T ag;go_enter func56, ntmps56;go_upto_region 1 with fail
 refine bm 16 (by kernel_rfl) (by kernel_rfl) ?_;intro wd H;replace hs:=hs.drew;rw[←H]at hs;clear H;simp only[hO,jd,hX,jg];repeat (first|(refine aq 0 hs rfl 25 (by first|rfl|(simp[ek];done)|(go_simp;done)) rfl rfl underlying25 rfl rfl ?_)|(refine aq 0 hs rfl 83 (by first|rfl|(simp[ek];done)|(go_simp;done)) rfl rfl underlying83 rfl rfl ?_)|(refine aq 0 hs rfl 84 (by first|rfl|(simp[ek];done)|(go_simp;done)) rfl rfl underlying84 rfl rfl ?_)|(refine aq 0 hs rfl 85 (by first|rfl|(simp[ek];done)|(go_simp;done)) rfl rfl underlying85 rfl rfl ?_)|(refine wpStill_step (fun K hK=> ?_);go_simp;refine hK _ ?_;clear hK K))
 refine jw ?_;go_wp2_with fail;refine(ah _ hs.a).mono ?_;rintro e w1 ⟨rfl,I,M⟩;replace hs:=Mw.dv hs Z.b I M;clear I M ah;by_cases h0:F.D.room.2=0
 · have N:=qZ (show F.writes=(Fv.told {F with D:=(F.D.room.1.Kf F.JX).1,JX:=MN F.JX (F.JX.take (F.D.room.1.Kf F.JX).2.1.toNat)} (F.D.room.1.Kf F.JX).2.2,(F.D.room.1.Kf F.JX).2.2) by rw[ab.out,if_neg (by rw[h0];simp)])
   have V:=qZ (fun hq=>aa fun _=>hq);rw[h0];clear h0 ab aa;go_upto_region 4 with fail
   refine dz (X:=gg×gg) (fun ux=> [(some 29,fg),(some 30,fg),(some 31,.pointer (some ⟨fg,4,none⟩)),(some 32,dg),(some 33,fg),(some 34,fg),(some 35,.pointer (some ⟨fg,4,none⟩)),(some 36,dg),(some 37,(F.JX.length:Int)),(some 38,ux.1),(some 4,ux.2)])
    (fun ux L w'=>StV (fun w3=>Mv pl base fg dg m c {F with D:=F.D.room.1} v B w0 w3 Lb S) (fun ux w3=>Mw pl base m c F.D.room.1 B w0 w3 ((fg,F.v pl dg, 88)::(dg,[v], 149)::Lb) (⟨90,19,ux,F.JX.length,(ens F.JX).flatten⟩::⟨90,19,v,F.JX.length,(ens F.JX).flatten⟩::S)) 9 8 10 ux L w') ⟨(kk,kk),fun L hL=>⟨fun _=>hs.drew,fun q=>absurd (hL 9) (by simp[q]),fun q=>absurd (hL 9) (by simp[q]),fun q=>absurd (hL 10) (by simp[q])⟩⟩ ?_ ?_
   · refine⟨rr,rr,rr,?_,rr,rr,rr,?_,?_,?_,?_,trivial⟩
     all_goals
      intro ux L w' hL hpre hJ a ha he;simp[hZ]at hpre
     · exact ycf
     · exact ycf
     · refine dM ?_
       intro K HK;refine(JX.rh (Mw.LW (w:=w') (i:=1) (j:=0) (hJ.out.a (by exact Bool.eq_false_iff.2 fun e=>absurd (hJ.out.b9 e) (by simp[hL]))) rfl rfl z)).mono ?_;rintro e aB ⟨rfl,rfl⟩;exact HK _ _ ⟨ux,_,rfl,rfl,hJ.out.JW rfl rfl⟩
     · refine dM ?_
       intro K HK;refine(JX.I0 (Mw.LW (i:=1) (j:=0) (hJ.out.a hL) rfl rfl z) (F.JX.length:Int) (Int.le_refl _) (by show F.JX.length≤1000000;have:=U.out;omega)).mono ?_;rintro e aB ⟨vv,rfl,ho,hb⟩;exact HK _ _ ⟨(vv,ux.2),_,rfl,rfl,⟨fun q=>absurd q (by simp[JW]),fun _=>Ms.got (hJ.out.a hL) hb ho.1 rfl,fun _=>by simp[JW,hpre],fun q=>absurd (hJ.out.d (by simpa[JW]using q)).1 (by simp[hL])⟩⟩
     · refine Wn ?_
       have aC:=aZ 9;have W:L 9=true:=by simp[hpre]
       exact cZ (.tmp 38) (.inr rfl) _ aC ⟨(ux.1,ux.1),_,rfl,rfl,⟨fun q=>(by rw[bz W]at q;cases q),fun _=>hJ.out.b W,fun _=>bz (hJ.out.b9 W),fun _=>⟨bz W,rfl⟩⟩⟩
   · intro ux L w' hL hJ
     have hs:=hJ.b (hL 9 (by decide));have ad:=(hJ.d (hL 10 (by decide))).2;clear hJ hL;obtain⟨ua,ub⟩:=ux;have ad:ub=ua:=ad;subst ad;have hs:Mw pl base m c F.D.room.1 B w0 w' ((fg,F.v pl dg, 88)::(dg,[v], 149)::Lb) (⟨90,19,ub,F.JX.length,(ens F.JX).flatten⟩::⟨90,19,v,F.JX.length,(ens F.JX).flatten⟩::S):=hs;simp only[eD,fj];go_simp;obtain⟨Au,O,hu,aj,aI⟩:=hs.slice 0 rfl;have hu:ub=.slice Au F.JX.length O:=hu;have aj:F.JX.length≤O:=aj;subst hu;obtain⟨ak,hn⟩:∃ak,ak=F.JX.length:=⟨_,rfl⟩;have aJ:=qZ hn;obtain⟨al,E,aD⟩:=ai _ rfl;obtain⟨an,n,R,ao,ar⟩:=kK hs.a al E F.JX;have aF:=qZ (V ⟨n,R,ao,ar⟩);have HQ:=qZ (show n≤F.JX.length from ao);have Y:=qZ (fm (cc:=O) hs.a F.JX az (hs.rdt 0 rfl (by rw[ens,kb]) (kC fun e he=>z e he) rfl) (by have:=U.out;omega) 200 _ an (by omega) Z.c E.n0 E.n1 E.op E.row);obtain⟨y,hy⟩:∃y,y=F.D.room.1.Kf F.JX:=⟨_,rfl⟩;rw[←hy]at R Y N;rw[R,Int.toNat_natCast]at N;rw[R]at Y;clear V al E aD an R ar hy ai hn;go_wp2_with (refine ma ?_;try (clear hs;intro w hs));refine Y.mono ?_;rintro e w5 ⟨rfl,I,M⟩;replace hs:=Mw.dv hs Z.b I M;clear I M Y;have aK:n≤O:=by have:=HQ.out;omega
     have aG:=HQ.out;go_upto_region 6 with fail
     refine bm 7 (by kernel_rfl) (by kernel_rfl) ?_;intro wd H;replace hs:=hs.drew;rw[←H]at hs;clear H;simp only[hO,jd,hX,jg];repeat (first|(refine aq 0 hs rfl 86 (by first|rfl|(simp[ek];done)|(go_simp;done)) rfl rfl underlying86 rfl rfl ?_)|(refine wpStill_step (fun K hK=> ?_);go_simp;refine hK _ ?_;clear hK K))
     refine jw ?_;go_wp2_with fail;have au:=Mw.LW (i:=1) (j:=1) hs rfl rfl z;have aw:=hs.blk (i:=1) rfl;have ax:=ed.1 hs.sps;have ae:=sU (hs.rds 0 rfl (by rw[ens,kb]) (kC fun e he=>z e he)) aG;rw[show(ens F.JX).take n=ens (F.JX.take n) by unfold ens;rw[List.map_take]]at ae
     refine(JX.JK au ae (fun e he=>z e (iP he)) (by have:=U.out;omega) (by have:=U.out;omega) hs.size (fun v1 aH a ha=>by
      rw[←JX.mV aw aH];exact ax.1 _ (jt ..) a.block (by show Value.ownBlock (.slice Au F.JX.length O)=_;rw[ha];rfl))).mono ?_
     rintro e w6 ⟨⟨qq,rfl,-⟩,hd,l⟩;rw[show JX.MN F.JX (F.JX.take n)=MN F.JX (F.JX.take n)from rfl]at hd;obtain⟨v2,ay⟩:=Mw.JX (hs.PC.O1) hd l;replace hs:=ay.PC;clear au aw ax ae hd l ay;go_wp2_with fail;refine(qL (F:={F with D:=y.1,JX:=MN F.JX (F.JX.take n)}) hs y.2.2).mono ?_;rintro e w7 ⟨rfl,af⟩;go_wp2_with fail;go_ret;have l:=aF.out;rw[N.out]at l⊢;exact⟨rfl,v2,af,l.1,l.2⟩
 · have aL:(F.D.room.2 !=0)=true:=by simpa using h0
   have N:=qZ (show F.writes=(Fv.told {F with D:=F.D.room.1} F.D.room.2,F.D.room.2) by rw[ab.out,if_pos h0]);have V:=qZ (aa fun q=>absurd q h0);go_wp2_with fail;refine(qL (F:={F with D:=F.D.room.1}) hs F.D.room.2).mono ?_;rintro e w2 ⟨rfl,af⟩;go_wp2_with fail;go_ret;have l:=V.out;rw[N.out]at l⊢;exact⟨rfl,v,af,l.1,l.2⟩
end
end dev
theorem yah{A:Prop}(h:A:=by
 go_upto_region 12 with(refine ma ?_;try (clear hs;intro w hs))
 have HEl2:=qZ (show(En.v {e with s:=F1.next}).length=19 from ax HE.1.1 _ _ _);refine bm 5 (by kernel_rfl) (by kernel_rfl) ?_;intro wd hwd;replace hs:=hs.drew;rw[←hwd]at hs;clear hwd;simp only[List.take_succ_cons,List.take_zero,List.drop_succ_cons,List.drop_zero];repeat (first|(refine aq 1 hs rfl 86 (by first|rfl|(simp[Region.wanted];done)|(go_simp;done)) rfl rfl underlying86 rfl rfl ?_)|(refine cU 0 hs rfl 90 (by first|rfl|(simp[Region.wanted];done)|(go_simp;done)) rfl rfl underlying90 rfl aV HEl2 ?_)|(refine wpStill_step (fun K hK=> ?_);go_simp;refine hK _ ?_;clear hK K))
 refine wpStill_nil ?_;go_wp2_with fail;have hda:=Mw.LW (i:=2) (j:=0) hs rfl rfl HOk1;refine(JX.EG hda {e with s:=F1.next} HE.1 (by have:=HLn1.out;omega) hs.size).mono ?_;rintro e9 w9 ⟨rfl,hd,hf⟩;rw[show JX.Pg F1.JX {e with s:=F1.next}=Pg F1.JX {e with s:=F1.next}from rfl]at hd;obtain⟨v2,hs8⟩:=Mw.JX ((Mw.mid (P:=[(_,_,_)]) hs).PC) hd hf;replace hs:=hs8.PC.less (List.Sublist.cons_cons _ (List.Sublist.cons_cons _ (List.sublist_cons_self ..))) (.refl _);clear hda hd hf hs8;go_wp2_with fail;go_ret;rw[HR.out];first|exact⟨rfl,v2,hs,HFin⟩|exact⟨rfl,⟨v2,hs⟩,HFin⟩):A:=h
theorem yb8{A:Prop}(h:A:=by
 go_wp2_with fail;go_ret;rw[HR.out];first|exact⟨rfl,v,hs.drop 1,HFr⟩|exact⟨rfl,⟨v,hs.drop 1⟩,HFr⟩):A:=h
theorem ydt{A:Prop}(h:A:=by
 have q0:=hJ.out.cell 0 0 rfl (v:=.int .i64 e.l) rfl;exact cH):A:=h
theorem ye4{A:Prop}(h:A:=by
 rintro e w'' ⟨rfl,hb⟩;exact HK _ _ ⟨ux,_,rfl,rfl,hJ.out.below hb⟩):A:=h
namespace dev
open JT (Nd JS)
open JX (KI EUp)
theorem rY(F:Fv):F.writes.1.next=F.next:=by
 unfold Fv.writes;dsimp only;split<;>rfl
theorem Ew(D:Dv):0≤D.Ld∧D.Ld≤7:=by
 have b:=aI D.p.mask;have c:=aI (D.Y.mask D.KO:Int);unfold Dv.Ld JV;split<;>split<;>omega
section
variable {w w' w0:ej}{pl:Pl}{base fg dg m c k r:Nat}{F:Fv}{v:gg}{B:ej→Prop}{Lb:List Bk}{S:List Sl}
theorem Ef{e:En}(b:Fw F (k+1) 0)(f:e.ok∧wfI e.l)(g:F.D.Ld>(F.JX.length:Int)):Fw (F.ref.wait e) k 0:=by
 have h:=Ew F.D;have i:=b.nx.2;exact(b.cmd.mono (r':=0) (hG _)).ref.wait f (by show F.JX.length≤6;omega) (by show F.next+1+(k:Int)≤_;omega)
theorem AB{e:En}(b:Fw F (k+1) 0)(f:e.ok∧wfI e.l)(g:Fw F.ref.writes.1 k 0)(j:F.ref.writes.1.JX.length≤F.ref.JX.length-1):Fw (F.ref.writes.1.wait e) k 0:=by
 have l:=b.nx.2;have n:=b.len;have h:=rY F.ref;have i:F.ref.next=F.next:=rfl;exact g.wait f (by have:F.ref.JX.length=F.JX.length:=rfl;omega) (by rw[h,i];omega)
theorem sA(hs:Mv pl base fg dg m c F v B w0 w Lb S)(E:Fw F (k+1) 0)(W:Fh pl base m c)(e:En)(he:e.ok∧wfI e.l):js prog 54 #[fg,.agg e.v.toArray] w fun e' w'=>e'=.returned (.int .i64 (F.waits e).2)∧∃v',Mv pl base fg dg m c (F.waits e).1 v' B w0 w' Lb S∧Fw (F.waits e).1 k 0:=by
 have Y:=qZ (show∀e∈F.JX,e.ok from fun e he=>(E.dk e he).1);have af:=qZ E.len;have HH:=qZ W;have HE:=qZ he;have ag:=qZ (show e.v.length=19 from ax he.1.1 _ _ _);have R:=qZ E;have T:=qZ (show F.waits e=if F.KR≠0 then(F.ref,F.KR)else if e.l<0∨F.logical≤e.l then(F.ref,3)else if F.D.Ld≤F.JX.length then(if F.ref.writes.2≠0 then F.ref.writes else(F.ref.writes.1.wait e,0))else(F.ref.wait e,0)from rfl);have HFr:=qZ (show Fw F.ref k 0 from(E.cmd.mono (r':=0) (hG _)).ref);clear E W he;obtain⟨f,Z⟩:∃f,f=w.heap.size:=⟨_,rfl⟩;go_enter func54, ntmps54;go_upto_region 1 with(refine ma ?_;try (clear hs;intro w hs))
 simp only[←Z]at hs⊢;clear Z;go_wp2_with fail;refine(eE (Mw.mid (P:=[(_,_,_)]) hs)).mono ?_;rintro e1 w1 ⟨rfl,H⟩;replace hs:Mw pl base m c F.ref.D B w0 w1 ((f,e.v, 90)::(fg,Fv.v F.ref pl dg, 88)::(dg,[v], 149)::Lb) (⟨90,19,v,F.ref.JX.length,(ens F.ref.JX).flatten⟩::S):=Mw.P8 (P:=[(_,_,_)]) H;clear H;by_cases h0:F.KR=0
 · have M:=qZ (show F.waits e=if e.l<0∨F.logical≤e.l then(F.ref,3)else if F.D.Ld≤F.JX.length then(if F.ref.writes.2≠0 then F.ref.writes else(F.ref.writes.1.wait e,0))else(F.ref.wait e,0) by rw[T.out,if_neg (by rw[h0];simp)])
   rw[h0];clear h0 T;go_upto_region 4 with fail
   by_cases aa:e.l<0
   · have HR:=qZ (show F.waits e=(F.ref,3) by rw[M.out,if_pos (.inl aa)])
     refine dz (X:=Unit) (fun _=> [(some 12,f),(some 13,e.l),(some 14,.bool true),(some 15,.bool true),(some 16,kk),(some 17,kk),(some 18,kk),(some 19,kk),(some 20,kk),(some 21,.bool true)])
      (fun _ L w'=>Mw pl base m c F.ref.D B w0 w' ((f,e.v, 90)::(fg,Fv.v F.ref pl dg, 88)::(dg,[v], 149)::Lb) (⟨90,19,v,F.ref.JX.length,(ens F.ref.JX).flatten⟩::S)) ⟨(),fun L hL=>hs.drew⟩ ?_ ?_
     · refine⟨rr,?_,rr,rr,?_,?_,?_,?_,?_,rr,trivial⟩
       all_goals
        intro ux L w' hL hpre hJ a ha he;simp[hZ]at hpre
       · exact ydt
       · exact I3 ⟨ux,rfl,hJ.out⟩
       · exact I3 ⟨ux,rfl,hJ.out⟩
       · exact I3 ⟨ux,rfl,hJ.out⟩
       · exact I3 ⟨ux,rfl,hJ.out⟩
       · exact I3 ⟨ux,rfl,hJ.out⟩
     · intro ux L w' hL hJ
       have hs:Mw pl base m c F.ref.D B w0 w' ((f,e.v, 90)::(fg,Fv.v F.ref pl dg, 88)::(dg,[v], 149)::Lb) (⟨90,19,v,F.ref.JX.length,(ens F.ref.JX).flatten⟩::S):=hJ;clear hJ hL;simp only[eD,fj];go_simp;exact yb8
   · have HD:Kz (([(some 12,f),(some 13,e.l),(some 14,.bool false),(some 15,.bool false),(some 16,f),(some 17,e.l),(some 18,fg),(some 19,(F.ref.logical:Int)),(some 20,.bool (decide ((F.ref.logical:Int)≤e.l))),(some 21,.bool (decide ((F.ref.logical:Int)≤e.l)))]:List (Option Tmp×gg)).map (·.1))=true:=by kernel_rfl
     refine dz (X:=Unit) (fun _=> [(some 12,f),(some 13,e.l),(some 14,.bool false),(some 15,.bool false),(some 16,f),(some 17,e.l),(some 18,fg),(some 19,(F.ref.logical:Int)),(some 20,.bool (decide ((F.ref.logical:Int)≤e.l))),(some 21,.bool (decide ((F.ref.logical:Int)≤e.l)))])
      (fun _ L w'=>Mw pl base m c F.ref.D B w0 w' ((f,e.v, 90)::(fg,Fv.v F.ref pl dg, 88)::(dg,[v], 149)::Lb) (⟨90,19,v,F.ref.JX.length,(ens F.ref.JX).flatten⟩::S)) ⟨(),fun L hL=>hs.drew⟩ ?_ ?_
     · refine⟨rr,?_,rr,rr,rr,?_,rr,?_,rr,rr,trivial⟩
       all_goals
        intro ux L w' hL hpre hJ a ha he;simp[hZ]at hpre
       · exact ydt
       · exact ydt
       · refine dM ?_
         intro K HK;refine(vK (F:=F.ref) (Mw.mid (P:=[(_,_,_)]) hJ.out)).mono ?_;exact ye4
     · intro ux L w' hL hJ
       have hs:Mw pl base m c F.ref.D B w0 w' ((f,e.v, 90)::(fg,Fv.v F.ref pl dg, 88)::(dg,[v], 149)::Lb) (⟨90,19,v,F.ref.JX.length,(ens F.ref.JX).flatten⟩::S):=hJ;clear hJ hL HD;simp only[eD,fj];go_simp;rw[show F.ref.logical=F.logical from rfl];by_cases ab:(F.logical:Int)≤e.l
       · have HR:=qZ (show F.waits e=(F.ref,3) by rw[M.out,if_pos (.inr ab)])
         exact yb8
       · have N:=qZ (show F.waits e=if F.D.Ld≤F.JX.length then(if F.ref.writes.2≠0 then F.ref.writes else(F.ref.writes.1.wait e,0))else(F.ref.wait e,0) by rw[M.out,if_neg (fun q=>by rcases q with q|q<;>omega)])
         clear M;go_upto_region 6 with fail
         refine dz (X:=Unit) (fun _=> [(some 22,fg),(some 23,fg),(some 24,.pointer (some ⟨fg,4,none⟩)),(some 25,dg),(some 26,(F.ref.JX.length:Int)),(some 27,fg),(some 28,fg),(some 29,.pointer (some ⟨fg,3,none⟩)),(some 30,pl.pg),(some 31,F.ref.D.Ld),(some 32,.bool (decide (F.ref.D.Ld≤(F.ref.JX.length:Int))))])
          (fun _ L w'=>Mw pl base m c F.ref.D B w0 w' ((f,e.v, 90)::(fg,Fv.v F.ref pl dg, 88)::(dg,[v], 149)::Lb) (⟨90,19,v,F.ref.JX.length,(ens F.ref.JX).flatten⟩::S)) ⟨(),fun L hL=>hs.drew⟩ ?_ ?_
         · refine⟨rr,rr,rr,?_,?_,rr,rr,rr,?_,?_,rr,trivial⟩
           all_goals
            intro ux L w' hL hpre hJ a ha he;simp[hZ]at hpre
           · have q4:=hJ.out.cell 1 4 rfl (v:=.pointer (some ⟨dg,0,none⟩)) rfl
             exact cH
           · refine dM ?_
             intro K HK;refine(JX.rh (Mw.LW (i:=2) (j:=0) hJ.out rfl rfl Y)).mono ?_;rintro e w'' ⟨rfl,rfl⟩;exact HK _ _ ⟨ux,_,rfl,rfl,hJ.out⟩
           · have q3:=hJ.out.cell 1 3 rfl (v:=.pointer (some ⟨pl.pg,0,none⟩)) rfl
             exact cH
           · refine dM ?_
             intro K HK;refine(pO hJ.out.a).mono ?_;exact ye4
         · intro ux L w' hL hJ
           have hs:Mw pl base m c F.ref.D B w0 w' ((f,e.v, 90)::(fg,Fv.v F.ref pl dg, 88)::(dg,[v], 149)::Lb) (⟨90,19,v,F.ref.JX.length,(ens F.ref.JX).flatten⟩::S):=hJ;clear hJ hL;simp only[eD,fj];go_simp;clear aa ab;by_cases l:F.ref.D.Ld≤(F.ref.JX.length:Int)
           · have U:=qZ (show F.waits e=if F.ref.writes.2≠0 then F.ref.writes else(F.ref.writes.1.wait e,0) by rw[N.out,if_pos (show F.D.Ld≤(F.JX.length:Int)from l)])
             rw[decide_eq_true l];clear N l;go_wp2_with fail;refine(pI (F:=F.ref) (k:=k) (r:=0) (Mw.mid (P:=[(_,_,_)]) hs) ((R.cmd.mono (by decide)).ref) HH).mono ?_;rintro e3 w3 ⟨rfl,O,H,ad,ae⟩;replace hs:Mw pl base m c F.ref.writes.1.D B w0 w3 ((f,e.v, 90)::(fg,Fv.v F.ref.writes.1 pl dg, 88)::(dg,[O], 149)::Lb) (⟨90,19,O,F.ref.writes.1.JX.length,(ens F.ref.writes.1.JX).flatten⟩::S):=Mw.P8 (P:=[(_,_,_)]) H;have n:=qZ ad;clear H ad;by_cases z:F.ref.writes.2=0
             · have HR:=qZ (show F.waits e=(F.ref.writes.1.wait e,0) by rw[U.out,if_neg (by rw[z];simp)])
               have HFin:=qZ (AB R HE n (ae z));have HOk1:=qZ (show∀e∈F.ref.writes.1.JX,e.ok from fun e he=>(n.dk e he).1);have HLn1:=qZ n.len;have V:=n.out.nx;obtain⟨F1,I⟩:∃F1,F1=F.ref.writes.1:=⟨_,rfl⟩;rw[z];rw[←I]at hs HR HFin HOk1 HLn1 V;clear z ae U I n;exact yah
             · have ah:(F.ref.writes.2 !=0)=true:=by simpa using z
               have HR:=qZ (show F.waits e=F.ref.writes by rw[U.out,if_pos z]);go_wp2_with fail;go_ret;rw[HR.out];first|exact⟨rfl,O,hs.drop 1,n⟩|exact⟨rfl,⟨O,hs.drop 1⟩,n⟩
           · have HR:=qZ (show F.waits e=(F.ref.wait e,0) by rw[N.out,if_neg (show¬F.D.Ld≤(F.JX.length:Int)from l)])
             have HFin:=qZ (Ef R HE (show F.D.Ld>(F.JX.length:Int)from Int.not_le.1 l));have HOk1:=qZ (show∀e∈F.ref.JX,e.ok from Y);have HLn1:=qZ (show F.ref.JX.length≤7 from af);have V:=HFr.out.nx;obtain⟨F1,I⟩:∃F1,F1=F.ref:=⟨_,rfl⟩;rw[decide_eq_false l];rw[←I]at hs HR HFin HOk1 HLn1 V;clear l N I HFr;exact yah
 · have ai:(F.KR !=0)=true:=by simpa using h0
   have HR:=qZ (show F.waits e=(F.ref,F.KR) by rw[T.out,if_pos h0]);exact yb8
end
end dev
theorem ydx{A:Prop}(h:A:=by
 go_wp2_with fail;go_ret;rw[HR.out];first|exact⟨rfl,v,hs,HF0.mono (Nat.zero_le _)⟩|exact⟨rfl,⟨v,hs⟩,HF0.mono (Nat.zero_le _)⟩):A:=h
namespace dev
open JT (Nd JS)
open tal (Ty Kb L1)
open JX (KI EUp)
open pick (cO)
theorem Gv{d:List Nat}(h:d.length=16)(l:Int): prog.built 90 [(0,.int .i64 l),(2,.int .i64 1),(3,.agg (An .u8 d).toArray)]=some (En.v ⟨l,0,1,d⟩).toArray:=by
 exact I7
theorem Gz(l:Int): prog.built 90 [(0,.int .i64 l),(2,.int .i64 2)]=some (En.v ⟨l,0,2,an⟩).toArray:=by kernel_rfl
section
variable {w w' w0:ej}{pl:Pl}{base fg dg m c k r:Nat}{F:Fv}{v:gg}{B:ej→Prop}{Lb:List Bk}{S:List Sl}
theorem nl(hs:Mv pl base fg dg m c F v B w0 w Lb S)(f:Fw F (k+1) 0)(g:Fh pl base m c)(j:Int)(hj:wfI j){d:List Nat}(b:d.length=16∧∀y∈d,y<256):js prog 27 #[fg,j,.agg (An .u8 d).toArray] w fun e w'=>e=.returned (.int .i64 (F.write j d).2)∧∃l,Mv pl base fg dg m c (F.write j d).1 l B w0 w' Lb S∧Fw (F.write j d).1 k 0:=by
 have n:=qZ f;have o:=qZ g;have p:=qZ hj;have i:=qZ b;have D:=qZ (show(An .u8 d).length=16 by rw[ah];exact b.1);clear f g hj b;go_enter func27, ntmps27;go_wp2_with (first|(refine ma ?_;try (clear hs;intro w hs))|(refine ac rfl 90 _ rfl _ rfl _ (Gv i.1 j) ?_));refine(sA (Mw.mid (P:=[(_,_,_)]) hs) n o ⟨j,0,1,d⟩ ⟨i,p⟩).mono ?_;rintro e E ⟨rfl,q,t,z⟩;go_wp2_with fail;go_ret;exact⟨rfl,q,t.less (List.Sublist.cons_cons _ (List.Sublist.cons_cons _ (eX ..))) (.refl _),z⟩
theorem Ej(g:Mv pl base fg dg m c F v B w0 w Lb S)(b:Fw F (k+1) 0)(f:Fh pl base m c)(j:Int)(hj:wfI j):js prog 43 #[fg,j] w fun e w'=>e=.returned (.int .i64 (F.trim j).2)∧∃i,Mv pl base fg dg m c (F.trim j).1 i B w0 w' Lb S∧Fw (F.trim j).1 k 0:=by
 have l:=qZ b;have n:=qZ f;have o:=qZ hj;clear b f hj;go_enter func43, ntmps43;go_wp2_with (first|(refine ac rfl 90 _ rfl _ rfl _ (Gz j) ?_));refine(sA g l n ⟨j,0,2,an⟩ ⟨aM,o⟩).mono ?_;rintro e u ⟨rfl,p,q,t⟩;go_wp2_with fail;go_ret;exact⟨rfl,p,q,t⟩
theorem vU(j:Nat){G:Fv}(h:G.JX=[]):G.NU j=(G,0):=by
 cases j with
 |zero=>rfl
 |succ j=>show(if G.JX=[]then(G,0)else _)=_;rw[if_pos h]
theorem ue(j:Nat){G:Fv}(h:G.JX≠ []):G.NU (j+1)=if G.writes.2≠0 then G.writes else Fv.NU j G.writes.1:=by
 show(if G.JX=[]then(G,0)else _)=_;rw[if_neg h]
theorem oL(hs:Mv pl base fg dg m c F v B w0 w Lb S)(p:Fw F (k+1) 0)(L:Fh pl base m c):js prog 28 #[fg] w fun e w'=>e=.returned F.flush.2∧∃q,Mv pl base fg dg m c (F.flush).1 q B w0 w' Lb S∧Fw (F.flush).1 k 0:=by
 have HH:=qZ L;have t:=qZ (show F.flush=if F.KR≠0 then(F.ref,F.KR)else F.ref.NU F.JX.length from rfl);have HF0:=qZ (p.cmd.ref);have aa:=qZ p.len;clear p L;go_enter func28, ntmps28;go_wp2_with fail;refine(eE hs).mono ?_;rintro e1 w1 ⟨rfl,M⟩;replace hs:=M;clear M;by_cases l:F.KR=0
 · have ab:=qZ (show F.flush=F.ref.NU F.JX.length by rw[t.out,if_neg (by rw[l];simp)])
   rw[l];have n:∃g:ej→Nat→Prop,g=fun(wr:ej) (j:Nat)=>∃(G:Fv) (q:gg),F.flush=G.NU j∧G.JX.length≤j∧Fw G k (20000000*j)∧Mv pl base fg dg m c G q B w0 wr Lb S:=⟨_,rfl⟩
   obtain⟨g,n⟩:=n;obtain⟨N,O,P⟩:=tQ g;have Q:=qZ n
   have R:g w1 F.JX.length:=by
    rw[n];exact⟨F.ref,v,ab,Nat.le_refl _,HF0.mono (by have:=aa.out;omega),hs⟩
   have ad:=qZ O;have ae:=qZ P;have T:=qZ R;have c0:=hs.cell 0 4 rfl (v:=.pointer (some ⟨dg,0,none⟩)) rfl;clear l t n R O P;go_wp2_with fail;clear c0;go_loopw [] (fun wr=>∃j,g wr j) (fun wr=>N wr)
   case atStart=>exact⟨_,T⟩
   case round=>
    clear hs T;have z:=ad.out wr hrel;clear hrel;obtain⟨j,hj⟩:∃j,N wr=j:=⟨_,rfl⟩;rw[hj]at z;rw[Q.out]at z;obtain⟨G,U,V,aj,D,hs⟩:=z;have HJ:=qZ hj;have W:=qZ V;have E:=qZ D;have X:=qZ (show∀e∈G.JX,e.ok from fun e b=>(D.dk e b).1);clear hj V D;by_cases b:G.JX=[]
    · have HR:=qZ (show F.flush=(G,0) by rw[W.out,vU _ b])
      have af:=qZ (show G.JX.length=0 by rw[b];rfl);clear b;go_wp2_with (refine ma ?_;try (clear hs;intro w hs));refine(JX.rh (Mw.LW (i:=1) (j:=0) hs rfl rfl X)).mono ?_;rintro e2 w2 ⟨rfl,rfl⟩;rw[af.out];go_wp2_with fail;go_ret;rw[HR.out];first|exact⟨rfl,U,hs,E.mono (hG _)⟩|exact⟨rfl,⟨U,hs⟩,E.mono (hG _)⟩
    · obtain⟨f,Y⟩:∃f,j=f+1:=⟨j-1,by have:=jm.2 b;omega⟩
      have Z:=qZ (show F.flush=if G.writes.2≠0 then G.writes else Fv.NU f G.writes.1 by rw[W.out,Y,ue _ b]);have ag:(0:Int)<(G.JX.length:Int):=by have:=jm.2 b;omega
      have ak:=qZ ag;go_wp2_with (refine ma ?_;try (clear hs;intro w hs));refine(JX.rh (Mw.LW (i:=1) (j:=0) hs rfl rfl X)).mono ?_;rintro e2 w2 ⟨rfl,rfl⟩;go_wp2_with fail;refine(pI (k:=k) (r:=20000000*f) hs (E.mono (by omega)) HH).mono ?_;rintro e3 w3 ⟨rfl,H,I,J,ah⟩;by_cases o:G.writes.2=0
      · have HP:=qZ (show g w3 f by
         rw[Q.out];exact⟨G.writes.1,H,by rw[Z.out,if_neg (by rw[o];simp)],by have:=ah o;omega,J,I⟩)
        have ai:=qZ Y;rw[o];go_wp2_with fail;go_roundw
        case rel=>exact⟨f,HP⟩
        case measure=>have:=ae.out w3 f HP;have:=HJ.out;have:=ai.out;omega
      · have al:(G.writes.2 !=0)=true:=by simpa using o
        have HR:=qZ (show F.flush=G.writes by rw[Z.out,if_pos o]);go_wp2_with fail;go_ret;rw[HR.out];first|exact⟨rfl,H,I,J.mono (hG _)⟩|exact⟨rfl,⟨H,I⟩,J.mono (hG _)⟩
 · have an:(F.KR !=0)=true:=by simpa using l
   have HR:=qZ (show F.flush=(F.ref,F.KR) by rw[t.out,if_pos l]);exact ydx
theorem Eo(hs:Mv pl base fg dg m c F v B w0 w Lb S)(f:Fw F (k+1) 0)(j:Fh pl base m c):js prog 39 #[fg] w fun e w'=>e=.returned F.tick.2∧∃G,Mv pl base fg dg m c (F.tick).1 G B w0 w' Lb S∧Fw (F.tick).1 k 0:=by
 have H:=qZ j;have l:=qZ (show F.tick=if F.KR≠0 then(F.ref,F.KR)else(Fv.told {F.ref with D:=(F.D.step 4).1} (F.D.step 4).2.2,(F.D.step 4).2.2)from rfl);have HF0:=qZ (f.cmd.ref);have I:=f.cmd.tot;have M:=qZ (fun W (h:Kk W pl m c F.D)=>sJ h f.mkk f.pw f.log (by omega) j.c j.m 4 (by decide))
 have u:=qZ (show Fw {F.ref with D:=(F.D.step 4).1} k 0 by
  have hd:=FE F.D 4;have R:=vj hs.a f.log;have T:=f.log;exact(f.cmd.ref).dv (xD f.mkk 4) (xr f.pw 4) hd (by omega))
 clear f j I;go_enter func39, ntmps39;go_wp2_with fail;refine(eE hs).mono ?_;rintro e1 U ⟨rfl,z⟩;replace hs:=z;clear z;by_cases h0:F.KR=0
 · have HR:=qZ (show F.tick=(Fv.told {F.ref with D:=(F.D.step 4).1} (F.D.step 4).2.2,(F.D.step 4).2.2) by rw[l.out,if_neg (by rw[h0];simp)])
   rw[h0];clear h0 l;go_upto_region 4 with fail
   refine dz (X:=Unit) (fun _=> [(some 12,fg),(some 13,fg),(some 14,fg),(some 15,pl.g),(some 16,fg),(some 17,fg),(some 18,.pointer (some ⟨fg,1,none⟩)),(some 19,pl.tg),(some 20,fg),(some 21,fg),(some 22,.pointer (some ⟨fg,2,none⟩)),(some 23,pl.lg),(some 24,fg),(some 25,fg),(some 26,.pointer (some ⟨fg,3,none⟩)),(some 27,pl.pg),(some 28,.tuple #[.int .i64 (F.D.step 4).2.1,.int .i64 (F.D.step 4).2.2]),(some 11,.tuple #[.int .i64 (F.D.step 4).2.1,.int .i64 (F.D.step 4).2.2]),(some 29,.int .i64 (F.D.step 4).2.1),(some 30,.int .i64 (F.D.step 4).2.2),(some 4,.int .i64 (F.D.step 4).2.1),(some 5,.int .i64 (F.D.step 4).2.2)])
    (fun _ L w'=>StJ (fun n=>Mv pl base fg dg m c F.ref v B w0 n Lb S) (fun n=>Mv pl base fg dg m c {F.ref with D:=(F.D.step 4).1} v B w0 n Lb S) 16 L w') ⟨(),fun L hL=>⟨fun _=>hs.drew,fun q=>absurd (hL 16) (by simp[q])⟩⟩ ?_ ?_
   · refine⟨rr,rr,rr,?_,rr,rr,rr,?_,rr,rr,rr,?_,rr,rr,rr,?_,?_,rr,rr,rr,rr,rr,trivial⟩
     all_goals
      intro ux L w' hL hpre hJ a ha he;simp[hZ]at hpre
     · have V:w'.cell? ⟨fg,0,none⟩=some (.pointer (some ⟨pl.g,0,none⟩)):=by
        cases e:L 16 with
        |false=>exact(hJ.out.a e).cell 0 0 rfl rfl
        |true=>exact(hJ.out.b e).cell 0 0 rfl rfl
       exact cH
     · have Y:w'.cell? ⟨fg,1,none⟩=some (.pointer (some ⟨pl.tg,0,none⟩)):=by
        cases e:L 16 with
        |false=>exact(hJ.out.a e).cell 0 1 rfl rfl
        |true=>exact(hJ.out.b e).cell 0 1 rfl rfl
       exact cH
     · have Z:w'.cell? ⟨fg,2,none⟩=some (.pointer (some ⟨pl.lg,0,none⟩)):=by
        cases e:L 16 with
        |false=>exact(hJ.out.a e).cell 0 2 rfl rfl
        |true=>exact(hJ.out.b e).cell 0 2 rfl rfl
       exact cH
     · have q3:w'.cell? ⟨fg,3,none⟩=some (.pointer (some ⟨pl.pg,0,none⟩)):=by
        cases e:L 16 with
        |false=>exact(hJ.out.a e).cell 0 3 rfl rfl
        |true=>exact(hJ.out.b e).cell 0 3 rfl rfl
       exact cH
     · refine dM ?_
       intro K HK;refine(M w' (hJ.out.a hL).a).mono ?_;rintro e aa ⟨rfl,N,O⟩;exact HK _ _ ⟨ux,_,rfl,rfl,⟨fun q=>absurd q (by simp[JW]),fun _=>Mw.dv (hJ.out.a hL) H.b N O⟩⟩
   · intro ux L w' hL hJ
     have hs:=hJ.b (hL 16 (by decide));clear hJ hL;simp only[eD,fj];go_simp;go_wp2_with fail;refine(qL (F:={F.ref with D:=(F.D.step 4).1}) hs (F.D.step 4).2.2).mono ?_;rintro e2 w2 ⟨rfl,E⟩;go_wp2_with fail;go_ret;rw[HR.out];first|exact⟨rfl,v,E,u.told _⟩|exact⟨rfl,⟨v,E⟩,u.told _⟩
 · have ab:(F.KR !=0)=true:=by simpa using h0
   have HR:=qZ (show F.tick=(F.ref,F.KR) by rw[l.out,if_pos h0]);exact ydx
theorem su(hs:Mv pl base fg dg m c F v B w0 w Lb S)(b:Fw F k r)(J:Fh pl base m c):js prog 42 #[fg] w fun e w'=>e=.returned (.bool F.whole.2)∧∃v',Mv pl base fg dg m c (F.whole).1 v' B w0 w' Lb S∧Fw (F.whole).1 k r:=by
 have HH:=qZ J;have o:=qZ (show F.whole=if F.KR≠0 then(F.ref,false)else(F.ref.KJ,F.ref.KJ.D.Ok==0)from rfl);have L:=qZ b.ref;have p:=qZ (show Fw F.ref.KJ k r from b.ref.dv (E:={F.D with Y:=LN F.D.N F.D.N.D F.D.Y}) (n:=0) ⟨b.mkk.1,(l7 F.D.N F.D.N.D F.D.Y).1.trans b.mkk.2⟩ ⟨b.pw.n0,b.pw.n1,b.pw.op,b.pw.row,b.pw.tw,by show(LN F.D.N F.D.N.D F.D.Y).B≤_;rw[(l7 F.D.N F.D.N.D F.D.Y).2.1];exact b.pw.yb,b.pw.np⟩ ⟨Lt.refl _,l7 _ _ _,rfl⟩ (by omega));have ae:=cO;obtain⟨f,t⟩:∃f,f=F.D.N.D:=⟨_,rfl⟩;have z:=qZ t;have aa:=qZ (show f≤8 by rw[t];have q1:=hs.a.JT.ok.geo;omega);clear b J t;go_enter func42, ntmps42;go_wp2_with fail;refine(eE hs).mono ?_;rintro e1 w1 ⟨rfl,M⟩;replace hs:=M;clear M;by_cases g:F.KR=0
 · have H:=qZ (show F.whole=(F.ref.KJ,F.ref.KJ.D.Ok==0) by rw[o.out,if_neg (by rw[g];simp)])
   rw[g];clear g o;go_wp2_with (refine ma ?_;try (clear hs;intro w hs));refine(eI hs.a.JT).mono ?_;rintro e w2 ⟨rfl,N⟩;replace hs:=hs.below N;clear N;rw[show F.ref.D.N.D=f from z.out.symm];go_wp2_with fail;go_loopw [13] (fun I wr=>∃q:Nat,q≤f∧I=.int .i64 (q:Int)∧Mv pl base fg dg m c {F.ref with D:={F.D with Y:=LN F.D.N q F.D.Y}} v B w0 wr Lb S) (fun I _=>f-(intOf I).toNat)
   case atStart=>exact⟨0,by omega,rfl,hs⟩
   case round=>
    clear hs;obtain⟨q,hq,rfl,hs⟩:=hrel;have af:=aa.out;by_cases ag:q<f
    · have ah:(q:Int)<(f:Int):=by omega
      have i:=qZ (pa F.D.N q F.D.Y);have j:=qZ (uz F.D.N q);go_wp2_with (refine ma ?_;try (clear hs;intro w hs));refine(nc hs.a.JT q (by show q<F.D.N.D;have:=z.out;omega)).mono ?_;rintro e w3 ⟨rfl,rfl⟩;rw[show Nd.dead (Dv.N (Fv.D {F.ref with D:={F.D with Y:=LN F.D.N q F.D.Y}}))=F.D.N.dead from rfl];cases l:F.D.N.dead.getD q false with
      |false=>
       have HDx:=qZ (show LN F.D.N (q+1) F.D.Y=LN F.D.N q F.D.Y by rw[i.out,j.out,l];rfl);clear l i j;exact ya0
      |true=>
       have HDx:=qZ (show LN F.D.N (q+1) F.D.Y=(LN F.D.N q F.D.Y).Mu q by rw[i.out,j.out,l];rfl);clear l i j;go_wp2_with (refine ma ?_;try (clear hs;intro w hs));refine(tal.u0 hs.a.tal (q:Int)).mono ?_;rintro e w4 ⟨rfl,O,P⟩;obtain⟨Q,R⟩:=hs.a.tal2 (fK _ _) O P;replace hs:=Mw.dv hs HH.b Q R;clear O P Q R;exact ya0
    · obtain rfl:q=f:=by omega
      have T:Mv pl base fg dg m c F.ref.KJ v B w0 wr Lb S:=by
       have h:=hs;rw[z.out]at h;exact h
      replace hs:=T;clear T;obtain⟨nt,-,U⟩:=hs.a.tab;have hv:pick.View wr pl.tg pl.tlb F.ref.KJ.D.Y pl.lg pl.mb pl.cb nt F.ref.KJ.D.T:=⟨hs.a.tal,U⟩;clear U;go_upto_region 9 with fail
      refine bm 8 (by kernel_rfl) (by kernel_rfl) ?_;intro wd V;replace hs:=hs.drew;rw[←V]at hs;clear V;simp only[hO,jd,hX,jg];repeat (first|(refine aq 0 hs rfl 83 (by first|rfl|(simp[ek];done)|(go_simp;done)) rfl rfl underlying83 rfl rfl ?_)|(refine aq 0 hs rfl 84 (by first|rfl|(simp[ek];done)|(go_simp;done)) rfl rfl underlying84 rfl rfl ?_)|(refine wpStill_step (fun K hK=> ?_);go_simp;refine hK _ ?_;clear hK K))
      refine jw ?_;go_wp2_with fail;obtain⟨ab,-,W⟩:=hs.a.tab;refine(ql (⟨hs.a.tal,W⟩:pick.View _ pl.tg pl.tlb F.ref.KJ.D.Y pl.lg pl.mb pl.cb ab F.ref.KJ.D.T)).mono ?_;rintro e w5 ⟨rfl,X⟩;replace hs:=hs.below X;have HQ:=qZ (show((((pick.LI F.ref.KJ.D.Y F.ref.KJ.D.T).map fun ad:Nat=>tab.Kw F.ref.KJ.D.T.f (ad:Int)).sum:Nat):Int)=(F.ref.KJ.D.Ok:Int)from rfl);rw[HQ.out];have Z:=qZ (show((F.ref.KJ.D.Ok:Int)==0)=(F.ref.KJ.D.Ok==0) by rw[Bool.eq_iff_iff];simp);clear X hv W;go_wp2_with fail;go_ret;rw[H.out];first|exact⟨by rw[←Z.out];rfl,v,hs,p⟩|exact⟨by rw[←Z.out];rfl,⟨v,hs⟩,p⟩|exact⟨rfl,v,hs,p⟩
 · have ai:(F.KR !=0)=true:=by simpa using g
   have H:=qZ (show F.whole=(F.ref,false) by rw[o.out,if_pos g]);go_wp2_with fail;go_ret;rw[H.out];first|exact⟨rfl,v,hs,L⟩|exact⟨rfl,⟨v,hs⟩,L⟩
end
end dev
end Go.Proofs.YtlkpfnjdbgeifaaGreat
