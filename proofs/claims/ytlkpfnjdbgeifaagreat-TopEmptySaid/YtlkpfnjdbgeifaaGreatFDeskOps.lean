import Derived.Shelf.Abstract
import Derived.Test.YtlkpfnjdbgeifaaGreatFDesk
import Derived.Test.YtlkpfnjdbgeifaaGreatFBack
set_option linter.unusedSimpArgs false
set_option linter.unusedVariables false
set_option maxRecDepth 100000
set_option maxHeartbeats 4000000
open Nat renaming le_refl→ed,le_trans→fj
open Go.Value renaming slice→ej
open Go.RowKit.Below renaming refl→ek
open And renaming intro→eD
open Go.Instr renaming makeFunc→eX
namespace Go.Proofs.YtlkpfnjdbgeifaaGreat
open Go.Proofs.Tryz
open Go.RowKit
namespace JX
open rw
def z0:En:=⟨0,0,0,an⟩
theorem Fx(l:List En)(k:Int):(MU (fun x=>x.l==k) l= -1∧OA l k=none)∨∃(i:Nat) (e:En),MU (fun x=>x.l==k) l=(i:Int)∧i<l.length∧l[i]? =some e∧OA l k=some e:=by
 unfold MU OA;rw[List.find?_eq_bind_findIdx?_getElem?];cases h:l.findIdx? (fun x=>x.l==k)with
 |none=>exact .inl ⟨rfl,rfl⟩
 |some i=>
  have b:=(List.findIdx?_eq_some_iff_getElem.1 h).1;exact .inr ⟨i,l[i],rfl,b,List.getElem?_eq_getElem b,by simp[List.getElem?_eq_getElem b]⟩
section
variable {w:World}{base dg:Nat}{l:List En}
theorem Fy(h:KI w base dg l)(k:Int)(K:l.length≤1000000):Calls prog 49 #[dg,k] w fun r W=>r=.returned (.tuple #[.agg ((OA l k).getD z0).v.toArray,.bool (OA l k).isSome])∧Below w.heap.size w W:=by
 have ai:=JY;have ak:∀(L:Fn) (first M:Array Value) (w:World),(eX L first M).run prog w=.ok (.func L first M) w:=fun _ _ _ _=>rfl
 have X:∀N w,(callFunc 84 N).run prog w=.ok (.enter 84 N) w:=enters_of func84 (by kernel_rfl) rfl;obtain⟨v,t,u⟩:=h.head;have z:=h.ok;obtain⟨A,c,rfl,-,-⟩:=u.slice;have j:=cG w (.cells #[k] 3) (.cells (enV 0 0 0 an).toArray 90);have O:((w.alloc (.cells #[k] 3)).alloc (.cells (enV 0 0 0 an).toArray 90)).cell? ⟨w.heap.size,0,none⟩=some (.int .i64 k):=by rw[ae (bu _ _ _)];rfl
 have P:=aj (w.alloc (.cells #[k] 3)) (.cells (enV 0 0 0 an).toArray 90) (w.heap.size+1) (by simp);have B:=u.rds.below j (ed _);have Q:((w.alloc (.cells #[k] 3)).alloc (.cells (enV 0 0 0 an).toArray 90)).heap.size=w.heap.size+2:=by simp
 have c2:((w.alloc (.cells #[k] 3)).alloc (.cells (enV 0 0 0 an).toArray 90)).cell? ⟨dg,0,none⟩=some (.slice A l.length c):=(j.cell (p:=⟨dg,0,none⟩) (af t)).trans (by rw[ae t];rfl);clear h t u;generalize m:(w.alloc (.cells #[k] 3)).alloc (.cells (enV 0 0 0 an).toArray 90)=Y at*;have g:=qZ (en.dB (c:=c) 84 #[w.heap.size] X (fun x=>x.l==k) B (by omega) z K (fun x al hx Z=>get1 ((Z.cell (p:=⟨w.heap.size,0,none⟩) (by show w.heap.size<Y.heap.size;omega)).trans O)));have R:=qZ B;have C:=qZ (Fx l k);have HO:=qZ z;have S:=qZ P;have o:=qZ j;have HZ:=qZ Q;have D:=qZ c2;obtain⟨n,E⟩:∃n,n=l.length:=⟨_,rfl⟩;rw[←E]at g R D c2 K;have ab:=qZ E;clear z B O P j Q E;rcases C.out with⟨e1,e2⟩|⟨i,e,e1,e2,e3,T⟩
 · rw[e2]
   rw[e1]at g;clear e1 e2 C;go_enter func49, ntmps49;go_upto_region 1 with fail
   change Code.wp _ _ _ _ ((w.alloc (.cells #[k] 3)).alloc (.cells (enV 0 0 0 an).toArray 90));rw[m];clear m;go_wp2_with fail;refine g.mono ?_;rintro r w3 ⟨rfl,b⟩;have q:=aa S b;have G:=qZ (o.trans (b.mono o.size));clear b c2;go_wp2_with (first|(refine ac rfl 90 _ rfl [] rfl _ (show prog.built 90 []=some z0.v.toArray from cY) ?_)|(refine ag rfl 90 (.tmp 4) (.tmp 18) rfl (w.heap.size+1) z0.v rfl rfl 90 _ q (bo rfl _ _ _) rfl (aO _ _ _ _) ?_;intro w5 f;have H:=f.at_;have I:=f.below G.out (by omega);clear f));refine bodyPost_ret (v:=.tuple #[.agg z0.v.toArray,.bool false]) ?_ rfl ⟨rfl,I⟩;rw[aD rfl _ _ _ _ _ _ _ rfl H underlying90 rfl (bo rfl _ _ _)];rfl
 · rw[T]
   rw[e1]at g;have HF:=qZ (eD e2 e3);clear e1 e2 e3 T C;go_enter func49, ntmps49;go_upto_region 1 with fail
   change Code.wp _ _ _ _ ((w.alloc (.cells #[k] 3)).alloc (.cells (enV 0 0 0 an).toArray 90));rw[m];clear m;go_wp2_with fail;refine g.mono ?_;rintro r w3 ⟨rfl,b⟩;obtain⟨e2,e3⟩:=HF;have q:=aa S b;have G:=qZ (o.trans (b.mono o.size));have hi:i<n:=by rw[ab.out];exact e2
   have ao:(i:Int)<(n:Int):=by omega
   have U:=HO.out e (List.mem_of_getElem? e3);have V:=R.out.below b (by have:=HZ.out;omega);have aq:=(b.cell (p:=⟨dg,0,none⟩) (World.block_lt_of_cell? _ _ D)).trans D;obtain⟨bb,oo,rfl,ar,hR⟩:=aH V hi (r:=e.v) (by rw[ens,List.getElem?_map,e3];rfl);have J:=bo U.1 e.l e.s e.r;have ad:=qZ (show e.v.length=19 from ax U.1 _ _ _);have ah:=qZ q;clear e2 e3 b c2 V q;go_wp2_with (first|(refine wpList_load_mid rfl 90 (.tmp 24) rfl bb (oo+i*19) rfl e.v _ hR underlying90 rfl J ?_)|(refine ag rfl 90 (.tmp 4) (.tmp 25) rfl (w.heap.size+1) e.v rfl rfl 90 _ ah J (by rw[ad.out];rfl) (aO _ _ _ _) ?_;intro w5 f;have H:=f.at_;have I:=f.below G (by omega);clear f));refine bodyPost_ret (v:=.tuple #[.agg e.v.toArray,.bool true]) ?_ rfl ⟨rfl,I⟩;rw[aD rfl _ _ _ _ _ _ _ rfl H underlying90 rfl J];rfl
theorem I0(h:KI w base dg l)(k:Int)(o:(l.length:Int)≤k)(p:l.length≤1000000):Calls prog 91 #[dg,k] w fun r q=>∃v,r=.returned v∧OwnRows q w.heap.size 90 19 v l.length (ens l)∧Below w.heap.size w q:=by
 have S:=JY;obtain⟨v,t,i⟩:=h.head;obtain⟨A,c,rfl,L,M⟩:=i.slice
 have u:∀a,A=some a→a.spot=none:=by
  intro a j;rcases i.1.2 with⟨f,-⟩|⟨g,T,U,f,-⟩
  · injection f with f;rw[f]at j;cases j
  · injection f with f;rw[f]at j;cases j;rfl
 have z:w.drew.heap[dg]? =some (.cells #[.slice A l.length c] 149 (0,0)):=t;have c2:∀b,b=w.drew→b.cell? ⟨dg,0,none⟩=some (.slice A l.length c):=fun b e=>by rw[e,ae z];rfl
 have B:=qZ (fun b (e:b=w.drew)=>en.l9 A l.length c b.heap.size l b (by rw[e];exact i.rds) (ed _) p u);have C:=qZ c2;obtain⟨n,D⟩:∃n,n=l.length:=⟨_,rfl⟩;rw[←D]at B C L p o⊢;unfold maxLen at M;clear h t i z c2 D u;go_enter func91, ntmps91;go_upto_region 3 with fail
 refine bm 13 (by kernel_rfl) (by kernel_rfl) ?_;intro b m;have N:=C.out b m;have V:(if k<0 then(0:Int)else k)=k:=by rw[if_neg (by omega)]
 have W:(if(n:Int)<k then(n:Int)else k)=n:=by split<;>omega
 clear o;have O:=qZ (B b m);have E:=qZ m;clear m;simp only[List.take_succ_cons,List.take_zero,List.drop_succ_cons,List.drop_zero];repeat (refine wpStill_step (fun K G=> ?_);go_simp;refine G _ ?_;clear G K)
 refine wpStill_nil ?_;go_wp2_with fail;refine O.mono ?_;rintro r P ⟨v,rfl,H,I⟩;have J:=qZ H;have Q:=qZ I;rw[show b.heap.size=w.heap.size by rw[E.out];rfl]at J;have R:=qZ (show Below w.heap.size w P by have:=Q.out;rw[E.out]at this;exact gk this);clear H I N;go_wp2_with fail;go_ret;exact⟨_,rfl,J,R⟩
theorem Ic{x e:En}{g:Nat}(b:w.heap[g]? =some (.cells x.v.toArray 90 (0,0))):Calls prog 154 #[.agg e.v.toArray,g] w fun r c=>r=.returned (.bool (e.l==x.l&&e.s==x.s))∧Below w.heap.size w c:=by
 have hb:=(ek _ w).alloc (ed _) (.cells e.v.toArray 90);obtain⟨c0,c1,-,-⟩:=fI (aj w (.cells e.v.toArray 90) _ rfl);obtain⟨d0,d1,-,-⟩:=fI (am b (.cells e.v.toArray 90));clear b;cases f:e.l==x.l with
 |false=>
  go_enter func154, ntmps154;exact IA
 |true=>
  go_enter func154, ntmps154;exact IA
theorem JL{x:En}{m:List En}{A:Option Addr}{k c g:Nat}(J:x.ok)(h:Rds w w.heap.size A 19 k (ens m))(i:∀e∈m,e.ok)(B:k≤1000000)(b:w.cell? ⟨g,0,none⟩=some (.slice A k c)):
 Calls prog 152 #[.agg x.v.toArray,g] w fun r C=>r=.returned (.bool (Qh m x))∧Below w.heap.size w C:=by
 have K:∀(j:Fn) (first n:Array Value) (w:World),(eX j first n).run prog w=.ok (.func j first n) w:=fun _ _ _ _=>rfl
 have D:∀o w,(callFunc 154 o).run prog w=.ok (.enter 154 o) w:=enters_of func154 (by kernel_rfl) rfl;have f:=(ek _ w).alloc (ed _) (.cells x.v.toArray 90);have q:=aj w (.cells x.v.toArray 90) _ rfl;have c1:=(f.cell (p:=⟨g,0,none⟩) (World.block_lt_of_cell? _ _ b)).trans b;have t:=h.below f (ed _);have E:=qZ (en.gh (c:=c) 154 #[w.heap.size] D (fun e=>e.l==x.l&&e.s==x.s) t (by simp) i B (fun e W b G=>Ic (aa q G)));have u:=qZ f;have H:=qZ (show Qh m x=m.any (fun e=>e.l==x.l&&e.s==x.s)from rfl);clear h t q b i f;go_enter func152, ntmps152;go_wp2_with fail;refine E.mono ?_;rintro r L ⟨rfl,z⟩;have I:=qZ (u.trans (z.mono u.size));clear z;go_wp2_with fail;go_ret;exact⟨by rw[H.out];rfl,I⟩
theorem JK(h:KI w base dg l){m:List En}{A:Option Addr}{k c:Nat}(S:Rds w w.heap.size A 19 k (ens m))(T:∀e∈m,e.ok)(U:k≤1000000)(u:l.length≤1000000)(V:base≤w.heap.size)(W:∀v,w.heap[dg]? =some (.cells #[v] 149 (0,0))→∀a,A=some a→v.ownBlock≠some a.block):
 Calls prog 93 #[dg,.slice A k c] w fun r X=>(∃q:Int,r=.returned q∧q=(l.length:Int)-((MN l m).length:Int))∧KI X base dg (MN l m)∧EUp dg w X:=by
 have ay:=JY;have az:∀(Y:Fn) (first Z:Array Value) (w:World),(eX Y first Z).run prog w=.ok (.func Y first Z) w:=fun _ _ _ _=>rfl
 have eg:∀aa w,(callFunc 152 aa).run prog w=.ok (.enter 152 aa) w:=enters_of func152 (by kernel_rfl) rfl;have ab:=h.low;have z:=h.ok;obtain⟨v,B,G⟩:=h.head;have ad:=W v B;have H:=(ek _ w).alloc (ed _) (.cells #[.slice A k c] 116);have I:=am B (.cells #[.slice A k c] 116);have C:=G.alloc (.cells #[.slice A k c] 116);have af:=aj w (.cells #[.slice A k c] 116) _ rfl;have ag:=S.below H (ed _);have ah:v.ownBlock≠some w.heap.size:=eC G;have av:(w.alloc (.cells #[.slice A k c] 116)).heap.size=w.heap.size+1:=by simp
 generalize ai:w.alloc (.cells #[.slice A k c] 116)=w1 at*
 have J:=qZ (en.FI 152 #[w.heap.size] eg (Qh m) C z u (fun x aA hx b=>JL (z x hx) (ag.far b (by omega) ad) T U (by
  rw[ae (aR af b (fun e=>ah e.symm))];rfl)))
 obtain⟨f,cv,rfl,-,-⟩:=C.slice;have ak:=qZ (show∀v,w.heap[dg]? =some (.cells #[v] 149 (0,0))→ej f l.length cv=v from fun v L=>mV B L);have c0:w1.cell? ⟨dg,0,none⟩=some (.slice f l.length cv):=by rw[ae I];rfl
 have D:=qZ I;have al:=qZ C;have HB:=qZ H;have M:=qZ (eD ab (eD V (xO (p:=Qh m) z)));have N:=qZ (tU (Qh m) l);obtain⟨n,an⟩:∃n,n=l.length:=⟨_,rfl⟩;rw[←an]at c0 D al N J u ak⊢;obtain⟨K,O⟩:∃K,K=MA (Qh m) l:=⟨_,rfl⟩;rw[←O]at N J M;rw[show MN l m=K from O.symm];have HW:=qZ ai;have HN:=qZ u;clear h S T U u V W ab z H af ag av B G ad ah I C an O;go_enter func93, ntmps93;go_upto_region 1 with fail
 clear ai;go_wp2_with fail;refine J.mono ?_;rintro r w3 ⟨aB,rfl,g,aq,b⟩;have j:=aR D b (fun e=>by obtain⟨-,cs,E⟩:=fu al e.symm;rw[E]at D;have:=D.out;simp at this);obtain⟨P,Q,rfl,-,-⟩:=g.slice;have o:=ar (i:=0) (cs:=[.slice f n cv]) j (.slice P K.length Q);have au:(ej P K.length Q).ownBlock≠some dg:=fun e=>by obtain⟨-,cs,E⟩:=fu g e;rw[j]at E;simp at E
 have c3:w3.cell? ⟨dg,0,none⟩=some (.slice f n cv):=by rw[ae j];rfl
 have f3:=ao j 0;have aw:=qZ (show∀t,(w3.setCell ⟨dg,0,none⟩ (.slice P K.length Q)).heap[dg]? =some (.cells #[t] 149 (0,0))→t.ownBlock=(ej f n cv).ownBlock from fun t R=>by rw[←mV o.at_ R];exact aq);have HF:=qZ (eD (KI.mk (l:=K) ⟨_,o.at_,o.own g.1 au,g.2⟩ M.1 M.2.2) ((EFr.KZ HB:EFr dg (ej f n cv).ownBlock w w1).trans ((EFr.Ll b).trans (EFr.head o))));clear g aq b j o au c0;go_wp2_with fail;go_ret;have ax:wrap64 ((n:Int)-(K.length:Int))=(n:Int)-(K.length:Int):=by have:=N.out;have:=HN.out;unfold wrap64;omega
 exact⟨⟨_,rfl,ax⟩,HF.1,fun v t L R=>by rw[←ak.out v L];exact⟨HF.2,.inl (aw t R)⟩⟩
end
open rw
structure QL (w0:World) (base dg xe:Nat) (v0:Value) (l:List En) (e:En) (x:Nat×Value) (L:Nat→Bool) (w:World):Prop where
 fr:EFr dg v0.ownBlock w0 w
 head:L 10=false→w.heap[dg]? =some (.cells #[v0] 149 (0,0))
 box:w.heap[xe]? =some (.cells e.v.toArray 90 (0,0))
 own:L 7=false→OwnRows w base 90 19 v0 l.length (ens l)
 one:L 6=true→w.heap[x.1]? =some (.cells e.v.toArray 90 (0,0))∧v0.ownBlock≠some x.1
 app:L 7=true→(L 4=true∧L 6=true)∧OwnRows w base 90 19 x.2 (l.length+1) (ens (l++[e]))
 done:L 10=true→L 7=true∧w.heap[dg]? =some (.cells #[x.2] 149 (0,0))
 nw:L 7=true→x.2.ownBlock=v0.ownBlock∨∃j,x.2.ownBlock=some j∧w0.heap.size≤j
theorem QL.JW{c w:World}{base f g i:Nat}{j:Value}{l:List En}{e:En}{x:Nat×Value}{L:Nat→Bool}(h:QL c base f g j l e x L w)(k:JW L i 6=L 6)(b:JW L i 7=L 7)(m:JW L i 10=L 10):QL c base f g j l e x (JW L i) w:=
 ⟨h.fr,by rw[m];exact h.head,h.box,by rw[b];exact h.own,by rw[k];exact h.one,fun q=>by rw[b]at q;exact⟨⟨by simp[Go.Proofs.YtlkpfnjdbgeifaaGreat.JW,(h.app q).1.1],by rw[k];exact(h.app q).1.2⟩,(h.app q).2⟩,fun q=>by rw[m]at q;rw[b];exact h.done q,fun q=>h.nw (by rw[b]at q;exact q)⟩
section
variable {w:World}{base dg:Nat}{l:List En}
theorem EG(h:KI w base dg l)(e:En)(he:e.ok)(R:l.length≤1000000)(an:base≤w.heap.size):
 Calls prog 90 #[dg,.agg e.v.toArray] w fun r w'=>r=.returned (.tuple #[])∧KI w' base dg (Pg l e)∧EUp dg w w':=by
 have aY:=JY;have aZ:∀(fn:Fn) (first aq:Array Value) (w:World),(eX fn first aq).run prog w=.ok (.func fn first aq) w:=fun _ _ _ _=>rfl
 have eg:∀au w,(callFunc 146 au).run prog w=.ok (.enter 146 au) w:=enters_of func146 (by kernel_rfl) rfl;have av:=h.low;have af:=h.ok;obtain⟨v,h1,h2⟩:=h.head;have aw:=(ek _ w).alloc (ed _) (.cells e.v.toArray 90);have S:=am h1 (.cells e.v.toArray 90);have H:=h2.alloc (.cells e.v.toArray 90);have ag:=aj w (.cells e.v.toArray 90) _ rfl;have T:v.ownBlock≠some w.heap.size:=eC h2;have HD:=qZ (en.FI 146 #[w.heap.size] eg (fun x=>x.l==e.l) H af R (fun x a1 hx E=>EH (aR ag E (fun q=>T q.symm))));obtain⟨U,cv,rfl,-,-⟩:=H.slice;have ax:=qZ (show∀v,w.heap[dg]? =some (.cells #[v] 149 (0,0))→ej U l.length cv=v from fun v hv=>mV h1 hv);have c0:(w.alloc (.cells e.v.toArray 90)).cell? ⟨dg,0,none⟩=some (.slice U l.length cv):=by rw[ae S];rfl
 have HK:=qZ (xO (p:=fun x=>x.l==e.l) af);have V:=qZ (tU (fun x=>x.l==e.l) l);obtain⟨n,ay⟩:∃n,n=l.length:=⟨_,rfl⟩;obtain⟨K,ah⟩:∃K,K=MA (fun x=>x.l==e.l) l:=⟨_,rfl⟩;rw[←ah]at HD HK V;rw[show Pg l e=K++[e] by rw[ah];rfl];rw[←ay]at c0 S H V HD R T ax;have HX:=qZ (eD ag T);have HB:=qZ aw;have ak:=qZ S;have aG:=qZ H;have HN:=qZ R;have W:=qZ (eD av an);have Y:=qZ he;clear h he R an av af aw ag h1 h2 T S H ay ah;go_enter func90,ntmps90;go_upto_region 1 with fail
 change Code.wp _ _ _ _ (w.alloc (.cells e.v.toArray 90));generalize w.alloc (.cells e.v.toArray 90)=w1 at*;go_wp2_with fail;refine HD.mono ?_;rintro r w3 ⟨a2,rfl,I,Z,E⟩;have G:=aR ak E (fun q=>by obtain⟨-,cs,h4⟩:=fu aG q.symm;rw[h4]at ak;have:=ak.out;simp at this);have ab:=aR HX.1 E (fun q=>HX.2 q.symm);obtain⟨f,j,rfl,-,-⟩:=I.slice;have m:=ar (i:=0) (cs:=[.slice U n cv]) G (.slice f K.length j);have az:(ej f K.length j).ownBlock≠some dg:=fun q=>by obtain⟨-,cs,h4⟩:=fu I q;rw[G]at h4;simp at h4
 have al:w.heap.size≠dg:=by have:=W.out;intro q;rw[q,G]at ab;simp at ab
 have c3:w3.cell? ⟨dg,0,none⟩=some (.slice U n cv):=by rw[ae G];rfl
 have f3:=ao G 0;have HF:=qZ (eD (eD m.at_ (show OwnRows _ base 90 19 _ K.length (ens K)from⟨m.own I.1 az,I.2⟩)) (eD (m.old ab al) (show EFr dg (ej f K.length j).ownBlock w (w3.setCell ⟨dg,0,none⟩ (.slice f K.length j)) by rw[Z];exact(EFr.KZ HB).trans ((EFr.Ll E).trans (EFr.head m)))));have aH:=qZ al;have aI:=qZ (show(ej f K.length j).ownBlock≠some w.heap.size by rw[Z];exact HX.2);have aJ:=qZ Z;clear I Z E G m az c0 ab al;go_upto_region 3 with fail
 clear c3 f3;generalize w3.setCell ⟨dg,0,none⟩ (.slice f K.length j)=w4 at*;obtain⟨⟨h4,aK⟩,aL,aA⟩:=HF;have h4:w4.heap[dg]? =some (.cells #[.slice f K.length j] 149 (0,0)):=h4;have a3:base≤w4.heap.size:=fj W.2 aA.size
 refine dz (X:=Nat×Value) (fun x=> [(some 15,dg),(some 16,dg),(some 17,dg),(some 18,dg),(some 19,.slice f K.length j),(some 20,.agg e.v.toArray),(some 21,.slice (some ⟨x.1,0,none⟩) 1 1),(some 22,x.2),(some 23,dg),(some 24,dg),(none,undef)])
  (QL w base dg w.heap.size (.slice f K.length j) K e) ⟨(0,undef),fun L hL=>⟨aA.trans (EFr.KZ (ek _ w4).drew),fun _=>h4,aL,fun _=>aK.below (ek _ w4).drew,(by intro h;rw[hL]at h;cases h),(by intro h;rw[hL]at h;cases h),(by intro h;rw[hL]at h;cases h),(by intro h;rw[hL]at h;cases h)⟩⟩ ?_ ?_
 · refine⟨rr,rr,rr,rr,?_,?_,?_,?_,rr,rr,?_,trivial⟩
   all_goals
    intro x L w' hL hpre hJ a ha he;have hJ:=hJ.out;simp[Region.binds]at hpre
   · have M:L 10=false:=by
      cases q:L 10 with
      |false=>rfl
      |true=>exact absurd (hJ.app (hJ.done q).1).1.1 (by simp[hL])
     have cc:w'.cell? ⟨dg,0,none⟩=some (.slice f K.length j):=by rw[ae (hJ.head M)];rfl
     refine dM ?_;intro Q HQ;exact HQ _ _ ⟨x,_,rfl,rfl,hJ.JW rfl rfl rfl⟩
   · refine Wn ?_
     exact wp_load_mid 90 (.tmp 3) rfl w.heap.size 0 ev e.v _ (ai hJ.box) underlying90 rfl (bo Y.1 _ _ _) ⟨x,_,rfl,rfl,hJ.JW rfl rfl rfl⟩
   · have k:L 7=false:=by
      cases q:L 7 with
      |false=>rfl
      |true=>exact absurd (hJ.app q).1.2 (by simp[hL])
     have aM:a.eval (.tmp 20)=.agg e.v.toArray:=ev;refine Wn ?_;refine cT 116 (.tmp 20) rfl 90 e.v _ 19 40 aM underlying116 en.C3 (en.Cs Y) (by decide) (by decide) ?_;have hb:=(ek _ w').alloc (ed _) (.cells e.v.toArray 90);have u:=hJ.own k;exact⟨(w'.heap.size,x.2),_,rfl,rfl,hJ.fr.trans (EFr.KZ hb),fun q=>aa (hJ.head q) hb,aa hJ.box hb,fun _=>u.below hb,fun _=>⟨aj _ _ _ rfl,eC u⟩,fun q=>absurd (k.symm.trans q) (by simp),fun q=>absurd (k.symm.trans (hJ.done q).1) (by simp),fun q=>absurd (k.symm.trans q) (by simp)⟩
   · have N:L 6=true:=by simp[hpre]
     have h4:L 4=true:=by simp[hpre]
     have M:L 10=false:=by
      cases q:L 10 with
      |false=>rfl
      |true=>exact absurd (hJ.done q).1 (by simp[hL])
     have aN:a.eval (.tmp 19)=.slice f K.length j:=ev;have aQ:a.eval (.tmp 21)=.slice (some ⟨x.1,0,none⟩) 1 1:=ev;have u:=hJ.own hL;have aB:=jX (hJ.one N).1;rw[en.Cs Y.out]at aB;refine Wn ?_;refine bQ (.tmp 19) (.tmp 21) 116 rfl 90 _ 19 40 underlying116 en.C3 rfl (by decide) (base:=base) (B:=0) (w0:=w') u (ek 0 w') aN aQ aB (fun r hr=>by rw[List.mem_singleton.1 hr];exact aO _ _ _ _) (by have:=V.out;have:=HN.out;unfold maxLen;omega) (by have:=V.out;have:=HN.out;omega) (fj W.2 hJ.fr.size) (Nat.zero_le _) ?_;intro v' a4 aC _ ad aS;rw[Dg]at aC;refine⟨(x.1,v'),_,rfl,rfl,hJ.fr.trans (EFr.Ll ad),fun _=>aR (hJ.head M) ad (fun q=>by obtain⟨-,cs,D⟩:=fu u q.symm;rw[hJ.head M]at D;simp at D),aR hJ.box ad (fun q=>aI q.symm),fun q=>absurd q (by simp[JW]),fun _=>⟨aR (hJ.one N).1 ad (fun q=>(hJ.one N).2 q.symm),(hJ.one N).2⟩,fun _=>⟨⟨by simp[JW,h4],by simp[JW,N]⟩,aC⟩,fun q=>absurd (M.symm.trans q) (by simp),fun _=>aS.imp id fun⟨aT,q1,q2⟩=>⟨aT,q1,fj hJ.fr.size q2⟩⟩
   · have k:L 7=true:=by simp[hpre]
     obtain⟨aD,u⟩:=hJ.app k;have z:=hJ.head hL;obtain⟨A9,c9,aU,-,-⟩:=u.slice;have m:=ar (cs:=[.slice f K.length j]) (i:=0) z x.2;have aE:x.2.ownBlock≠some dg:=fun q=>by obtain⟨-,cs,D⟩:=fu u q;rw[z]at D;simp at D
     have HH:=qZ (show QL w base dg w.heap.size (.slice f K.length j) K e x (JW L 10) (w'.setCell ⟨dg,0,none⟩ x.2)from⟨hJ.fr.trans (EFr.head m),fun q=>absurd q (by simp[JW]),m.old hJ.box aH,fun q=>absurd (k.symm.trans q) (by simp),fun q=>⟨m.old (hJ.one q).1 (fun r=>by have D:=(hJ.one q).1;rw[r,z]at D;simp at D),(hJ.one q).2⟩,fun q=>⟨⟨by simp[JW,aD.1],by simp[JW,aD.2]⟩,⟨m.own u.1 aE,u.2⟩⟩,fun _=>⟨by simp[JW,k],m.at_⟩,fun _=>hJ.nw k⟩);have cc:w'.cell? ⟨dg,0,none⟩=some (.slice f K.length j):=by rw[ae z];rfl
     have ff:=ao z 0;rw[aU]at HH;clear m aE z u hJ;refine dM ?_;intro Q HQ;exact HQ _ _ ⟨x,_,rfl,rfl,HH⟩
 · intro x L w' hL hJ
   obtain⟨k,z⟩:=hJ.done (hL 10 (by decide));have aV:=qZ (hJ.nw k);have aW:=qZ z
   have aF:=qZ (show KI w' base dg (K++[e])∧EFr dg (ej f K.length j).ownBlock w w' from⟨⟨⟨x.2,z,by have:=(hJ.app k).2;rw[List.length_append];exact this⟩,W.1,fun y O=>by
    rcases List.mem_append.1 O with O|O
    · exact HK y O
    · rw[List.mem_singleton.1 O];exact Y⟩,hJ.fr⟩)
   clear hJ hL k z;simp only[List.foldl_cons,List.foldl_nil];go_simp;go_wp2_with fail;go_end0
   exact⟨rfl,aF.1,fun v v' hv aX=>by rw[←ax.out v hv,←aJ.out,←mV aW.out aX];exact⟨aF.2,aV⟩⟩
end
end JX
end Go.Proofs.YtlkpfnjdbgeifaaGreat
