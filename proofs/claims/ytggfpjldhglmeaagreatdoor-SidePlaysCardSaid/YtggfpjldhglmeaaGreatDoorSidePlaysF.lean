/-
  Texts of this claim, joined: PoolZL, PoolZM, PoolZN, PoolZO, PoolZP, EvL, ShelfG, Packet, Policy, PolicyB, ItoaG, ItoaH, ItoaI, UnsG, JoinG, JoinH, JoinI, JoinJ, JoinK, JoinL, JoinM, JoinN, ShelfC, PolicyT, Dec, CutS, RuleS, TextS, SplitG, SplitH, BytG, AtoG, AtoH, IfG, AtoI, AtoJ, AtoK, ShelfD, PolicyR, Code, As, Fault, PoolZQ, PoolZR, Number.
-/
import Derived.Test.YtggfpjldhglmeaaGreatDoorSidePlaysE
import Derived.Conc.TokenWalk
import Derived.Lib.Bytealg
import Derived.Lib.SplitLaws
import Derived.Lib.IndexBytes
import Derived.Laws.Externs
import Derived.Lib.LaidTab
import Derived.Lib.ItoaNum
import Derived.Laws.MathBits
import Derived.Laws.Slices
import Derived.Lib.UnsafeStr
import Derived.Lib.AppendStr
import Derived.Lib.MakeNoZero
import Derived.Lib.Builder
import Derived.Conc.SmallLaws
import Derived.Laws.IdiomCopy
import Derived.Lib.Join
import Derived.Lib.ItoaLen
import Derived.Lib.AtoiAll
import Derived.Laws.IdiomStrings
import Derived.Lib.AtoiTie
import Derived.Lib.AtoiErr
import Derived.Lib.BufferWrite
import Derived.LaidEql
import Derived.Stop.Asserts
set_option linter.unusedSectionVars false
set_option linter.unusedSimpArgs false
set_option linter.unusedVariables false
set_option maxRecDepth 20000
namespace Go.Proofs.YtggfpjldhglmeaaGreatDoor
open Go Tryz
namespace Pool
open Go.Conc Gap Ev Go.RowKit Go.Conc.Lib
open Go.ConcN (upd upd_same upd_ne WgLive sumTo)
open Go.ConcR (Payload WgAt KK)
local instance:Gap.Leaps:=uH
variable [kd:Kd]
variable {c:Frame}{J:iB}{cs:List Frame}{workers:Nat}{done:Nat→Bool}{O Z:Nat→Prop}{cg:Nat→Value→Value→bZ→Prop}{W w:World}
def HZ (J:iB)(cg:Nat→Value→Value→bZ→Prop)(cs:List Frame)(next:Nat)(done:Nat→Bool)(O:Nat→Prop)(g:Goroutine)(W:World):Prop :=
 Fb J cg cs next done O g W∧yl (fun b=>J.W0.heap.size≤b) (fun _=>False) J.W0.heap.size J.W0 O W
section
variable {g:Goroutine}
theorem Rr:∀n,sumTo n (fun _=>1)=n
 | 0=>rfl
 | n+1=>by simp only[sumTo,Rr n]
theorem Q3 {f:Nat→Nat}:∀n,(∀i,i<n→f i=0)→sumTo n f=0
 | 0,_=>rfl
 | n+1,h=>by simp only[sumTo,Q3 n fun i hi=>h i zo,h n zo]
theorem SF {X:dT}  {i:Nat}(hi:i<X.many)(hd:done i=false):0<left X done:=by have:=Hj hi hd;omega
theorem zqO:left (bY J cg) (fun _=>false)=J.many:=Rr J.many
theorem ztd (h:∀i,i<J.many→done i=true):left (bY J cg) done=0:=Q3 _ fun i hi=>by simp[h i hi]
theorem jP (ok:fX J)(hm:J.many≤100000):gX (bY J cg) (.int .i64 0) (HZ J cg cs):=by
 refine⟨fun next done O g W ⟨⟨bo,be,ready,hR,ho,hr,hg⟩,mz⟩=>⟨hR.le,fun Bn=>?_⟩⟩
 have gQ:0<left (bY J cg) done:=by
  rcases Bn with h | ⟨i,h1,h2⟩
  ·refine SF (X:=bY J cg) (i:=next) h ?_;cases hd:done next with
   | false=>rfl
   | true=>have:=hR.rN next hd;omega
  ·exact SF (X:=bY J cg) (i:=i) (Nat.lt_of_lt_of_le h1 hR.le) h2
 rcases hg with⟨_,a,hf,rfl⟩|⟨h,_⟩
 rotate_left
 ·omega
 refine⟨rfl,fun w=>ztR hf w,fun aQ=>above (fun _ h=>h) (ztI ok hm aQ hr hR ho hf) mz,fun i v T hi hd kh hT=>above (fun _ h=>h) (zwS ok hm hi hd mz.up kh hT hr hR ho hf) ⟨fun b hb=>hb.elim (mz.up b) fun x=>?_,fun _ h=>h.elim,mz.size,mz.sm⟩⟩;obtain⟨_,_,_,_,_,_,_,_,_,_,IZ⟩:=kh;exact(IZ b x).1
theorem zpn {next:Nat}(h:HZ J cg cs next done O g W):g.status≠.blocked:=by
 obtain⟨⟨bo,be,ready,hR,ho,hr,⟨_,a,_,rfl⟩|⟨_,a,_,rfl⟩⟩,_⟩:=h<;>exact fun h=>by cases h
theorem zwx {b:Nat}{c:Array Value}{t:TypeId}(hl:dx O Z w W)(h:w.heap[b]?=some (.cells c t (0,0))):O b:=Classical.byContradiction fun ho=>by
 rcases hl.rest b _ ho h with e | ⟨_,_,_,_,_,e⟩
 ·cases e
 ·exact gJ e
theorem zwW (ok:fX J)(hm:J.many≤100000)(jo:J.W0.heap.size≤W.heap.size)(hs:yh J W)(hh:HX J.many workers J.ct J.cb J.Wg J.bt J.bh J.bb workers cs g) :
  gk prog true J.Z (Fb J cg cs 0 fun _=>false) (fun _=>False) g W:=by
 obtain⟨b⟩:=kd
 letI kd:Kd:=⟨b⟩
 cases b
 all_goals
  obtain⟨a,hf,rfl⟩:=hh;have hl:dx (fun _=>False) J.Z (Pool.view (fun _=>False) J.Z W) W:=uJ fun b h=>h.elim
  have jH:yh J (Pool.view (fun _=>False) J.Z W):=fun b o v hb hv=>BA (.inr hb) (hs b o v hb hv)
  have dZ:(Pool.view (fun _=>False) J.Z W).heap.size=W.heap.size:=by simp[Pool.view]
  generalize Pool.view (fun _=>False) J.Z W=w at hl jH dZ;rw[RF];refine mi (Q:=fun e σ w'=>e=.exit 0∧w'=w∧Sub [(0,.int .i64 J.many),(8,.pointer (some ⟨J.bt,0,none⟩)),(9,.pointer (some ⟨J.bb,0,none⟩)),(10,.pointer (some ⟨J.Wg,0,none⟩))] σ) aj zd hf hl ?_ ?_
  ·(conv=>whnf)
   have e:decide ((workers:Int)<(workers:Int))=false:=decide_eq_false zo;rw[e];exact zs
  rintro e σ1 a1 w1 O1 W1 nX fy ee ⟨rfl,rfl,eE⟩ _;replace ee:=ee.weaken eE.cB;refine⟨[.code tailA],rfl,?_⟩;rw[zu4];refine .ctl rfl (fun _=>stepG_seq) ?_;refine mi (Q:=fun e σ w'=>e=.normal∧∃bo be,St w1 No w' [mL bo J.many (List.replicate J.many B5),mK be J.many (List.replicate J.many Fe)]∧σ=Ea J.many J.bt J.bb J.Wg bo be) aj zd ee fy ?_ ?_
  ·refine ek.cut _ (ztC hm w1) ?_;rintro _ w2 ⟨bo,be,rfl,hS⟩;exact⟨rfl,bo,be,Rq hS (Ext.drawn _ _ _),rfl⟩
  rintro e σ2 a2 w2 O2 W2 kP ft ic ⟨rfl,bo,be,hS,rfl⟩ _;show gk _ _ _ _ _ _ _;refine .ctl rfl (fun _=>stepG_seq) ?_;refine .ctl rfl (fun _=>stepG_seq) ?_;refine mi (Q:=fun e σ w'=>e=.normal∧w'=w2∧Sub (qu J 0 0 bo be) σ) aj zd ic ft ?_ ?_
  ·exact zs
  rintro e σ3 a3 w3 O3 W3 uz tB iY ⟨rfl,rfl,vu⟩ _;replace iY:=iY.weaken vu.cB;show gk _ _ _ _ _ _ _;refine .ctl rfl (fun _=>stepG_block) ?_;refine .ctl rfl (fun _=>stepG_loop) ?_;have kM:=(hS.may (mL bo J.many (List.replicate J.many B5)) zi bo (by simp[mL,az,own,Value.ownBlock])).1.resolve_left id;have lp:=(hS.may (mK be J.many (List.replicate J.many Fe)) zi be (by simp[mK,az,own,Value.ownBlock])).1.resolve_left id;have cj:bo≠be:=fun e=>mj m4 hS.apart (i:=0) (j:=1) rfl rfl zd bo (by simp[mL,az,own,Value.ownBlock]) (by simp[mK,az,own,Value.ownBlock,e])
  have D4:∀{α:Type} {sz:Nat} {enc:α→List Value} {b:Nat} {e:TypeId} {xs:List α},w1.heap.size≤b→(az e sz enc (.slice (some ⟨b,0,none⟩) J.many J.many) xs).holds w3→O3 b:=fun hb h=>by
   obtain⟨_,⟨h6,_⟩|⟨g,cap,cur,h6,_,h7,_⟩⟩:=h
   ·cases h6
   ·injection h6 with e1 _ _
    injection e1 with e1
    injection e1 with e1
    subst e1;exact zwx tB h7
  have hR:dY J cg 0 (fun _=>false) bo be O3 w3:=⟨by omega,fun i hi=>(by cases hi),D4 kM (hS.get 0 rfl),D4 lp (hS.get 1 rfl),cj,fun b o v hb hv=>hS.ext.cell (jH b o v hb hv) id,_,_,List.length_replicate,List.length_replicate,hS.get 0 rfl,hS.get 1 rfl,fun i hi=>(by cases hi)⟩;exact Mg ok hm (by rw[zqO];omega) hR tB iY
end
open Go.ConcR (Payload WgAt KK DC0)
open Classical in
noncomputable def kQ (O:Nat→Prop)(w W:World):World:={ W with heap:=W.heap.mapIdx fun b o=>if O b then o else (w.heap[b]?).getD uS }
section
variable {O':Nat→Prop}{W':World}{b:Nat}
theorem LR (h:O b):(kQ O w W).heap[b]?=W.heap[b]?:=by
 simp only[kQ,Array.getElem?_mapIdx];cases W.heap[b]?<;>simp[h]
theorem SE (h:¬O b):(kQ O w W).heap[b]?=(W.heap[b]?).map fun _=>(w.heap[b]?).getD uS:=by
 simp only[kQ,Array.getElem?_mapIdx,if_neg h]
theorem Lj:(kQ O w W).heap.size=W.heap.size:=by simp[kQ]
theorem zs9 (hl:dx O Z w W)(hO:∀b,O b→O' b)(ho:wx O' W')(hz:∀b,Z b→W'.heap[b]?=W.heap[b]?):dx O' Z (kQ O' w W') W':=by
 have off:∀b o,¬O' b→(kQ O' w W').heap[b]?=some o→w.heap[b]?=some o∨o=uS:=fun b o hb h=>by
  rw[SE hb]at h;obtain⟨_,_,h2⟩:=Option.map_eq_some_iff.1 h;cases hw:w.heap[b]? with
  | none=>rw[hw]at h2;exact .inr h2.symm
  | some x=>rw[hw]at h2;exact .inl (by rw[←h2];rfl)
 refine⟨rfl,rfl,rfl,Nat.le_of_eq Lj,fun b hb=>?_,fun b o hb h=>?_⟩
 ·obtain⟨o,h1,h2⟩:=ho b hb;exact⟨o,(LR hb).trans h1,h1,h2⟩
 ·rcases off b o hb h with h|rfl
  ·rcases hl.rest b o (fun x=>hb (hO b x)) h with h1 | ⟨h1,c,t,f,h2,h3⟩
   ·exact .inl h1
   ·exact .inr ⟨h1,c,t,f,(hz b h1).trans h2,h3⟩
  ·exact .inl rfl
theorem zs8 (hs:Sm w W')(hsz:w.heap.size≤W'.heap.size)(ho:∀b,O' b→b<w.heap.size→W'.heap[b]?=w.heap[b]?):Ext No w (kQ O' w W'):=by
 refine⟨hs.os,hs.tape,hs.output,by rw[Lj];exact hsz,fun b hb _=>?_⟩;by_cases h:O' b
 ·rw[LR h];exact ho b h hb
 ·rw[SE h,Array.getElem?_eq_getElem (Nat.lt_of_lt_of_le hb hsz),Array.getElem?_eq_getElem hb];rfl
end
noncomputable def NJ (a:Act):Frame:=(base iA).at a [.inRegion (cY ej 22) [0],.code (.seq (.region 23 (cY ej 23) false) .ret)]
noncomputable def sE (a:Act)(cs:List Frame):Goroutine:=G ((base iA).at (a.put (some 59) (.tuple #[])) [.inRegion (cY ej 22) [],.code (.seq (.region 23 (cY ej 23) false) .ret)]) cs
theorem zvQ (a:Act)(cs:List Frame):sE a cs=G ((base iA).at (a.put ((cY ej 22)[0]?.bind fun x=>x.dst) (.tuple #[])) [.inRegion (cY ej 22) [],.code (.seq (.region 23 (cY ej 23) false) .ret)]) cs:=by obtain⟨_|_⟩:=kd<;>rfl
section
variable {bo be:Nat}{a:Act}
theorem YL:mayWake prog (mO a cs)=true:=by obtain⟨_|_⟩:=kd<;>rfl
theorem GO {P:Program}{main:Bool}{R:World→World→Prop}{Stop:Goroutine→World→Prop}{n:Nat}{g g':Goroutine}(hr:g.status=.running)(h:∀w,stepG P main g w=.go g' w #[])(hk:∀w1,R w w1→Goes P main R DC0 Stop n g' w1):Goes P main R DC0 Stop (n+1) g w :=
 Goes.step hr fun w1 h1=>by
  rw[h w1];simp only[goes_go];exact⟨⟨rfl,rfl⟩,hk w1 h1⟩
theorem zoE (hf:Fits 62 (D8 J bo be) a)(cj:J.ct≠J.Wg)(nu:WgLive 116 J.Wg W){m:Nat}{tm:Bool}(hc:W.heap[J.ct]?=some (.chan 0 #[] false m m tm)) :
  ∃a' es,stepG prog true (mO a cs) W=.go a' (W.setChan J.ct 0 #[] true m m tm) es∧a'.status=.running∧(∀e∈es,e=⟨.obj J.ct,false,true⟩∨e=⟨.obj J.ct,true,true⟩) ∧
   ∃n,Goes prog true (RL (bY J cg)) DC0 (Fo (bY J cg) (E1 Av (bY J cg) (NJ a) cs)) n a' (W.setChan J.ct 0 #[] true m m tm):=by
 obtain⟨b⟩:=kd
 letI kd:Kd:=⟨b⟩
 cases b
 all_goals
  refine⟨_,_,stepG_close rfl rfl zd rfl (x:=.tmp 58) (dt hf (x:=.tmp 58) rfl) hc zk,rfl,fun e he=>?_,7,?_⟩
  ·simpa[closeEvents]using he
  have l6:WgLive 116 J.Wg (W.setChan J.ct 0 #[] true m m tm):=let ⟨st,sm,x⟩:=nu;⟨st,sm,AD x (by
   simp only[World.setChan];exact Array.getElem?_setIfInBounds_ne cj)⟩
  generalize W.setChan J.ct 0 #[] true m m tm=W1 at l6;show Goes _ _ _ _ _ _ (G ((base iA).at (a.put none (.tuple #[])) _) cs) _;rw[show a.put none (.tuple #[])=a from rfl];refine GO rfl (fun _=>stepG_region_end) fun w1 r1=>?_
  replace l6:=r1 l6;refine GO rfl (fun _=>stepG_seq) fun w2 r2=>?_
  replace l6:=r2 l6;refine GO rfl (fun _=>stepG_region) fun w3 r3=>?_
  replace l6:=r3 l6
  have nQ:(#[Operand.tmp 10]).map a.eval = #[.pointer (some ⟨J.Wg,0,none⟩)]:=by
   simp only[List.map_toArray,List.map_cons,List.map_nil,dt hf (x:=.tmp 10) rfl]
  refine GO rfl (fun w=>KN (f:=38) (args:=#[.pointer (some ⟨J.Wg,0,none⟩)]) rfl rfl zd rfl nQ func38 zk rfl w) fun w4 r4=>?_
  replace l6:=r4 l6;exact zr5 (X:=bY J cg) (L:=Av) Ga w4 l6
end
def A3 (bo be many:Nat):Value:=.tuple #[.slice (some ⟨bo,0,none⟩) many many,.slice (some ⟨be,0,none⟩) many many]
section
variable {bo be:Nat}{a:Act}
theorem zwY (ho:wx O W)(hf:Fits 62 (D8 J bo be) a):gk prog true Z (fun _ g W'=>g=G (c.finish (A3 bo be J.many)) cs∧∀b,O b→W'.heap[b]?=W.heap[b]?) O (sE a (c::cs)) W:=by
 obtain⟨b⟩:=kd
 letI kd:Kd:=⟨b⟩
 cases b
 all_goals
  have hl:dx O Z (Pool.view O Z W) W:=uJ ho;have hv:∀b,O b→(Pool.view O Z W).heap[b]?=W.heap[b]?:=fun b hb=>uK hb
  generalize Pool.view O Z W=w at hl hv;unfold sE;have ee:Fits 62 (D8 J bo be) (a.put (some 59) (.tuple #[])):=(hf.put (d:=59) zd (.tuple #[])).weaken (Sub.cB zs);refine .ctl rfl (fun _=>stepG_region_end) ?_;refine .ctl rfl (fun _=>stepG_seq) ?_;refine mi (Q:=fun e σ w'=>e=.normal∧w'=w∧Sub [(6,.slice (some ⟨bo,0,none⟩) J.many J.many),(7,.slice (some ⟨be,0,none⟩) J.many J.many)] σ) aj zd ee hl ?_ ?_
  ·exact zs
  rintro e σ1 a1 w1 O1 W1 nX fy ee ⟨rfl,rfl,eE⟩ _;replace ee:=ee.weaken eE.cB;show gk _ _ _ _ _ _ _;refine .ctl rfl (fun _=>stepG_ret') ?_;have e6:a1.tmps[6]?=some (.slice (some ⟨bo,0,none⟩) J.many J.many):=ee.iM 6 _ rfl;have e7:a1.tmps[7]?=some (.slice (some ⟨be,0,none⟩) J.many J.many):=ee.iM 7 _ rfl;have kh:ej.results = #[.tmp 6,.tmp 7]:=rfl;refine .ctl rfl (fun w=>stepG_leave (v:=A3 bo be J.many) rfl ee.defers Nz (by simp[results,kh,e6,e7,A3]) (events_results_tmp2 kh _ _)) ?_;refine .stop fun W2 h2=>⟨rfl,fun b hb=>?_⟩
  obtain⟨o,x1,x2,_⟩:=fy.own b (nX b hb);rw[h2.keep b (.inl (nX b hb)),x2,←x1,hv b hb]
end
def U7 (w:World)(many:Nat)(cg:Nat→Value→Value→bZ→Prop)(v:Value)(w':World):Prop :=
 ∃(bo be:Nat) (xs:List rH) (ys:List qL),v=A3 bo be many∧xs.length=many∧ys.length=many∧St w No w' [mL bo many xs,mK be many ys] ∧
  ∀i,i<many→∃x y e,xs[i]?=some x∧ys[i]?=some y∧(y.1=.nilIface∨∃t u,y.1=.iface t u)∧cg i x.1 y.1 e∧e.Local∧e.holds w'∧∀b∈e.aW,w.heap.size≤b∧b<w'.heap.size
def E3 (w:World)(many:Nat)(fh:FuncId)(cap:List Value)(cg:Nat→Value→Value→bZ→Prop):Prop :=
 ∀i:Nat,i<many→∀w1:World,(∀b o v,w.cell? ⟨b,o,none⟩=some v→w1.cell? ⟨b,o,none⟩=some v)→(∀b,E2 w b→E2 w1 b)→aa prog fh (.int .i64 i::cap).toArray w1 fun v w'=>Ext No w1 w' ∧
  ∃x err e,v=.tuple #[x,err]∧B8 x∧(err=.nilIface∨∃t u,err=.iface t u)∧cg i x err e∧e.Local∧e.holds w'∧∀b∈e.aW,w1.heap.size≤b∧∃c t,w'.heap[b]?=some (.cells c t (0,0))
def TA (Z O:Nat→Prop)(w:World)(many:Nat)(cg:Nat→Value→Value→bZ→Prop)(c:Frame)(cs:List Frame)(O':Nat→Prop)(g:Goroutine)(W':World):Prop :=
 ∃v w',g=G (c.finish v) cs∧(∀b,O b→O' b)∧dx O' Z w' W'∧U7 w many cg v w'
section
variable {aA:Loc→Prop}{gs:Array Goroutine}  {t:Trace}{sl:Option (Nat × Nat)}{many:Nat}{fh:FuncId}{c0:Value}{oO:List Value}
theorem zyp (hR:wG J Z O w W)(hl:dx O Z w W)(h1:J.many=many)(h2:J.fh=fh)(h3:J.c0=c0)(h4:J.cs=oO)(hh:E3 w many fh (c0::oO) cg):AV J cg:=by
 subst h1 h2 h3 h4;intro i hi w1 hs hf;refine hh i hi w1 (fun b o v hv=>?_) fun b ⟨o,ho,FE⟩=>?_
 rotate_left
 ·obtain⟨c,t,hW⟩:=Hi hl ho FE;by_cases hb:O b
  ·refine hf b (hR.own b hb).1 ⟨c,t,(hR.own b hb).2.trans ?_⟩;obtain⟨o',e1,e2,_⟩:=hl.own b hb;rw[e1,←e2,hW]
  ·have hz:Z b:=by
    rcases hl.rest b _ hb ho with rfl | ⟨hz,_⟩
    ·cases FE
    ·exact hz
   exact hf b (hR.sub b hz) ⟨c,t,(hR.zz b hz).trans hW⟩
 by_cases hb:O b
 ·exact hs b o v (hR.own b hb).1 (ri hv (hR.own b hb).2)
 ·have hc:=hl.cell hv
  have hz:Z b:=by
   unfold World.cell? at hv;split at hv
   ·rename_i he;rcases hl.rest b _ hb he with e | ⟨hz,_⟩
    ·injection e with e
     subst e;simp at hv
    ·exact hz
   ·cases hv
  exact hs b o v (hR.sub b hz) (ri hc.1 (hR.zz b hz))
end
section
variable {aA:Loc→Prop}{gs:Array Goroutine}  {t:Trace}{sl:Option (Nat × Nat)}{many:Nat}{fh:FuncId}{c0:Value}{oO:List Value}
theorem ztc (hm:many≤100000)(FV:0<workers)(hlim:workers≤1000)(hh:E3 w many fh (c0::oO) cg)(hC:Calm prog Z aA gs W t O)
  (h0:gs[0]?=some (G (Frame.enter prog iA #[.int .i64 many,.int .i64 workers,.func (.func fh) #[] (c0::oO).toArray] .normal) (c::cs))) (hl:dx O Z w W) :
  Comes prog (crowd gs W sl) t fun m' t'=>∃iC gs' W' eI O' g',m'=crowd gs' W' eI∧Calm prog Z iC gs' W' t' O'∧gs'[0]?=some g'∧TA Z O w many cg c cs O' g' W'∧∀b,Z b→W'.heap[b]?=W.heap[b]?:=by
 refine(zoV (sl:=sl) hC h0 hl).bind fun m' t1 ⟨J,sJ,W1,iy,zg,e1,e2,e3,e4,hR,Kg,V4⟩=>?_
 subst zg;have hH:AV J cg:=zyp hR hl e1 e2 e3 e4 hh;subst e1;have ok:=hR.ok;have rY:=TT ok hH;have pl:eJ (bY J cg) (ShJ J):=⟨.inl rfl,.inr (.inl rfl),.inr (.inr rfl),hR.nb.1,hR.nb.2.1,hR.nb.2.2⟩;have jG:0<gs.size:=(Array.getElem?_eq_some_iff.1 h0).1;refine(RI ok hH pl hlim jG workers 0 rfl (Nat.zero_le _) sJ W1 t1 _ iy (V4 cg)).bind fun m' t2 ⟨lQ,W2,m3,O2,zj,hS⟩=>?_
 subst zj;obtain⟨a2,A6,CW⟩:=hS.head;have zT:yh J W2:=fun b o v hb hv=>ri hv (hS.zk b hb)
 have zZ:gk prog true J.Z (HZ J cg (c::cs) 0 fun _=>false) (upd O2 0 (fun _=>False) 0) a2 W2:=by
  rw[upd_same];exact above (fun _ h=>h) (zwW ok hm hS.low zT CW) ⟨fun _ h=>h.elim,fun _ h=>h.elim,hS.low,hS.sm⟩
 have hex:∃j,gs.size≤j∧j<lQ.size:=⟨gs.size,Nat.le_refl _,by have:=hS.size;omega⟩;refine(Yu (X:=bY J cg) (zs:=.int .i64 0) (SEL:=HZ J cg (c::cs)) (sl:=m3) rY (jP ok hm) pl hex (fun _ _ _ _ _ h=>zpn h) (hS.idle.less (O1:=fun _=>False) fun _ h=>h.elim) hS.pj (LI hS.wg) A6 zZ).bind fun m' t3 ⟨Cj,W3,Kz,O3,a3,done,WI,OD,Co,Wj,J5,Kh,Iw,ff,hall⟩=>?_
 subst WI;obtain⟨⟨bo,be,ready,mw,vo,kg,sR⟩,mz⟩:=ff W3 (.refl W3);have xd:left (bY J cg) done=0:=ztd hall;rcases sR with⟨h,_⟩|⟨_,act,hf,rfl⟩
 ·omega
 have xt:WgAt 116 J.Wg W3 ((Cj.size-gs.size:Nat)*KK) 0:=by
  have:Cj.size-gs.size=workers:=by have:=hS.size;omega
  rw[this];exact AD hS.wg J5
 have eK:(fun j=>gs.size≤j∧j<lQ.size)=fun j=>gs.size≤j∧j<Cj.size:=by rw[OD]
 rw[eK]at Co;have CN:eC J.ct W3:=Co.chan (by rw[←eK]at *;exact hex)
 refine(shut (X:=bY J cg) (Anch:=E1 Av (bY J cg) (NJ act) (c::cs)) (Fin:=U9 prog (sE act (c::cs))) (sl:=Kz) rY (fun g w ⟨T,e,_⟩=>by rw[e];rfl) (fun g w h=>by rw[zvQ];exact zr4 (X:=bY J cg) (L:=Av) Ga g w h) hR.nb.2.1 ⟨.inl rfl,.inr (.inr rfl)⟩ (by have:=hS.size;omega) jG Co CN Iw rfl YL xt
  (fun e m tm hc=>zoE (W:=W3.at e) hf hR.nb.2.1 ⟨_,_,xt⟩ hc)).bind fun m' t4 ⟨NK,W4,KA,a4,WJ,Xq,Ix,cx,q7,IP⟩=>?_
 subst WJ;obtain⟨n,hgo⟩:=cx W4;refine(ZO (X:=bY J cg) (R:=AtRel) rY (fun w d=>⟨d,rfl⟩) n a4 NK W4 t4 KA hgo IP Ix).bind fun m' t5 ⟨Ir,W5,KB,a5,WK,IQ,Iy,Xr,⟨e5,V7⟩,Wc⟩=>?_
 subst WK;obtain rfl:a5=sE act (c::cs):=Wc W5 ⟨W5.drawn,rfl⟩;have nZ:cv (O3 0) J.Z W3 W5:=by rw[V7];exact q7.trans (si W4 e5)
 have Dk:wx (O3 0) W5:=fun b hb=>let ⟨o,x1,x2⟩:=vo b hb;⟨o,(nZ.keep b (.inl hb)).trans x1,x2⟩
 refine(KQ (X:=bY J cg) rY (above (p:=fun _=>True) (q:=O3 0) (n:=W5.heap.size) (w0:=W5) (fun _ _=>trivial) (zwY (Z:=J.Z) (cs:=cs) (c:=c) Dk hf) ⟨fun _ _=>trivial,fun _ h=>h,Nat.le_refl _,.refl W5⟩) Ir t5 (fun g b=>g=0∧O3 0 b) KB (by funext b;simp) IQ Iy).mono fun m' t6 ⟨Iu,W6,KC,O6,a6,WL,IU,Iz,Xs,VZ,qW,aX⟩=>?_
 obtain⟨⟨rfl,qi⟩,yG⟩:=aX W6 (.refl W6)
 have eO:upd O6 0 (O3 0)=fun g b=>g=0∧O3 0 b:=by
  funext g b
  by_cases hg:g=0
  ·subst hg;rw[upd_same];simp
  ·rw[upd_ne _ _ hg,VZ g hg]
 have Fy:=IU.less (O1:=O3 0) yG.dn;rw[eO]at Fy;have sX:Calm prog Z _ Iu W6 t6 (fun b=>O3 0 b∨(J.Z b∧¬Z b)):=zqG (X:=bY J cg) hR.sub Fy;have Kr:∀b,O b→¬Z b:=fun b hb=>hC.core.apart.shr 0 b ⟨rfl,hb⟩
 have z6:∀b,J.Z b→W6.heap[b]?=J.W0.heap[b]?:=fun b hb=>(qW b (.inr hb)).trans ((nZ.keep b (.inr hb)).trans ((Kh b hb).trans (hS.zk b hb)))
 have o6:∀b,O3 0 b→W6.heap[b]?=W3.heap[b]?:=fun b hb=>(qi b hb).trans (nZ.keep b (.inl hb))
 have xf:wx (fun b=>O3 0 b∨(J.Z b∧¬Z b)) W6:=fun b hb=>by
  rcases hb with hb | ⟨hb,hn⟩
  ·obtain⟨o,x1,x2⟩:=vo b hb;exact⟨o,(o6 b hb).trans x1,x2⟩
  ·obtain⟨o,x1,x2⟩:=hR.Ks b hb hn;exact⟨o,(z6 b hb).trans x1,x2⟩
 have NT:∀b,O b→(O3 0 b∨(J.Z b∧¬Z b)):=fun b hb=>.inr ⟨(hR.own b hb).1,Kr b hb⟩
 have hsz:w.heap.size≤J.W0.heap.size:=Nat.le_trans hl.size hR.size;have JZ:J.W0.heap.size≤W6.heap.size:=Nat.le_trans mz.size (Nat.le_trans nZ.size yG.size);have JX:Sm w W6:=(Sm.trans ⟨hl.os.symm,hl.tape.symm,hl.output.symm⟩ hR.sm).trans (mz.sm.trans ((Sm.rely nZ).trans yG.sm));have qX:=zs9 hl NT xf fun b hb=>(z6 b (hR.sub b hb)).trans (hR.zz b hb)
 have pC:Ext No w (kQ (fun b=>O3 0 b∨(J.Z b∧¬Z b)) w W6):=zs8 JX (Nat.le_trans hsz JZ) fun b hb aQ=>by
  rcases hb with hb | ⟨hb,hn⟩
  ·have:J.W0.heap.size≤b:=mz.up b hb;omega
  ·rcases hR.news b hb with h|h|h
   ·exact absurd h hn
   ·exact(z6 b hb).trans (hR.own b h).2
   ·omega
 have hk:∀b,O3 0 b→(kQ (fun b=>O3 0 b∨(J.Z b∧¬Z b)) w W6).heap[b]?=W3.heap[b]?:=fun b hb=>(LR (.inl hb)).trans (o6 b hb)
 have sU:∀b,O3 0 b→w.heap.size≤b∧b<(kQ (fun b=>O3 0 b∨(J.Z b∧¬Z b)) w W6).heap.size:=fun b hb=>by
  have h1:J.W0.heap.size≤b:=mz.up b hb;obtain⟨o,x1,_⟩:=xf b (.inl hb);have:=(Array.getElem?_eq_some_iff.1 x1).1;rw[Lj];exact⟨by omega,this⟩
 obtain⟨xs,ys,hx,hy,vB,FX,y4⟩:=mw.rows;have fo:∀b,b∈(mL bo J.many xs).aW→b=bo:=fun b hb=>by simpa[mL,az,own,Value.ownBlock]using hb
 have fe:∀b,b∈(mK be J.many ys).aW→b=be:=fun b hb=>by simpa[mK,az,own,Value.ownBlock]using hb
 refine⟨_,Iu,W6,KC,_,_,WL,sX,Iz,⟨A3 bo be J.many,_,rfl,NT,qX,bo,be,xs,ys,rfl,hx,hy,⟨pC,fun e he=>?_,fun e he=>?_,fun e he b hb=>?_,?_⟩,fun i hi=>?_⟩,fun b hb=>(z6 b (hR.sub b hb)).trans (hR.zz b hb)⟩
 ·simp only[List.mem_cons,List.not_mem_nil,or_false]at he;rcases he with rfl|rfl
  ·exact GH _ _ (fun b hb=>hk b (fo b hb ▸ mw.oo)) vB
  ·exact GX _ _ (fun b hb=>hk b (fe b hb ▸ mw.oe)) FX
 ·simp only[List.mem_cons,List.not_mem_nil,or_false]at he;rcases he with rfl|rfl
  ·exact GH
  ·exact GX
 ·simp only[List.mem_cons,List.not_mem_nil,or_false]at he;rcases he with rfl|rfl
  ·have:=sU b (fo b hb ▸ mw.oo);exact⟨.inr this.1,this.2⟩
  ·have:=sU b (fe b hb ▸ mw.oe);exact⟨.inr this.1,this.2⟩
 ·refine .cons (fun f hf b hb dk=>?_) (.cons zi .nil);obtain rfl:f=mK be J.many ys:=by simpa using hf
  exact mw.ne ((fo b hb).symm.trans (fe b dk))
 ·obtain⟨x,y,e,g1,g2,g4,g5,g6,g7,g8⟩:=y4 i (hall i hi);exact⟨x,y,e,g1,g2,g4,g5,g6,g6 _ _ (fun b hb=>hk b (g8 b hb).1) g7,fun b hb=>sU b (g8 b hb).1⟩
end
end Pool
namespace Pool
open Go.Conc Gap Ev Go.RowKit Go.Conc.Lib
local instance:Gap.Leaps:=onLeaps
variable [kd:Kd]
theorem Uw {cg:Nat→Value→Value→bZ→Prop}{w:World}{many workers:Nat}{fh:FuncId}{c0:Value}{oO:List Value}(hm:many≤100000)(FV:0<workers)(hlim:workers≤1000)(hh:E3 w many fh (c0::oO) cg) :
  aa prog iA [.int .i64 many,.int .i64 workers,.func (.func fh) #[] (c0::oO).toArray].toArray w (U7 w many cg):=by
 have lS:=Pm (P:=prog) [.int .i64 many,.int .i64 workers,.func (.func fh) #[] (c0::oO).toArray].toArray Nz (by obtain⟨_|_⟩:=kd<;>kernel_rfl) (by obtain⟨_|_⟩:=kd<;>rfl);refine⟨.inl ⟨.of lS.1 (lS.2 w) rfl rfl,⟨.inr fun main Z Stop O W c cs _ hl hk=>?_⟩⟩⟩;refine .me (TA Z O w many cg c cs) rfl (fun W1 h1 Ot aA gs t sl hC h0=>ztc hm FV hlim hh hC h0 (hl.rely h1)) fun O' g' W' ⟨v,w',e,ho,dm,hr⟩=>?_
 subst e;exact hk v w' O' W' ho dm hr
end Pool
namespace Ev
variable [Gap.Leaps]
def H6 (n:Int):Prop:=-9223372036854775808≤n∧n≤9223372036854775807
def Pr.ok:Pr→Prop
 | .int n=>H6 n
 | .bool _=>True
 | .str s=>s.size≤maxLen
section
variable {P:Program}{w:World}
theorem zpo {rec_:TypeId→Option (List PK)}{D:Nat}{cs:List Value}(IH:∀(t:TypeId) (ks:List PK) (cs:List Value),rec_ t=some ks→P.cellsOf t=ks.length→p8 P w D t cs→∃ps:List Pr,cs=ps.map Pr.v∧ps.map Pr.k=ks∧∀p∈ps,p.ok) :
  ∀(fs:List Field) (off:Nat) (ks:List PK),wc P rec_ fs off=some ks→(∀f∈fs,p8 P w D f.type ((cs.drop f.offset).take (P.cellsOf f.type)))→∃ps:List Pr,(cs.drop off).take ks.length=ps.map Pr.v∧ps.map Pr.k=ks∧∀p∈ps,p.ok:=by
 intro fs
 induction fs with
 | nil =>
  intro off ks h _;simp only[wc,Option.some.injEq]at h;subst h;exact⟨[],by simp,rfl,by simp⟩
 | cons f r ih =>
  intro off ks h hs;unfold wc at h;split at h
  ·cases h
  ·rename_i hc;simp only[Bool.and_eq_true,bne_iff_ne,ne_eq,beq_iff_eq]at hc;obtain⟨⟨⟨_,rfl⟩,_⟩,_⟩:=hc;split at h
   ·cases h
   ·rename_i k hk;split at h
    ·cases h
    ·rename_i fZ;simp only[Bool.and_eq_true,Bool.or_eq_true,beq_iff_eq]at fZ;obtain⟨pO,hr,rfl⟩:=Option.map_eq_some_iff.1 h;obtain⟨ps,h1,h2,h3⟩:=IH f.type k _ hk fZ.1 (hs f zi);obtain⟨qs,h4,h5,h6⟩:=ih (f.offset+k.length) pO hr (fun g hg=>hs g (by simp[hg]));refine⟨ps++qs,?_,by rw[List.map_append,h2,h5],?_⟩
     ·rw[fZ.1]at h1;rw[List.length_append,List.take_add,List.drop_drop,h1,h4,List.map_append]
     ·intro p hp;rcases List.mem_append.1 hp with hp|hp
      ·exact h3 p hp
      ·exact h6 p hp
theorem ztJ:∀(d:Nat) (D:Nat) (t:TypeId) (ks:List PK) (cs:List Value),qI P d t=some ks→d≤D→P.cellsOf t=ks.length→p8 P w D t cs→∃ps:List Pr,cs=ps.map Pr.v∧ps.map Pr.k=ks∧∀p∈ps,p.ok:=by
 intro d
 induction d with
 | zero=>intro D t ks cs h;simp[qI]at h
 | succ d ih =>
  intro D t ks cs h hD hc hs;obtain⟨D,rfl⟩:∃D',D=D'+1:=⟨D-1,by omega⟩;unfold p8 at hs;unfold qI at h;split at h
  ·rename_i hu;rw[hu]at hs;simp only[Option.some.injEq]at h;subst h;obtain⟨n,rfl,hw⟩:=hs;refine⟨[.int n],rfl,rfl,?_⟩;intro p hp;obtain rfl:=List.mem_singleton.1 hp;have h1:IntKind.i64.min = -9223372036854775808:=rfl;have h2:IntKind.i64.max=9223372036854775807:=rfl;simp only[Lit.wf,Bool.and_eq_true,decide_eq_true_eq]at hw;show H6 n;unfold H6;omega
  ·rename_i hu;rw[hu]at hs;simp only[Option.some.injEq]at h;subst h;obtain⟨n,rfl⟩:=hs;exact⟨[.bool n],rfl,rfl,by intro p hp;obtain rfl:=List.mem_singleton.1 hp;trivial⟩
  ·rename_i hu;rw[hu]at hs;simp only[Option.some.injEq]at h;subst h;obtain⟨n,rfl,hn⟩:=hs;exact⟨[.str n],rfl,rfl,by intro p hp;obtain rfl:=List.mem_singleton.1 hp;exact hn⟩
  ·rename_i fs hu;rw[hu]at hs;split at h
   ·cases h
   ·obtain⟨hl,hf⟩:=hs
    obtain⟨ps,h1,h2,h3⟩:=zpo (w:=w) (D:=D) (cs:=cs) (fun t ks cs h hc hs=>ih D t ks cs h zo hc hs) fs.toList 0 ks h (fun f dH=>by
     obtain⟨i,hi⟩:=List.mem_iff_getElem?.1 dH;exact hf i f (by simpa using hi))
    refine⟨ps,?_,h2,h3⟩;rw[List.drop_zero,List.take_of_length_le zo]at h1;exact h1
  ·cases h
theorem Ep {l:List Pr}{k:PK}{ks:List PK}(h:l.map Pr.k=k::ks):∃p r,l=p::r∧p.k=k∧r.map Pr.k=ks:=by
 cases l with
 | nil=>cases h
 | cons p r =>
  simp only[List.map_cons,List.cons.injEq]at h;exact⟨p,r,rfl,h.1,h.2⟩
theorem zqL {l:List Pr}(h:l.map Pr.k=[]):l=[]:=by simpa using h
theorem Ni {p:Pr}(h:p.k=.int):∃n,p=.int n:=by cases p<;>simp[Pr.k]at h;exact⟨_,rfl⟩
theorem UA {p:Pr}(h:p.k=.bool):∃n,p=.bool n:=by cases p<;>simp[Pr.k]at h;exact⟨_,rfl⟩
end
end Ev
section
open Ev
variable [Gap.Leaps]
variable {a:Int}{ks:List Nat}{l:List UInt8}{cs:List Value}{b c d f g m n q u:Nat}{E:Nat→Addr}{S:Nat→Prop}{P:Program}{dst e src t:TypeId}{v:Value}{k:Value→Prop}{W w w' w0 w1:World}
theorem m5 {f:FuncId} {fn:Func} {e:Array Value → Sem Value}(hf : P.funcs[f]? = some fn) (eG : (fn.name == "runtime.NumGoroutine") = false)
  (hb:fn.body.isNone=true) (hn:Extern.findNext fn=none) (he:Extern.find fn=some e) (args:Array Value) (hp:Gap.Plain P (e args)):Gap.Plain P (callFunc f args):=by
 have h1 : fn.name ≠ "runtime.NumGoroutine" := by simpa using eG
 have h2:fn.body=none:=by simpa using hb
 unfold callFunc;refine Gap.eN ?_;simp only[hf,h1,h2,hn,he,beq_iff_eq,if_false,Option.isNone_none,if_true];refine Gap.af ⟨.inr ⟨f,rfl⟩,trivial⟩ fun _=>?_
 exact Gap.af hp fun _=>trivial
theorem zp3 (l:List UInt8)(c:UInt8)(w:World):aa prog 215 #[.string (bs l),.int .u8 (c.toNat:Int)] w fun v w'=>v=.int .i64 (l.count c:Int)∧w=w':=by
 have hr:(callFunc 215 #[.string (bs l),.int .u8 (c.toNat:Int)]).run prog w=.ok (.value (.int .i64 (l.count c:Int))) w:=by
  rw[run_callFunc_extern func215 zk zk zk (e:=Extern.BytealgCount.count) zk,Lib.run_countString];simp[Result.andThen,Lib.countByte,bs]
 refine aa.extern (m5 func215 zk zk zk (e:=Extern.BytealgCount.count) zk _ ?_) hr rfl rfl ⟨rfl,rfl⟩;exact trivial
theorem zqH (l:List UInt8)(c:UInt8)(w:World):aa prog 268 #[.string (bs l),.int .u8 (c.toNat:Int)] w fun v w'=>v=.int .i64 (Lib.indexByte l c)∧w=w':=by
 have hr:(callFunc 268 #[.string (bs l),.int .u8 (c.toNat:Int)]).run prog w=.ok (.value (.int .i64 (Lib.indexByte l c))) w:=by
  rw[run_callFunc_extern func268 zk zk zk (e:=Extern.BytealgIndexByte.indexByte) zk,Lib.run_indexByteString];simp[Result.andThen,bs]
 refine aa.extern (m5 func268 zk zk zk (e:=Extern.BytealgIndexByte.indexByte) zk _ ?_) hr rfl rfl ⟨rfl,rfl⟩
 show Gap.Plain _ (match (List.range (bs l).size).find? fun i=>(bs l)[i]! == _ with
  | some i=>pure (goInt i)
  | none=>pure (goInt (-1)):Sem Value)
 split<;>trivial
theorem Zn (l:List UInt8)(c:UInt8)(w:World):aa prog 249 #[.string (bs l),.int .u8 (c.toNat:Int)] w fun v w'=>v=.int .i64 (Lib.indexByte l c)∧w=w':=by
 refine zN func249 ntmps249 ?_;refine(zqH l c _).mono ?_;rintro v w' ⟨rfl,rfl⟩;exact zH
theorem RX (l:List UInt8)(c:UInt8)(w:World):aa prog 216 #[.string (bs l),.string (bs [c])] w fun v w'=>v=.int .i64 (Lib.indexByte l c)∧w=w':=by
 refine zN func216 ntmps216 ?_;refine rF ?_;by_cases hl:[c]=l
 ·rw[decide_eq_true hl];subst hl;refine zE ?_;exact⟨by simp[Lib.indexByte],rfl⟩
 ·rw[decide_eq_false hl];refine wu (j:=0) underlying9 rfl (x:=c) rfl ?_;refine(Zn l c _).mono ?_;rintro v w' ⟨rfl,rfl⟩;exact zH
theorem LQ (l:List UInt8)(c:UInt8)(w:World):aa prog 180 #[.string (bs l),.string (bs [c])] w fun v w'=>v=.int .i64 (Lib.indexByte l c)∧w=w':=by
 refine zN func180 ntmps180 ?_;refine(RX l c _).mono ?_;rintro v w' ⟨rfl,rfl⟩;exact zH
theorem Su (l:List UInt8)(c:UInt8)(w:World):aa prog 179 #[.string (bs l),.string (bs [c])] w fun v w'=>v=.int .i64 (l.count c:Int)∧w=w':=by
 refine zN func179 ntmps179 ?_;refine wu (j:=0) underlying9 rfl (x:=c) rfl ?_;refine(zp3 l c _).mono ?_;rintro v w' ⟨rfl,rfl⟩;exact zH
structure cC where
 proto:Int
 sa:Int
 sp:Int
 da:Int
 dp:Int
 flags:Int
deriving DecidableEq
def iN (p:cC):List Value:=[.int .i64 p.proto,.int .i64 p.sa,.int .i64 p.sp,.int .i64 p.da,.int .i64 p.dp,.int .i64 p.flags]
def i7:cC:=⟨0,0,0,0,0,0⟩
def qK (a p:Int):Bool:=decide (0≤a∧a≤1048576∧1≤p∧p≤65535)
def cC.bad (p:cC):Bool:=decide ((p.proto≠1∧p.proto≠2)∨qK p.sa p.sp=false∨qK p.da p.dp=false∨p.flags<0∨p.flags>15)
def cC.err (p:cC):Nat:=if p.bad=true then 2 else if p.proto=1∧p.flags≠0 then 3 else 0
theorem cC.sI (p:cC):p.err<12:=by
 unfold cC.err;split
 ·omega
 ·split<;>omega
theorem Uy (a p:Int)(w:World):aa prog 234 #[.agg #[.int .i64 a,.int .i64 p]] w fun v w'=>v=.bool (qK a p)∧Ext No w w':=by
 refine zN func234 ntmps234 ?_;have hS:=St.start w No;refine hS.new (fun b w' hb hS=>?_);repeat' ((conv=>whnf);first|apply aI.mk|refine bO.mk zd ?_|refine ag.mk zo zo ?_|refine ao.mk zo zo ?_|refine hS.ld 0 rfl rfl ?_|refine hS.mF 0 rfl rfl ?_|(first|apply aM|apply ca|apply cE|apply cD)<;>(intro))
 all_goals refine⟨congrArg Value.bool (Bool.eq_iff_iff.2 ?_),hS.ext⟩
 all_goals simp[qK]
 all_goals omega
theorem SD (a p:Int)(w:World):aa prog 210 #[.agg #[.int .i64 a,.int .i64 p]] w fun v w'=>v=.bool (qK a p)∧Ext No w w':=by
 refine zN func210 ntmps210 ?_;have hS:=St.start w No;refine hS.new (fun b w' hb hS=>?_);repeat' ((conv=>whnf);first|apply aI.mk|refine bO.mk zd ?_|refine ag.mk zo zo ?_|refine ao.mk zo zo ?_|refine hS.ld 0 rfl rfl ?_|refine hS.mF 0 rfl rfl ?_|(first|apply aM|apply ca|apply cE|apply cD)<;>(intro))
 all_goals refine⟨congrArg Value.bool (Bool.eq_iff_iff.2 ?_),hS.ext⟩
 all_goals simp[qK]
 all_goals omega
theorem Lq (p:cC)(w:World)(hE:bF w E n [2,3]):aa prog 202 #[.agg (iN p).toArray] w fun v w'=>v=gC E p.err∧Ext No w w':=by
 have mS:p.bad=decide ((p.proto≠1∧p.proto≠2)∨qK p.sa p.sp=false∨qK p.da p.dp=false∨p.flags<0∨p.flags>15):=rfl;refine zN func202 ntmps202 ?_;have hS:=St.start w No;refine hS.new (fun b w' hb hS=>?_);unfold cC.err;generalize hs:qK p.sa p.sp=s1 at mS;generalize hd:qK p.da p.dp=d1 at mS;repeat' ((conv=>whnf);first|apply aI.mk|refine bO.mk zd ?_|refine ag.mk zo zo ?_|refine ao.mk zo zo ?_|refine hS.ld 0 rfl rfl ?_|refine hS.mF 0 rfl rfl ?_|(refine(Uy p.sa p.sp _).mono ?_;rintro v w' ⟨rfl,aU⟩;replace hS:=hS.no aU;clear aU;rw[hs])|(refine(Uy p.da p.dp _).mono ?_;rintro v w' ⟨rfl,aU⟩;replace hS:=hS.no aU;clear aU;rw[hd])|refine hS.cK (hE.at_ 2 rfl) id ?_|refine hS.cV (hE.at_ 2 rfl) id id ?_|refine hS.cK (hE.at_ 3 rfl) id ?_|refine hS.cV (hE.at_ 3 rfl) id id ?_|(first|apply aM|apply ca|apply cE|apply cD)<;>(intro))
 all_goals refine⟨?_,hS.ext⟩
 all_goals clear hS
 all_goals rw[mS]
 all_goals clear mS hs hd
 all_goals (repeat' split)<;>first|rfl|(exfalso;simp_all;done)|(exfalso;simp_all;omega)
theorem Rw (p:cC)(w:World):aa prog 171 #[.agg (iN p).toArray] w fun v w'=>v=.int .i64 (p.err:Nat)∧Ext No w w':=by
 have mS:p.bad=decide ((p.proto≠1∧p.proto≠2)∨qK p.sa p.sp=false∨qK p.da p.dp=false∨p.flags<0∨p.flags>15):=rfl;refine zN func171 ntmps171 ?_;have hS:=St.start w No;refine hS.new (fun b w' hb hS=>?_);unfold cC.err;generalize hs:qK p.sa p.sp=s1 at mS;generalize hd:qK p.da p.dp=d1 at mS;repeat' ((conv=>whnf);first|apply aI.mk|refine bO.mk zd ?_|refine ag.mk zo zo ?_|refine ao.mk zo zo ?_|refine hS.ld 0 rfl rfl ?_|refine hS.mF 0 rfl rfl ?_|(refine(SD p.sa p.sp _).mono ?_;rintro v w' ⟨rfl,aU⟩;replace hS:=hS.no aU;clear aU;rw[hs])|(refine(SD p.da p.dp _).mono ?_;rintro v w' ⟨rfl,aU⟩;replace hS:=hS.no aU;clear aU;rw[hd])|(first|apply aM|apply ca|apply cE|apply cD)<;>(intro))
 all_goals refine⟨?_,hS.ext⟩
 all_goals clear hS
 all_goals rw[mS]
 all_goals clear mS hs hd
 all_goals (repeat' split)<;>first|rfl|(exfalso;simp_all;done)|(exfalso;simp_all;omega)
structure RuleS where
 allow:Bool
 out:Bool
 proto:Int
 low:Int
 top:Int
deriving DecidableEq
def eW (r:RuleS):List Value:=[.bool r.allow,.bool r.out,.int .i64 r.proto,.int .i64 r.low,.int .i64 r.top]
theorem vY:cR 5 eW:=⟨fun _=>rfl,fun _=>rfl,by decide⟩
def HL:RuleS:=⟨false,false,0,0,0⟩
def RuleS.bad (r:RuleS):Bool:=decide (r.proto<0∨r.proto>2∨r.low<1∨r.low>r.top∨r.top>65535)
def RuleS.fits (r:RuleS)(proto port:Int)(out:Bool):Bool:=decide (r.out=out∧(r.proto=0∨r.proto=proto)∧r.low≤port∧port≤r.top)
def ml (proto port:Int)(out:Bool):List RuleS→Bool
 | []=>false
 | r::l=>match r.fits proto port out with
  | true=>r.allow
  | false=>ml proto port out l
theorem Qj {proto port:Int}{out:Bool}{l:List RuleS}{k:Nat}{r:RuleS}(h:l[k]?=some r):ml proto port out (l.drop k)=match r.fits proto port out with|true=>r.allow|false=>ml proto port out (l.drop (k+1)):=by
 obtain⟨lt,e⟩:=List.getElem?_eq_some_iff.1 h;rw[List.drop_eq_getElem_cons lt,e];rfl
def mn:List RuleS→Nat→Int
 | [],_=>-1
 | r::l,k=>match r.bad with
  | true=>(k:Int)
  | false=>mn l (k+1)
theorem Rm {l:List RuleS}{k:Nat}{r:RuleS}(h:l[k]?=some r):mn (l.drop k) k=match r.bad with|true=>(k:Int)|false=>mn (l.drop (k+1)) (k+1):=by
 obtain⟨lt,e⟩:=List.getElem?_eq_some_iff.1 h;rw[List.drop_eq_getElem_cons lt,e];rfl
theorem L2:∀(l:List RuleS) (k:Nat),mn l k<0↔∀r∈l,r.bad=false
 | [],k=>by simp[mn]
 | r::l,k=>by
  unfold mn;cases h:r.bad
  ·simp[h,L2 l (k+1)]
  ·simp[h]
theorem MH:∀(l:List RuleS) (k:Nat),-1≤mn l k∧mn l k<k+l.length
 | [],k=>by simp[mn];omega
 | r::l,k=>by
  unfold mn;have:=MH l (k+1);cases h:r.bad;all_goals simp only[List.length_cons]
  all_goals omega
def gg (l:List RuleS):Nat × Int:=if l.length>20 then (2,-1) else if mn l 0<0 then (0,-1) else (2,mn l 0)
def zip (l:List RuleS):Prop:=l.length≤20∧∀r∈l,r.bad=false
instance (l:List RuleS):Decidable (zip l):=by unfold zip;infer_instance
theorem df {l:List RuleS}:(gg l).1=0↔zip l:=by
 unfold gg zip;split
 ·simp;omega
 ·split
  ·rename_i h1 h2;simp only[true_iff];exact⟨by omega,(L2 l 0).1 h2⟩
  ·rename_i h1 h2;simp only[Nat.reduceEqDiff,false_iff];rintro⟨_,h⟩;exact h2 ((L2 l 0).2 h)
theorem QI (l:List RuleS):(gg l).1=0∧(gg l).2 = -1∨(gg l).1=2∧(gg l).2 = -1∨(gg l).1=2∧0≤(gg l).2:=by
 unfold gg;split
 ·exact .inr (.inl ⟨rfl,rfl⟩)
 ·split
  ·exact .inl ⟨rfl,rfl⟩
  ·exact .inr (.inr ⟨rfl,by dsimp only;omega⟩)
structure kI (w:World)(E:Nat→Addr)(n:Nat)(ks:List Nat):Prop where
 at_:∀k,ks.contains k=true→w.cell? ⟨nI k,0,none⟩=some (.iface 390 (.pointer (some (E k))))
 lt:∀k,ks.contains k=true→nI k<n
theorem bF.cells (h:bF w E n ks):kI w E n ks:=⟨h.at_,h.lt⟩
theorem kI.ext (h:kI w E n ks)(hx:Ext S w w')(hS:∀b,S b→n≤b):kI w' E n ks :=
 ⟨fun k hk=>hx.cell (h.at_ k hk) (fun hs=>by have:=hS _ hs;have:=h.lt k hk;omega),h.lt⟩
theorem kI.sub {pO:List Nat}(h:kI w E n ks)(hs:pO.all (fun k=>ks.contains k)=true):kI w E n pO:=by
 have key:∀k,pO.contains k=true→ks.contains k=true:=fun k hk=>List.all_eq_true.1 hs k (by simpa using hk)
 exact⟨fun k hk=>h.at_ k (key k hk),fun k hk=>h.lt k (key k hk)⟩
def dS (E:Nat→Addr)(w0 w:World)(v:Value)(c:Nat)(a:Int):Prop :=
 (a = -1∧v=gC E c)∨(0≤a∧0<c∧∃f,v=.iface 87 (.pointer (some ⟨f,0,none⟩))∧w0.heap.size≤f∧bC w f 91 [.int .i64 a,gC E c])
theorem dS.no (h:dS E w0 w v c a)(hx:Ext No w w'):dS E w0 w' v c a:=by
 rcases h with h | ⟨h1,h2,f,h3,h4,h5⟩
 ·exact .inl h
 ·exact .inr ⟨h1,h2,f,h3,h4,hx.blk h5 id⟩
theorem dS.D2 (h:dS E w1 w v c a)(hle:w0.heap.size≤w1.heap.size):dS E w0 w v c a:=by
 rcases h with h | ⟨h1,h2,f,h3,h4,h5⟩
 ·exact .inl h
 ·exact .inr ⟨h1,h2,f,h3,Nat.le_trans hle h4,h5⟩
theorem dS.ne (h:dS E w0 w v (c+1) a):∃t u,v=.iface t u:=by
 rcases h with⟨_,h⟩|⟨_,_,f,h,_⟩
 ·exact⟨_,_,h⟩
 ·exact⟨_,_,h⟩
section
variable {G:RuleS→Prop}{a b:Option Addr}  {xs ys:List RuleS}
theorem zv1 (r:RuleS)(w:World):aa prog 67 ([Value.agg (eW r).toArray]++[]).toArray w fun v w'=>v=.bool r.bad∧Ext No w w':=by
 refine zN func67 ntmps67 ?_;have hS:=St.start w No;refine hS.new (fun b w' hb hS=>?_);repeat' ((conv=>whnf);first|apply aI.mk|refine bO.mk zd ?_|refine ag.mk zo zo ?_|refine ao.mk zo zo ?_|refine hS.ld 0 rfl rfl ?_|refine hS.mF 0 rfl rfl ?_|(first|apply aM|apply ca|apply cE|apply cD)<;>(intro))
 all_goals refine⟨congrArg Value.bool (Bool.eq_iff_iff.2 ?_),hS.ext⟩
 all_goals simp[RuleS.bad]
 all_goals omega
theorem zoU (hx:bQ w 5 eW G a n xs) :
  aa prog 66 #[.slice a n c,.func (.func 67) #[] #[]] w fun v w'=>v=.int .i64 (mn xs 0)∧Ext No w w':=by
 have hm:=hx.max;have hl:=hx.len;refine zN func66 ntmps66 ?_;have hS:=St.start w No
 refine d5 aj (fun σ w' q=>∃k:Nat,σ=[(8,.int .i64 (k:Int)),(7,.int .i64 n),(1,.func (.func 67) #[] #[]),(0,.slice a n c)]∧q=n-k∧k≤n∧St w No w' []∧mn xs 0=mn (xs.drop k) k)
  (σ':=[(8,.int .i64 ((0:Nat):Int)),(7,.int .i64 n),(1,.func (.func 67) #[] #[]),(0,.slice a n c)]) (n:=n) zs ⟨0,rfl,rfl,Nat.zero_le _,hS,by simp⟩ ?_
 rintro _ w1 q ⟨k,rfl,rfl,hk,hS,hi⟩;apply aR<;>intro h3
 ·obtain⟨b0,o0,x,dB,wY,rfl,_,hc⟩:=hx.at (k:=k) zo;have aX:=Rm dB;refine ao.mk zo zo ?_;refine hS.mV (l:=eW x) rfl hc id ?_;refine hS.cn (zv1 x _) fun w' hS=>?_
  apply aR<;>intro h4
  ·refine zE ?_;rw[hi,aX,h4];exact⟨rfl,hS.ext⟩
  ·refine ag.mk zo zo ?_;refine aD.mk ⟨_,[(8,.int .i64 ((k+1:Nat):Int)),(7,_),(1,_),(0,_)],?_,zs,⟨k+1,rfl,rfl,by omega,hS,by rw[hi,aX,h4]⟩⟩;omega
 ·refine zE ?_;have:k=n:=by omega
  subst this;rw[hi,List.drop_of_length_le zo];exact⟨rfl,hS.ext⟩
theorem Qx (hx:bQ w 5 eW G a n xs)(hE:kI w E q [2]) :
  aa prog 32 #[.slice a n c] w fun v w'=>dS E w w' v (gg xs).1 (gg xs).2∧Ext No w w':=by
 have hl:=hx.len;have tq:=MH xs 0;unfold gg;refine zN func32 ntmps32 ?_;have hS:=St.start w No;apply aR<;>intro h1
 ·rw[if_pos zo];repeat' first|refine zP ?_|refine hS.cK (hE.at_ 2 rfl) id ?_|refine hS.cV (hE.at_ 2 rfl) id id ?_
  exact⟨.inl ⟨rfl,rfl⟩,hS.ext⟩
 rw[if_neg zo];refine hS.cn (zoU hx) fun w' hS=>?_
 apply aR<;>intro h2
 ·rw[if_neg zo];repeat' first|refine zP ?_|refine hS.cK (hE.at_ 2 rfl) id ?_|refine hS.cV (hE.at_ 2 rfl) id id ?_|refine hS.new (fun f w' hf hS=>?_)
  exact⟨.inr ⟨by dsimp only;omega,by dsimp only;omega,f,rfl,hf,hS.blk 0 rfl⟩,hS.ext⟩
 ·rw[if_pos zo];refine zE ?_;exact⟨.inl ⟨rfl,rfl⟩,hS.ext⟩
theorem G2 (hx:bQ w 5 eW G a n xs)(hE:bF w E q [2]) :
  aa prog 32 #[.slice a n c] w fun v w'=>dS E w w' v (gg xs).1 (gg xs).2∧Ext No w w':=Qx hx hE.cells
theorem zpJ (hx:bQ w 5 eW G a n xs)(proto port:Int)(out:Bool) :
  aa prog 267 #[.slice a n c,.int .i64 proto,.int .i64 port,.bool out] w fun v w'=>v=.bool (ml proto port out xs)∧Ext No w w':=by
 have hm:=hx.max;have hl:=hx.len;refine r5 aj func267 zk rfl ntmps267 zl ?_;have hS:=St.start w No;(conv=>whnf)
 refine d5 aj (fun σ w' q=>∃k:Nat,σ=[(13,.int .i64 (k:Int)),(12,.int .i64 n),(11,.slice a n c),(3,.bool out),(2,.int .i64 port),(1,.int .i64 proto)]∧q=n-k∧k≤n∧St w No w' []∧ml proto port out xs=ml proto port out (xs.drop k))
  (σ':=[(13,.int .i64 ((0:Nat):Int)),(12,.int .i64 n),(11,.slice a n c),(3,.bool out),(2,.int .i64 port),(1,.int .i64 proto)]) (n:=n) zs ⟨0,rfl,rfl,Nat.zero_le _,hS,by simp⟩ ?_
 clear hS;rintro _ w1 q ⟨k,rfl,rfl,hk,hS,hi⟩;(conv=>whnf);refine aM (fun h3=>?_) (fun h3=>?_)
 ·obtain⟨b0,o0,x,dB,wY,rfl,_,hc⟩:=hx.at (k:=k) zo;have aX:=Qj (proto:=proto) (port:=port) (out:=out) dB;refine ao.mk zo zo ?_;refine hS.mV (l:=eW x) rfl hc id ?_;refine hS.new (fun bx w' hb hS=>?_);refine hS.sT 0 fun w' hS=>?_
  have yes:x.fits proto port out=true→ml proto port out xs=x.allow:=fun h=>by rw[hi,aX,h]
  have no:x.fits proto port out=false→ml proto port out xs=ml proto port out (xs.drop (k+1)):=fun h=>by rw[hi,aX,h]
  repeat' ((conv=>whnf);first|apply aI.mk|refine bO.mk zd ?_|refine ag.mk zo zo ?_|refine ao.mk zo zo ?_|refine hS.ld 0 rfl rfl ?_|refine hS.mF 0 rfl rfl ?_|(first|apply aM|apply ca|apply cE|apply cD)<;>(intro))
  all_goals first
   | (refine⟨congrArg Value.bool (yes ?_).symm,hS.ext⟩;clear hS yes no;simp_all[RuleS.fits]<;>intros<;>omega)
   | (replace no:=no (by clear hS yes no;simp_all[RuleS.fits]<;>intros<;>omega);clear yes;refine aD.mk ⟨_,[(13,.int .i64 ((k+1:Nat):Int)),(12,_),(11,_),(3,_),(2,_),(1,_)],?_,zs,⟨k+1,rfl,rfl,by omega,hS.keep 0,no⟩⟩;omega)
   | trace_state
 ·refine zE ?_;have:k=n:=by omega
  subst this;rw[hi,List.drop_of_length_le zo];exact⟨rfl,hS.ext⟩
theorem zos (hx:bQ w 5 eW G a n xs)(p:cC)(out:Bool)(hE:bF w E q [2,3]) :
  aa prog 240 #[.slice a n c,.agg (iN p).toArray,.bool out] w fun v w'=>(∃e,v=.tuple #[.bool (decide (zip xs∧p.err=0)&&ml p.proto p.dp out xs),e]∧dS E w w' e (if (gg xs).1=0 then p.err else (gg xs).1) (if (gg xs).1=0 then -1 else (gg xs).2))∧Ext No w w':=by
 have hg:=df (l:=xs);have Be:=QI xs;refine zN func240 ntmps240 ?_;have hS:=St.start w No;refine hS.new (fun bp w' qe hS=>?_);refine(G2 (hx.no hS.ext) ((hE.sub rfl).ext hS.ext fun _ h=>h.elim)).mono ?_;rintro v w2 ⟨hf,aU⟩;have hle:=hS.ext.size;replace hS:=hS.no aU;generalize qh:gg xs=F at hf hg Be;obtain⟨fc,fa⟩:=F;dsimp only at hf hg Be ⊢;cases fc with
 | succ j =>
  rw[if_neg zo,if_neg zo,decide_eq_false (fun h=>by have:=hg.2 h.1;omega)];obtain⟨t,u,rfl⟩:=hf.ne;refine zE ?_;refine⟨⟨_,rfl,?_⟩,hS.ext⟩;exact hf.D2 hle
 | zero =>
  have FH:zip xs:=hg.1 rfl;rw[if_pos rfl,if_pos rfl]
  obtain rfl:v=.nilIface:=by
   rcases hf with⟨_,h⟩|⟨_,h,_⟩
   ·exact h
   ·omega
  refine hS.lX 0 ?_;refine hS.cn (Lq p _ (hE.ext hS.ext fun _ h=>h.elim)) fun w3 hS=>?_
  cases hpe:p.err with
  | succ j =>
   rw[decide_eq_false zo];refine zE ?_;exact⟨⟨_,rfl,.inl ⟨rfl,rfl⟩⟩,hS.ext⟩
  | zero =>
   rw[decide_eq_true ⟨FH,rfl⟩,Bool.true_and];repeat' first|refine zP ?_|refine hS.lD 0 ?_|refine hS.lX 0 ?_
   refine hS.cn (zpJ (hx.no hS.ext) p.proto p.dp out) fun w' hS=>?_
   refine zE ?_;exact⟨⟨_,rfl,.inl ⟨rfl,rfl⟩⟩,hS.ext⟩
end
def Fi (c:Nat)(a:Int):List Value:=[.int .i64 (c:Int),.int .i64 a]
section
variable {G G':RuleS→Prop}{a b:Option Addr}  {xs ys:List RuleS}
theorem MI (k:Nat)(w:World):aa prog 22 #[.int .i64 (k:Int)] w fun v w'=>v=.agg (Fi k (-1)).toArray∧Ext No w w':=by
 refine zN func22 ntmps22 ?_;have hS:=St.start w No;repeat' first|refine zP ?_|refine hS.new (fun b w' hb hS=>?_)|refine hS.sT 0 fun w' hS=>?_|refine hS.lX 0 ?_
 exact⟨rfl,hS.ext⟩
theorem TM (w:World):aa prog 23 #[] w fun v w'=>v=.agg (Fi 0 (-1)).toArray∧Ext No w w':=by
 refine zN func23 ntmps23 ?_;have hS:=St.start w No;repeat' first|refine zP ?_|refine hS.new (fun b w' hb hS=>?_)|refine hS.sT 0 fun w' hS=>?_|refine hS.lX 0 ?_
 exact⟨rfl,hS.ext⟩
theorem Y0 (hx:bQ w 5 eW G a n xs):aa prog 8 #[.slice a n c] w fun v w'=>v=.agg (Fi (gg xs).1 (gg xs).2).toArray∧Ext No w w':=by
 have hm:=hx.max;have hl:=hx.len;have tq:=MH xs 0;unfold gg;refine zN func8 ntmps8 ?_;have hS:=St.start w No;refine hS.new (fun bf w' rQ hS=>?_);apply aR<;>intro h1
 ·rw[if_pos zo];repeat' first|refine zP ?_|refine hS.cn (MI 2 _) fun w' hS=>?_|refine hS.sT 0 fun w' hS=>?_|refine hS.lX 0 ?_
  exact⟨rfl,hS.ext⟩
 rw[if_neg zo]
 refine d5 aj (fun σ w' q=>∃k:Nat,σ=[(3,.int .i64 (k:Int)),(2,.pointer (some ⟨bf,0,none⟩)),(0,.slice a n c)]∧q=n-k∧k≤n∧St w No w' [blk bf 33 [.int .i64 0,.int .i64 0]]∧mn xs 0=mn (xs.drop k) k)
  (σ':=[(3,.int .i64 ((0:Nat):Int)),(2,.pointer (some ⟨bf,0,none⟩)),(0,.slice a n c)]) (n:=n) zs ⟨0,rfl,rfl,Nat.zero_le _,hS,by simp⟩ ?_
 rintro _ w1 q ⟨k,rfl,rfl,hk,hS,hi⟩;apply aR<;>intro h3
 ·obtain⟨b0,o0,x,dB,wY,rfl,_,hc⟩:=hx.at (k:=k) zo;have aX:=Rm dB;refine ao.mk zo zo ?_;refine hS.mV (l:=eW x) rfl hc id ?_;refine hS.new (fun bx w' hb hS=>?_);refine hS.sT 1 fun w' hS=>?_
  have yes:x.bad=true→mn xs 0=k:=fun h=>by rw[hi,aX,h]
  have no:x.bad=false→mn xs 0=mn (xs.drop (k+1)) (k+1):=fun h=>by rw[hi,aX,h]
  repeat' ((conv=>whnf);first|apply aI.mk|refine bO.mk zd ?_|refine ag.mk zo zo ?_|refine ao.mk zo zo ?_|refine hS.ld 0 rfl rfl ?_|refine hS.ld 1 rfl rfl ?_|refine hS.mF 0 rfl rfl ?_|refine hS.mF 1 rfl rfl ?_|refine hS.st 0 rfl zl rfl (fun w' hS=>?_)|(first|apply aM|apply ca|apply cE|apply cD)<;>(intro))
  all_goals first
   | (have hb:x.bad=true:=by { clear hS yes no;simp_all[RuleS.bad]<;>intros<;>omega };rw[if_neg (by have:=yes hb;omega),yes hb];exact⟨rfl,hS.ext⟩)
   | (replace no:=no (by clear hS yes no;simp_all[RuleS.bad]<;>intros<;>omega);clear yes;refine aD.mk ⟨_,[(3,.int .i64 ((k+1:Nat):Int)),(2,_),(0,_)],?_,zs,⟨k+1,rfl,rfl,by omega,hS.keep 1,no⟩⟩;omega)
 ·have:k=n:=by omega
  subst this;rw[hi,List.drop_of_length_le zo,if_pos (by simp[mn])];repeat' first|refine zP ?_|refine hS.cn (TM _) fun w' hS=>?_|refine hS.sT 0 fun w' hS=>?_|refine hS.lX 0 ?_
  exact⟨rfl,hS.ext⟩
theorem ZM (hx:bQ w 5 eW G a n xs)(proto port:Int)(out:Bool) :
  aa prog 174 #[.slice a n c,.int .i64 proto,.int .i64 port,.bool out] w fun v w'=>v=.bool (ml proto port out xs)∧Ext No w w':=by
 have hm:=hx.max;have hl:=hx.len;refine zN func174 ntmps174 ?_;have hS:=St.start w No
 refine d5 aj (fun σ w' q=>∃k:Nat,σ=[(9,.int .i64 (k:Int)),(3,.bool out),(2,.int .i64 port),(1,.int .i64 proto),(0,.slice a n c)]∧q=n-k∧k≤n∧St w No w' []∧ml proto port out xs=ml proto port out (xs.drop k))
  (σ':=[(9,.int .i64 ((0:Nat):Int)),(3,.bool out),(2,.int .i64 port),(1,.int .i64 proto),(0,.slice a n c)]) (n:=n) zs ⟨0,rfl,rfl,Nat.zero_le _,hS,by simp⟩ ?_
 rintro _ w1 q ⟨k,rfl,rfl,hk,hS,hi⟩;apply aR<;>intro h3
 ·obtain⟨b0,o0,x,dB,wY,rfl,_,hc⟩:=hx.at (k:=k) zo;have aX:=Qj (proto:=proto) (port:=port) (out:=out) dB;refine ao.mk zo zo ?_;refine hS.mV (l:=eW x) rfl hc id ?_;refine hS.new (fun bx w' hb hS=>?_);refine hS.sT 0 fun w' hS=>?_
  have yes:x.fits proto port out=true→ml proto port out xs=x.allow:=fun h=>by rw[hi,aX,h]
  have no:x.fits proto port out=false→ml proto port out xs=ml proto port out (xs.drop (k+1)):=fun h=>by rw[hi,aX,h]
  repeat' ((conv=>whnf);first|apply aI.mk|refine bO.mk zd ?_|refine ag.mk zo zo ?_|refine ao.mk zo zo ?_|refine hS.ld 0 rfl rfl ?_|refine hS.mF 0 rfl rfl ?_|(first|apply aM|apply ca|apply cE|apply cD)<;>(intro))
  all_goals first
   | (refine⟨congrArg Value.bool (yes ?_).symm,hS.ext⟩;clear hS yes no;simp_all[RuleS.fits]<;>intros<;>omega)
   | (replace no:=no (by clear hS yes no;simp_all[RuleS.fits]<;>intros<;>omega);clear yes;refine aD.mk ⟨_,[(9,.int .i64 ((k+1:Nat):Int)),(3,_),(2,_),(1,_),(0,_)],?_,zs,⟨k+1,rfl,rfl,by omega,hS.keep 0,no⟩⟩;omega)
 ·refine zE ?_;have:k=n:=by omega
  subst this;rw[hi,List.drop_of_length_le zo];exact⟨rfl,hS.ext⟩
theorem ZE (hx:bQ w 5 eW G a n xs)(hn:n≤1000) :
  aa prog 6 #[.slice a n c] w fun v w'=>∃a' c',v=.slice a' n c'∧Ext No w w'∧(az 58 5 eW v xs).holds w'∧m7 w w' v:=by
 have hl:=hx.len;refine zN func6 ntmps6 ?_;have hS:=St.start w No;have hS:=hS.add (fq (e:=58) (enc:=eW) (sz:=5) (v:=.slice none 0 0) (xs:=[])) (sf _ _ _) (by simp[az,own,Value.ownBlock]) (by simp[az,own,Value.ownBlock]);refine hS.d8 vY 0 underlying22 (bytes:=32) zk (z:=.agg (eW HL).toArray) zk rfl rfl hx (by unfold maxLen;simp;omega) (by simp;omega) (fun a2 c2 w' hS=>?_);have jq:([]:List RuleS).length+n=n:=by simp
 rw[jq,List.nil_append]at hS;rw[jq];refine zE ?_;exact⟨a2,c2,rfl,hS.ext,hS.get 0 rfl,hS.du 0 rfl⟩
end
open Go.RowKit
section
variable {kd:IntKind}
theorem VA {b:Int}(hk:k (.bool (decide (a>b)))):aB P (Go.binOp .gtr t (.int kd a) (.int kd b)) k :=
 aB.of (fun w=>by simp[Go.binOp,Op.intCmp]) hk
theorem Vl {op:BinOp}{b m:Int}(ho:op=.add∨op=.sub∨op=.mul)(hw:kd.wrap (match op with | .add=>a+b | .sub=>a-b|_=>a*b)=m)(hk:k (.int kd m)):aB P (Go.binOp op t (.int kd a) (.int kd b)) k :=
 aB.of (fun w=>by
  subst hw;rcases ho with rfl|rfl|rfl<;>simp[Go.binOp,Op.intArith]) hk
end
section
variable {ty:TypeId}  {c0 c1 c2 c3 c4 c5:Value}{rest:List Value}
end
section
end
section
end
section
variable {n:Int}
end
open Gap
theorem Pa:∀(n:Nat) (a:Addr) (acc:ByteArray),Gap.Plain P (Go.loadBytes a acc n)
 | 0,_,_=>trivial
 | n+1,a,acc=>by
  unfold Go.loadBytes;refine af (dV a) fun v=>?_
  split
  ·exact Pa n _ _
  ·trivial
section
variable {pt it ty:TypeId}
theorem zrZ (hp:P.underlying pt=some (.pointer e))(hc:P.cellsOf e=1)(hB:bC w b e cs)(h0:l≠[])(yD:l.length≤1000000)(fZ:cs.take l.length=l.map fun x=>.int .u8 (x.toNat:Int)) :
  Quiet P (Builtin.unsafeString_ #[pt,it] ty #[.pointer (some ⟨b,0,none⟩),.int .i64 (l.length:Int)]) w (.string (bs l)) (w.freeze ⟨b,0,none⟩ l.length):=by
 have hle:l.length≤cs.length:=by
  have:=congrArg List.length fZ;simp at this;omega
 have hB:w.heap[b]?=some (.cells cs.toArray e (0,0)):=hB;have xd:l.length≠0:=by simpa using h0
 have cell:∀W:World,W.heap[b]?=some (.cells cs.toArray e (0,0))→∀j x,l[j]?=some x→W.cell? ((⟨b,0,none⟩:Addr).add j)=some (.int .u8 (x.toNat:Int)):=fun W hW j x hj=>by
  have aQ:=(List.getElem?_eq_some_iff.1 hj).1
  have h1:cs[j]?=some (.int .u8 (x.toNat:Int)):=by
   have h2:(cs.take l.length)[j]?=some (.int .u8 (x.toNat:Int)):=by rw[fZ,List.getElem?_map,hj];rfl
   rwa [List.getElem?_take_of_lt aQ]at h2
  by_cases NL:j=0
  ·subst NL;simp[World.cell?,Addr.add,hW,h1]
  ·simp[World.cell?,Addr.add,hW,h1,NL]
 intro O Z W hl
 have hO:O b:=Classical.byContradiction fun hn=>by
  rcases hl.rest b _ hn hB with e2 | ⟨_,c,t,f,_,e2⟩
  ·cases e2
  ·exact(Gap.gJ e2).elim
 obtain⟨o,o1,o2,o3⟩:=hl.own b hO
 have hW:W.heap[b]?=some (.cells cs.toArray e (0,0)):=by
  rw[hB]at o1;rw[o2,←o1]
 have hsh:W.shape? b=some (e,cs.length):=by simp[World.shape?,hW]
 have cm:=Lib.run_unsafeString_row (P:=P) (w:=W) pt it ty e hp hc b cs.length hsh l h0 hle zo (cell W hW);have C8:=Lib.run_loadBytes (P:=P) W l ⟨b,0,none⟩ .empty (cell W hW);have Jw:=Lib.run_loadBytes (P:=P) w l ⟨b,0,none⟩ .empty (cell w hB);obtain⟨W2,hD,_,_⟩:=ru _ w W w O _ (Pa l.length ⟨b,0,none⟩ .empty) hl Jw (.inr ⟨rfl,rfl⟩)
 have hf:∀X:World,X.freeze ⟨b,0,none⟩ l.length={ X with heap:=X.heap.modify b fun | .cells c elem (lo,hi)=>.cells c elem (if lo == hi then (0,0+l.length) else (min lo 0,max hi (0+l.length)))|o=>o }:=fun X=>by
  unfold World.freeze;rw[if_neg xd];rfl
 have cj:∀(X:World) (k:Nat),k≠b→(X.freeze ⟨b,0,none⟩ l.length).heap[k]?=X.heap[k]?:=fun X k hk=>by
  rw[hf];simp only[Array.getElem?_modify];rw[if_neg (fun h=>hk h.symm)]
 have hsz:∀X:World,(X.freeze ⟨b,0,none⟩ l.length).heap.size=X.heap.size:=fun X=>by rw[hf];simp
 have sR:∀X:World,X.heap[b]?=some (.cells cs.toArray e (0,0))→(X.freeze ⟨b,0,none⟩ l.length).heap[b]?=some (.cells cs.toArray e (0,0+l.length)):=fun X hX=>by
  rw[hf];simp only[Array.getElem?_modify,if_true,hX];rfl
 refine⟨W.freeze ⟨b,0,none⟩ l.length,⟨cm,by rw[hf],by rw[hf],by rw[hf],by rw[hsz];exact Nat.le_refl _,fun k _ hk=>cj W k fun h=>hk (h ▸ hO),fun ev hev=>?_⟩,?_,by rw[hf]⟩
 ·rw[Hg (hsz W)]
  have Ct:W2=W:=by
   have h1:=hD.run;rw[C8]at h1;injection h1 with _ h1
   exact h1.symm
  subst Ct;have h2:=hD.evs;rw[eM]at h2;refine h2 ev ?_;have nS:=Lib.liesAt_bytes (P:=P) hc (cs.length / P.cellsOf e) l.length (by rw[hc];simpa using hle);have ID:¬(9223372036854775807:Int)<(l.length:Int):=by omega
  obtain⟨e1,u1,u2,tf⟩:∃e1 u1 u2,Builtin.unsafeString_ #[pt,it] ty #[.pointer (some ⟨b,0,none⟩),.int .i64 l.length] =
    (do
     let n ←asInt (.int .i64 l.length)
     if n<0 then runtimePanic e1
     if n>IntKind.i64.max then unsupported u1
     if n=0 then pure (.string .empty)
     else if ←variablesAt ⟨b,0,none⟩ (←elemOf pt) n.toNat then do
      let s ←Go.loadBytes ⟨b,0,none⟩ .empty n.toNat
      freeze ⟨b,0,none⟩ n.toNat
      pure (.string s)
     else unsupported u2):=⟨_,_,_,rfl⟩
  have nT:IntKind.i64.max=9223372036854775807:=rfl;have JD:¬(l.length:Int)<0:=by omega
  rw[tf]at hev;simpa[asInt,asIntOf,nT,ID,JD,h0,variablesAt,hsh,elemOf,run_underlying hp,nS,C8]using hev
 ·rw[Hg (hsz W)];refine⟨by rw[hf,hf];exact hl.os,by rw[hf,hf];exact hl.tape,by rw[hf,hf];exact hl.output,by rw[hsz,hsz];exact hl.size,fun k hk=>?_,fun k o hk h=>?_⟩
  ·by_cases Bj:k=b
   ·subst Bj;exact⟨_,sR w hB,sR W hW,Gap.oA (by simp;omega)⟩
   ·rw[cj w k Bj,cj W k Bj];exact hl.own k hk
  ·have Bj:k≠b:=fun h=>hk (h ▸ hO)
   rw[cj w k Bj]at h;rw[cj W k Bj];exact hl.rest k o hk h
end
theorem PR (l:List UInt8):Lib.strCells (bs l)=l.flatMap j1:=by
 induction l with
 | nil=>rfl
 | cons x l ih=>rw[List.flatMap_cons,←ih];rfl
theorem UW (l:List UInt8):l.flatMap j1=l.map fun x=>.int .u8 (x.toNat:Int):=by
 induction l with
 | nil=>rfl
 | cons x l ih=>rw[List.flatMap_cons,ih];rfl
theorem Ev.St.yn {H:List bZ}(h:St w0 S w H)(i:Nat){t u e:TypeId}{inf:TypeInfo}{g n cap:Nat}{xs l:List UInt8}{k:Value→World→Prop}
  (hu:P.underlying t=some (.slice e)) (hs:P.underlying u=some .string) (CY:P.info? e=some inf) (h1:inf.size=1) (hi:H[i]?=some (az e 1 j1 (.slice (some ⟨g,0,none⟩) n cap) xs)) (hr:n+l.length≤cap)
  (hk:∀w',Ext (· = g) w w'→St w0 S w' (H.set i (az e 1 j1 (.slice (some ⟨g,0,none⟩) (n+l.length) cap) (xs++l)))→k (.slice (some ⟨g,0,none⟩) (n+l.length) cap) w') :
  dy P (Builtin.append_ #[t,u] 0 #[.slice (some ⟨g,0,none⟩) n cap,.string (bs l)]) w k:=by
 have ho:=h.get i hi;obtain⟨hlen,⟨h6,_⟩|⟨g',iX,cur,h6,_,h7,h8,h9,wN,A7⟩⟩:=ho
 ·cases h6
 injection h6 with e1 e2 e3
 injection e1 with e1
 injection e1 with e1
 subst e1 e3;have hx:xs.length=n:=e2.symm;have hsz:(bs l).size=l.length:=nE l;have cm:=Lib.run_append_room_string (P:=P) w t u 0 e inf hu hs CY h1 g n cap cur h7 (bs l) zo zo;rw[hsz]at cm;have aQ:g<w.heap.size:=(Array.getElem?_eq_some_iff.1 h7).1;generalize fZ:(cur.toList.take n++Lib.strCells (bs l)++cur.toList.drop (n+l.length)).toArray=cs at cm
 have JW:(w.setRow g cs).heap[g]?=some (.cells cs e (0,0)):=by
  simp[World.setRow,Array.getElem?_modify,h7]
 have il:cs.size=cap:=by
  have hc:cur.toList.length=cap:=by simpa using (by omega:cur.size=cap)
  rw[←fZ,List.size_toArray,List.length_append,List.length_append,PR,List.length_take,List.length_drop,hc,gU oL];omega
 have gv:cs.toList.take ((n+l.length)*1)=(xs++l).flatMap j1:=by
  have hc:cur.toList.length=cap:=by simpa using (by omega:cur.size=cap)
  have kZ:n*1=n:=Nat.mul_one n;rw[hx,kZ]at A7;rw[←fZ,Nat.mul_one,List.toList_toArray,A7,PR,←List.flatMap_append];refine List.take_left' ?_;rw[gU oL,List.length_append,hx,Nat.mul_one]
 refine .quiet (fA _ _ _) cm (by simp[World.setRow]) rfl (hk _ ?_ (h.upd i hi (T:=(· = g)) (e':=az e 1 j1 (.slice (some ⟨g,0,none⟩) (n+l.length) cap) (xs++l)) ?_ (fun d hd=>by simp[az,own,Value.ownBlock,hd]) fq ?_ fun d hd=>.inl (by simpa[az,own,Value.ownBlock]using hd)))
 ·exact⟨rfl,rfl,rfl,by simp[World.setRow],fun d hd cj=>by simp only[World.setRow,Array.getElem?_modify];rw[if_neg (fun e=>cj e.symm)]⟩
 ·exact⟨rfl,rfl,rfl,by simp[World.setRow],fun d hd cj=>by simp only[World.setRow,Array.getElem?_modify];rw[if_neg (fun e=>cj e.symm)]⟩
 ·have e4:(xs++l).length=n+l.length:=by rw[List.length_append,hx]
  unfold az;rw[e4];refine⟨by rw[gU oL,e4],.inr ⟨g,cap,cs,rfl,Nat.zero_le _,JW,by omega,h9,by rw[il,Nat.mul_one],gv⟩⟩
section
variable {O Z:Nat→Prop}
theorem ztn (hl:dx O Z w W)(hB:bC w b e cs)(cj:cs≠[]):O b∧W.heap[b]?=some (.cells cs.toArray e (0,0)):=by
 have hB:w.heap[b]?=some (.cells cs.toArray e (0,0)):=hB
 have hO:O b:=Classical.byContradiction fun hn=>by
  rcases hl.rest b _ hn hB with e2 | ⟨_,c,t,f,_,e2⟩
  ·cases e2
  ·exact(Gap.gJ e2).elim
 obtain⟨o,o1,o2,o3⟩:=hl.own b hO;rw[hB]at o1;exact⟨hO,by rw[o2,←o1]⟩
theorem Sg {s:Sem Value}(hB:bC w b e cs)(cj:cs≠[])(hr:∀W:World,W.heap[b]?=some (.cells cs.toArray e (0,0))→s.run P W=.ok v W)(hev:∀W:World,W.heap[b]?=some (.cells cs.toArray e (0,0))→s.events P W #[] = #[]):Quiet P s w v w:=fun O Z W hl=>by
 obtain⟨_,hW⟩:=ztn hl hB cj;exact⟨W,⟨hr W hW,rfl,rfl,rfl,Nat.le_refl _,fun _ _ _=>rfl,by rw[hev W hW];simp⟩,by rw[eM];exact hl,rfl⟩
theorem zrW {v0:Value}{k:Value→World→Prop}(hB:bC w b e (v0::cs))(hs:P.underlying src=some (.pointer t))(hd:P.underlying dst=some .unsafePointer)(hsz:(P.info? t).map (fun i=>decide (i.size=0))=some false)(hk:k (.pointer (some ⟨b,0,none⟩)) w) :
  dy P (Go.convert src dst (.pointer (some ⟨b,0,none⟩))) w k:=by
 have hc:∀W:World,W.heap[b]?=some (.cells (v0::cs).toArray e (0,0))→W.cell? ⟨b,0,none⟩=some v0:=fun W hW=>by simp[World.cell?,hW]
 exact⟨.inl ⟨_,_,Sg hB zi (fun W hW=>run_convert_to_unsafe hs hd hsz (hc W hW)) (fun W hW=>Go.Conc.events_convert_to_unsafe hs hd hsz (hc W hW) #[]),hk⟩⟩
theorem Zy {u:TypeId}{j:TypeInfo}{v0:Value}{k:Value→World→Prop}(hB:bC w b e (v0::cs))(hs:P.underlying src=some .unsafePointer)(hd:P.underlying dst=some (.pointer u))(hu:P.info? u=some j)(nS:liesAt P P.depth e ((v0::cs).length / P.cellsOf e) 0 u 1=true)(hk:k (.pointer (some ⟨b,0,none⟩)) w) :
  dy P (Go.convert src dst (.pointer (some ⟨b,0,none⟩))) w k:=by
 have hsh:∀W:World,W.heap[b]?=some (.cells (v0::cs).toArray e (0,0))→W.shape? b=some (e,(v0::cs).length):=fun W hW=>by simp[World.shape?,hW]
 refine⟨.inl ⟨_,_,Sg hB zi (fun W hW=>Lib.run_from_unsafe (w:=W) (j:=j) ⟨b,0,none⟩ hs hd hu (hsh W hW) nS) (fun W hW=>?_),hk⟩⟩;have:=hsh W hW;simp only[List.length_cons]at this nS;simp[convert,run_underlying hs,run_underlying hd,Conv.unsafePointer,Conv.seenAt,viewAt,this,variablesAt,nS,sizeOf,typeInfo,hu]
end
theorem ZC (x:Value)(w:World):aa prog 277 #[x] w fun v w'=>v=x∧w=w':=by
 have hr:(callFunc 277 #[x]).run prog w=.ok (.value x) w:=by
  rw[run_callFunc_extern func277 zk zk zk (e:=Extern.AbiNoEscape.same) zk,Lib.run_noEscape];simp[Result.andThen]
 exact aa.extern (m5 func277 zk zk zk (e:=Extern.AbiNoEscape.same) zk _ trivial) hr rfl rfl ⟨rfl,rfl⟩
theorem zzE {a:Addr}(hu:P.underlying t=some (.pointer e))(hi:(P.info? e).isSome=true)(hk:k (.bool false)):aB P (Go.binOp .neq t (.pointer (some a)) (.pointer (some a))) k:=by
 obtain⟨j,hj⟩:=Option.isSome_iff_exists.1 hi;refine aB.of (fun w=>Lib.run_neq_ptr_same w a hu hj) hk ?_;refine AM ?_;unfold Op.equalIn;refine aO hu ?_;refine KM hi ?_
 have hs:sameAddr a a=(pure true:Sem Bool):=by
  unfold sameAddr;simp
 split
 ·rw[hs];trivial
 ·simp;trivial
section
variable {p:Value}
theorem zoG (hB:bC w b 337 [.pointer none,v]):aa prog 259 #[.pointer (some ⟨b,0,none⟩)] w fun _ w'=>Ext (· = b) w w'∧bC w' b 337 [.pointer (some ⟨b,0,none⟩),v]:=by
 have hS:=(St.start w (· = b)).add (eh b _ _) hB (by simp[blk];exact hB.lt) zi;refine zN func259 ntmps259 ?_;refine hS.lD 0 ?_;refine zrW (hS.blk 0 rfl) underlying335 underlying160 zk ?_;refine(ZC _ _).mono ?_;rintro v1 w1 ⟨rfl,rfl⟩;(conv=>whnf);obtain⟨j,hj⟩:∃j,prog.info? 337=some j:=Option.isSome_iff_exists.1 zk;refine Zy (hS.blk 0 rfl) underlying160 underlying335 hj zk ?_;refine hS.sT 0 fun w' hS=>?_
 refine zE ?_;exact⟨hS.ext,hS.blk 0 rfl⟩
theorem zoH (hB:bC w b 337 [.pointer (some ⟨b,0,none⟩),v]):aa prog 259 #[.pointer (some ⟨b,0,none⟩)] w fun _ w'=>w'=w:=by
 have hS:=(St.start w (· = b)).add (eh b _ _) hB (by simp[blk];exact hB.lt) zi;refine zN func259 ntmps259 ?_;refine hS.lD 0 ?_;refine hS.lD 0 ?_;refine zzE underlying335 zk ?_;refine zE ?_;rfl
end
theorem zqX {H:List bZ}(h:St w0 S w H)(n:Nat)(hn:n≤1000000) :
  aa prog 278 #[.int .i64 (n:Int)] w fun v w'=>∃g cap,v=.slice (some ⟨g,0,none⟩) n cap∧n≤cap∧w0.heap.size≤g∧Ext No w w'∧St w0 S w' (H++[az 5 1 j1 (.slice (some ⟨g,0,none⟩) 0 cap) []]):=by
 refine aa.kY (m5 func278 zk zk zk (e:=Extern.BytealgMakeNoZero.makeNoZero #[3] #[124]) zk _ ?_) fun gn gd=>?_
 ·obtain⟨e1,e2,tf⟩:∃e1 e2,Extern.BytealgMakeNoZero.makeNoZero #[3] #[124] #[.int .i64 (n:Int)]=(do
    let .slice elem ←underlying 124|stuck e1
    if (n:Int)<0||(n:Int)>2 ^ 48 then runtimePanic e2
    let cap ←choose (.appendCap (n:Int).toNat 0 elem)
    askRoom cap
    let bytes ← choose (.extern "internal/bytealg.MakeNoZero.bytes" 0)
    let a ←newRow elem (Extern.BytealgMakeNoZero.digits cap bytes #[])
    pure (.slice (some a) (n:Int).toNat cap)):=⟨_,_,rfl⟩
  rw[tf]
  (repeat' first|with_reducible exact Pd _|with_reducible exact G0 rfl|exact zA|with_reducible refine af ?_ fun _=>?_|with_reducible refine nz ?_|with_reducible refine qD ?_ ?_|split|exact trivial|dsimp only)
 ·replace h:=h.ed gn gd;have ij:Ext No w (wgap w gn gd):=Ext.ed _ _ gn gd;generalize wgap w gn gd=W at h ij;obtain⟨cs,cm,hle,nT⟩:=Lib.run_makeNoZero (P:=prog) W #[3] 124 5 underlying124 n zo
  have hc:(callFunc 278 #[.int .i64 (n:Int)]).run prog W=.ok (.value (.slice (some ⟨W.heap.size,0,none⟩) n cs.size)) (W.drew.drew.alloc (.cells cs 5)):=by
   rw[run_callFunc_extern func278 zk zk zk (e:=Extern.BytealgMakeNoZero.makeNoZero #[3] #[124]) zk,cm];rfl
  have hx:Ext No W (W.drew.drew.alloc (.cells cs 5)):=⟨rfl,rfl,rfl,by show W.heap.size≤(W.heap.push _).size;rw[Array.size_push];omega,fun k hk _=>by
   show(W.heap.push _)[k]?=_;rw[Array.getElem?_push,if_neg zo]⟩
  refine⟨_,_,hc,_,_,rfl,hle,h.ext.size,ij.trans hx,h.made hx fq ⟨by simp,.inr ⟨W.heap.size,cs.size,cs,rfl,Nat.zero_le _,?_,by simp,nT (by unfold maxLen;omega),by simp,by simp⟩⟩ fun d hd=>?_⟩
  ·show(W.heap.push _)[W.heap.size]?=_;rw[Array.getElem?_push,if_pos rfl]
  ·obtain rfl:d=W.heap.size:=by simpa[az,own,Value.ownBlock]using hd
   exact⟨Nat.le_refl _,by show W.heap.size<(W.heap.push _).size;rw[Array.size_push];omega⟩
theorem BG (h:P.underlying t=some (.slice e)):P.elem t=e:=by unfold Program.elem;rw[h]
theorem Yj {q:IntKind}{i:Int}(hu:P.underlying t=some (.slice e))(he:(P.info? e).isSome=true)(hi:i=0)(hk:k (.slice (some ⟨g,0,none⟩) 0 c)):aB P (Instr.sliceAt t (.slice (some ⟨g,0,none⟩) n c) none (some (.int q i)) none) k:=by
 subst hi;have ht:P.underlying t=some (.slice (P.elem t)):=by rw[BG hu];exact hu
 refine aB.of (fun w=>?_) hk;rw[Go.run_sliceAt_slice w t _ _ _ _ ht,Go.run_slice_h w t _ n c ht q _ zo zo,BG hu,ny he];by_cases h:c=0
 ·subst h;rfl
 ·simp[sliced,h,Result.andThen,Addr.add]
section
variable {p:Value}
theorem zsF (hB:bC w b 337 [.pointer (some ⟨b,0,none⟩),.slice none 0 0])(n:Nat)(hn:n≤1000000):aa prog 260 #[.pointer (some ⟨b,0,none⟩),.int .i64 (n:Int)] w fun _ w'=>∃g cap,n≤cap∧St w (· = b) w' [blk b 337 [.pointer (some ⟨b,0,none⟩),.slice (some ⟨g,0,none⟩) 0 cap],az 5 1 j1 (.slice (some ⟨g,0,none⟩) 0 cap) []]:=by
 have hS:St w (· = b) w [blk b 337 [.pointer (some ⟨b,0,none⟩),.slice none 0 0]]:=(St.start w (· = b)).add (eh b _ _) hB (by simp[blk];exact hB.lt) zi;refine zN func260 ntmps260 ?_;(conv=>whnf);refine hS.dr [] No [0,1,2,3,4,5,6,7,9,10,11,12,13,8,14,15] fun w1 hS=>?_
 refine hS.bU 0 rfl rfl id ?_;refine ag.mk zo zo ?_;refine ag.mk zo zo ?_;refine hS.bU 0 rfl rfl id ?_;(conv=>whnf);rw[show(2*((0:Nat):Int)+(n:Int))=(n:Int) by omega];refine(zqX hS n hn).mono ?_;rintro v1 w1 ⟨g,cap,rfl,gZ,hg,hx,hS⟩;refine ae.mk hx ?_;refine Yj underlying124 zk rfl ?_;refine hS.lD 0 ?_;refine .quiet (lL _ _ _) (run_copy_none _ _ _ _ 5 _ _ _ _ _ _ underlying124 zk rfl) rfl rfl ?_;refine hS.sT 0 fun w' hS=>?_
 refine zE ?_;exact⟨g,cap,gZ,hS⟩
end
theorem zyS {H:List bZ}(h:St w1 S w H)(k:Ext S w0 w1):St w0 S w H :=
 ⟨k.trans h.ext,h.each,h.loc,fun e he b hb=>⟨(h.may e he b hb).1.imp id fun x=>Nat.le_trans k.size x,(h.may e he b hb).2⟩,h.apart⟩
def wI (b g cap:Nat)(xs:List UInt8):List bZ:=[blk b 337 [.pointer (some ⟨b,0,none⟩),.slice (some ⟨g,0,none⟩) xs.length cap],az 5 1 j1 (.slice (some ⟨g,0,none⟩) xs.length cap) xs]
section
variable {cap:Nat}{xs:List UInt8}
theorem zsA (hB:bC w b 337 [.pointer none,.slice none 0 0])(n:Nat)(h0:0<n)(hn:n≤1000000):aa prog 220 #[.pointer (some ⟨b,0,none⟩),.int .i64 (n:Int)] w fun _ w'=>∃g cap,n≤cap∧St w (· = b) w' (wI b g cap []):=by
 refine zN func220 ntmps220 ?_;refine(zoG hB).mono ?_;rintro v1 w1 ⟨hx,gK⟩;have hS:St w1 (· = b) w1 [blk b 337 [.pointer (some ⟨b,0,none⟩),.slice none 0 0]]:=(St.start w1 (· = b)).add (eh b _ _) gK (by simp[blk];exact gK.lt) zi;have e1:decide ((n:Int)<0)=false:=decide_eq_false zo;(conv=>whnf);rw[e1];(conv=>whnf);refine hS.dr [] No [0,1,2,3,4,5,6,7,8,9,10,11,12] fun w1 hS=>?_
 refine hS.bU 0 rfl rfl id ?_;refine hS.bU 0 rfl rfl id ?_;refine ag.mk zo zo ?_;(conv=>whnf);have e2:decide ((((0:Nat):Int)-((0:Nat):Int))<(n:Int))=true:=decide_eq_true zo;rw[e2];refine(zsF (hS.blk 0 rfl) n hn).mono ?_;rintro v2 w2 ⟨g,cap,gZ,cT⟩;refine zE ?_;exact⟨g,cap,gZ,zyS cT (hx.trans hS.ext)⟩
theorem Az (hS:St w0 S w (wI b g cap xs))(hr:xs.length+l.length≤cap):aa prog 221 #[.pointer (some ⟨b,0,none⟩),.string (bs l)] w fun _ w'=>St w0 S w' (wI b g cap (xs++l)):=by
 unfold wI at hS;obtain⟨j,hj⟩:∃j,prog.info? 5=some j:=Option.isSome_iff_exists.1 zk
 have FI:j.size=1:=by
  have:(prog.info? 5).map (·.size)=some 1:=zk;rw[hj]at this;simpa using this
 refine zN func221 ntmps221 ?_;refine(zoH (hS.blk 0 rfl)).mono ?_;rintro v1 w1 rfl;refine hS.lD 0 ?_;refine hS.yn 1 underlying124 underlying9 hj FI rfl hr (fun w2 hx hS=>?_);refine hS.sT 0 fun w' hS=>?_
 refine zE ?_;unfold wI;rw[List.length_append];exact hS
end
theorem QM (w:World)(g n:Nat):Ext (· = g) w (w.freeze ⟨g,0,none⟩ n):=by
 unfold World.freeze;split
 ·exact Ext.refl _ _
 ·exact⟨rfl,rfl,rfl,by simp,fun k hk cj=>by
   simp only[Array.getElem?_modify];rw[if_neg (fun e=>cj e.symm)]⟩
section
variable {cap:Nat}{xs:List UInt8}
theorem zow (hS:St w0 S w (wI b g cap xs))(h0:xs≠[])(hlen:xs.length≤1000000):aa prog 222 #[.pointer (some ⟨b,0,none⟩)] w fun v w'=>v=.string (bs xs)∧Ext (· = g) w w':=by
 unfold wI at hS;have yH:¬b=g:=fun e=>mj m4 hS.apart (i:=0) (j:=1) rfl rfl zd b (by simp[blk]) (by simp[az,own,Value.ownBlock,e])
 obtain⟨hl,⟨h6,_⟩|⟨g',iX,cur,h6,_,h7,h8,h9,wN,A7⟩⟩:=hS.get 1 rfl
 ·cases h6
 injection h6 with e1 e2 e3
 injection e1 with e1
 injection e1 with e1
 subst e1 e3;have gQ:0<xs.length:=List.length_pos_iff.2 h0;have gZ:cap≠0:=by omega
 have VN:bC w g 5 cur.toList:=by
  show w.heap[g]?=_;rw[h7]
 have gv:cur.toList.take xs.length=xs.map fun x=>.int .u8 (x.toNat:Int):=by
  rw[←UW,←A7,Nat.mul_one]
 refine zN func222 ntmps222 ?_;(conv=>whnf)
 (refine ir aj mixed [] ((· = g)) [0,1,2,3,5,6,7,8,9,4,10,11] zk ?_;rintro w1 rfl;replace hS:=hS.drew)
 refine hS.bU 0 rfl rfl yH ?_;refine hS.bU 0 rfl rfl yH ?_;refine⟨gZ,ae.mk (Ext.refl _ _) ?_⟩;refine⟨.inl ⟨_,_,zrZ (e:=5) zk zk (w:={ w with drawn:=w.drawn+1 }) VN h0 hlen gv,ae.mk (QM _ _ _) ?_⟩⟩;refine zE ?_;exact⟨rfl,(Ext.drawn _ _ _).trans (QM _ _ _)⟩
end
section
variable {xs r:List (List UInt8)}{c:UInt8}{x y:List UInt8}{k:Nat}
end
theorem Yk {T:Nat→Prop}{H:List bZ}(h:St w1 T w H)(k:Ext S w0 w1)(hT:∀b,T b→S b∨w0.heap.size≤b):St w0 S w H :=
 ⟨k.then h.ext hT,h.each,h.loc,fun e he b hb=>⟨(h.may e he b hb).1.elim (hT b) fun x=>.inr (Nat.le_trans k.size x),(h.may e he b hb).2⟩,h.apart⟩
theorem ztL {q:IntKind}{o:Nat}(hu:P.underlying t=some (.slice e))(he:(P.info? e).map (·.size)=some 1)(hn:1≤n)(hc:n≤c)(fT:2≤c)(hk:k (.slice (some ⟨b,o+1,none⟩) (n-1) (c-1))):aB P (Instr.sliceAt t (.slice (some ⟨b,o,none⟩) n c) (some (.int q 1)) none none) k:=by
 have ht:P.underlying t=some (.slice (P.elem t)):=by rw[BG hu];exact hu
 obtain⟨i,hi,hs⟩:=Option.map_eq_some_iff.1 he;refine aB.of (fun w=>?_) hk;rw[Go.run_sliceAt_slice w t _ _ _ _ ht,Go.run_slice_l w t _ n c ht q _ zo zo,BG hu,ny (by rw[hi];rfl)];have dR:P.cellsOf e=1:=by simp[Program.cellsOf,hi,hs]
 have FA:¬c=1:=by omega
 simp[sliced,FA,dR,Result.andThen,Addr.add]
theorem ztb {L:List (String × DataW Unit)}  {n:String}{d:DataW Unit}(hl:laidMetH prog L W)(hm:(n,d)∈L)(hd:d.handleName?.isNone=true):laidMet prog [(n,d)] W :=
 KO (List.singleton_sublist.2 (List.mem_filter.2 ⟨hm,hd⟩)) (laidMetH_iff.1 hl).1
theorem Zb {H:Type}{enc:TypeId × Value→H}   {base:Nat}{sp:Nat→Bool}{held:Bool}{fuel:Nat}    {zs:List (List UInt8)}{p:List MemPlace}
  (ht:P.underlying t=some (.array n e)) (he:P.underlying e=some .string) (sY:P.cellsOf e=1) (mB:P.cellsOf t=n)
  (h:DataW.trod enc P w base sp held fuel t cs=some (.agg (zs.map fun z=>.lit (.string z)),p)):cs=zs.map fun z=>Value.string (bs z):=by
 cases fuel with
 | zero=>simp[DataW.trod]at h
 | succ fuel =>
  simp only[DataW.trod,ht,sY,mB,Nat.mul_one]at h;split at h
  ·rename_i hl;obtain⟨xs,hm,hx⟩:=Option.map_eq_some_iff.1 h
   have oq:xs.map (·.1)=zs.map fun z=>(DataW.lit (.string z):DataW H):=by
    have:=congrArg Prod.fst hx;simpa using this
   have z5:xs.length=n:=by simpa using Lib.mapM_length hm
   have Ki:zs.length=n:=by
    have:=congrArg List.length oq;simp at this;omega
   apply List.ext_getElem?;intro i;by_cases hi:i<n
   ·obtain⟨b,hb,hf⟩:=Lib.mapM_at hm i i (by simp[hi]);obtain⟨z,hc,rfl,_⟩:=DataW.trod_string he hf
    have h1:cs[i]?=some (.string z):=by
     have:=congrArg (·[0]?) hc;simpa[List.getElem?_take,List.getElem?_drop]using this
    have h2:(xs.map (·.1))[i]?=some (DataW.lit (.string z.data.toList):DataW H):=by simp[hb]
    rw[oq]at h2;simp only[List.getElem?_map,Option.map_eq_some_iff,DataW.lit.injEq,Lit.string.injEq]at h2;obtain⟨z',Kf,h3⟩:=h2;rw[h1,List.getElem?_map,Kf];show some (Value.string z)=some (Value.string (bs z'));rw[h3];simp[bs]
   ·rw[List.getElem?_eq_none zo,List.getElem?_eq_none (by simp;omega)]
  ·cases h
def eL (w:World):Prop:=aH w 12 0 [.string (bs [97,110,121]),.string (bs [117,100,112]),.string (bs [116,99,112])]
theorem eL.no (h:eL w)(hx:Ext No w w'):eL w':=hx.cells h id
theorem protos_of {L:List (String × DataW Unit)}(hl : laidMetH prog L W) (hm : ("twinrampart/policy.protos", .agg ([[97, 110, 121], [117, 100, 112], [116, 99, 112]].map fun z => .lit (.string z))) ∈ L) : eL W := by
 obtain⟨ps,⟨g',t',cs,fuel,p,q,ni,J0,hvar,hd,_,_⟩,_⟩:=ztb hl hm rfl
 have hg : prog.globalNamed "twinrampart/policy.protos" = some 12 := zk
 have Xl:(prog.globals[12]?).map (·.type)=some 231:=zk;obtain rfl:=Option.some.inj (hg.symm.trans ni);obtain rfl:=Option.some.inj (Xl.symm.trans J0);have hc:=Zb underlying231 underlying9 zk zk hd;intro i v hv;have:=World.var?_cell hg hvar i;rw[Nat.zero_add,this,←Array.getElem?_toList,hc];exact hv
def zyL:List UInt8:=[97,108,108,111,119]
def zzH:List UInt8:=[100,101,110,121]
def Ye:List UInt8:=[111,117,116]
def XR:List UInt8:=[105,110]
def Yb:List UInt8:=[97,110,121]
def Yh:List UInt8:=[117,100,112]
def Yg:List UInt8:=[116,99,112]
def zyG (p:Int):List UInt8:=if p=0 then Yb else if p=1 then Yh else Yg
def RuleS.words (r:RuleS):List (List UInt8):=[if r.allow=true then zyL else zzH,if r.out=true then Ye else XR,zyG r.proto,Lib.itoa r.low++[45]++Lib.itoa r.top]
def RuleS.line (r:RuleS):List UInt8:=Lib.join r.words [32]
section
variable {G:RuleS→Prop}{a b:Option Addr}  {xs ys:List RuleS}
theorem Ue (i:Bool)(y z:List UInt8)(w:World):aa prog 186 #[.bool i,.string (bs y),.string (bs z)] w fun v w'=>v=.string (bs (if i=true then y else z))∧Ext No w w':=by
 refine zN func186 ntmps186 ?_;have hS:=St.start w No;cases i
 ·exact zF
 ·exact zF
end
abbrev Ny (l:List UInt8):List Value:=[.string (bs l)]
theorem Fh:cR 1 Ny:=⟨fun _=>rfl,fun _=>rfl,by decide⟩
theorem UQ {q:IntKind}{i:Int}{h:Nat}(hu:P.underlying t=some (.slice e))(he:(P.info? e).isSome=true)(hi:i=(h:Int))(hc:h≤c)(hk:k (.slice (some ⟨b,0,none⟩) h c)):aB P (Instr.sliceAt t (.slice (some ⟨b,0,none⟩) n c) none (some (.int q i)) none) k:=by
 subst hi;have ht:P.underlying t=some (.slice (P.elem t)):=by rw[BG hu];exact hu
 refine aB.of (fun w=>?_) hk;rw[Go.run_sliceAt_slice w t _ _ _ _ ht,Go.run_slice_h w t _ n c ht q _ zo zo,BG hu,ny he];by_cases h0:c=0
 ·subst h0;have:h=0:=by omega
  subst this;rfl
 ·simp[sliced,h0,Result.andThen,Addr.add]
def H0 (b:Nat)(l:List UInt8):bZ:=⟨[b],fun w=>aH w b 0 (l.flatMap j1)⟩
theorem zpk (b:Nat)(l:List UInt8):(H0 b l).Local:=fun w w' h hb i v hv=>by
 have:=hb i v hv;unfold World.cell? at this ⊢;simp only at this ⊢;rw[h b (by simp[H0])];exact this
section
theorem Z6 (hs:P.underlying src=some .string)(hd:P.underlying dst=some (.slice e))(he:P.underlying e=some (.int .u8)) :
  jg P (Go.convert src dst (.string (bs l))) w (.slice (some ⟨w.heap.size,0,none⟩) (bs l).size (grownCap w (bs l).size 0 e)) (w.drew.alloc (.cells (bytesRow (bs l) (grownCap w (bs l).size 0 e)) e ((bytesRow (bs l) (grownCap w (bs l).size 0 e)).size,(bytesRow (bs l) (grownCap w (bs l).size 0 e)).size+1))):=by
 intro O Z W hl hsz hdr;have hg:grownCap W (bs l).size 0 e=grownCap w (bs l).size 0 e:=by unfold grownCap;rw[←hl.tape,←hdr]
 have cm:=run_bytes_of_string (P:=P) W src dst e (bs l) hs hd he;rw[hg,←hsz]at cm;generalize iZ:bytesRow (bs l) (grownCap w (bs l).size 0 e)=row at cm ⊢
 have hold:∀(X:World) (o:Obj) (k:Nat),k<X.heap.size→(X.drew.alloc o).heap[k]?=X.heap[k]?:=fun X o k hk=>by
  show(X.heap.push _)[k]?=_;rw[Array.getElem?_push,if_neg zo]
 have fU:∀(X:World) (o:Obj),(X.drew.alloc o).heap[X.heap.size]?=some o:=fun X o=>by
  show(X.heap.push _)[X.heap.size]?=_;rw[Array.getElem?_push,if_pos rfl]
 have oV:∀(X:World) (o:Obj),(X.drew.alloc o).heap.size=X.heap.size+1:=fun X o=>by
  show(X.heap.push _).size=_;rw[Array.size_push]
 refine⟨_,⟨cm,rfl,rfl,rfl,by rw[oV];omega,fun k hk _=>hold W _ k hk,fun ev hev=>?_⟩,⟨hl.os,hl.tape,hl.output,by rw[oV,oV];omega,fun k hk=>?_,fun k o hk h=>?_⟩⟩
 ·exfalso
  have hsh:∀(C:Array Value),(W.drew.alloc (.cells C e)).shape? W.heap.size=some (e,C.size):=fun C=>by
   unfold World.shape?;rw[fU W (.cells C e)]
  simp[convert,run_underlying hs,run_underlying hd,run_underlying he,Conv.stringToBytes,Question.forced,newRow,markStringish,hsh]at hev
 ·rcases hk with hk | ⟨h1,h2⟩
  ·obtain⟨o,x1,x2,x3⟩:=hl.own k hk;have k1:=(Array.getElem?_eq_some_iff.1 x1).1;exact⟨o,(hold w _ k k1).trans x1,(hold W _ k zo).trans x2,x3⟩
  ·rw[oV]at h2;obtain rfl:k=W.heap.size:=by omega
   exact⟨_,by rw[←hsz];exact fU w _,fU W _,Gap.oA zo⟩
 ·have tx:¬O k:=fun h=>hk (.inl h)
  have aQ:=(Array.getElem?_eq_some_iff.1 h).1;rw[oV]at aQ
  have WE:k<w.heap.size:=by
   rcases Nat.lt_or_ge k w.heap.size with h'|h'
   ·exact h'
   ·exact absurd (.inr ⟨by omega,by rw[oV];omega⟩) hk
  rw[hold w _ k WE]at h;rw[hold W _ k zo];exact hl.rest k o tx h
theorem zyb {H:List bZ}{k:Value→World→Prop}(h:St w0 S w H)(hs:P.underlying src=some .string)(hd:P.underlying dst=some (.slice e))(he:P.underlying e=some (.int .u8))
  (hk:∀b cap w',w0.heap.size≤b→l.length≤cap→St w0 S w' (H++[H0 b l])→k (.slice (some ⟨b,0,none⟩) l.length cap) w'):dy P (Go.convert src dst (.string (bs l))) w k:=by
 refine⟨.inr fun gn gd=>?_⟩;replace h:=h.ed gn gd;generalize wgap w gn gd=w at h;have hsz:(bs l).size=l.length:=nE l;refine⟨_,_,Z6 hs hd he,?_⟩;have tq:=grownCap_ge w (bs l).size 0 e;rw[hsz]at tq ⊢;generalize grownCap w l.length 0 e=cap at tq ⊢
 have fU:∀o:Obj,(w.drew.alloc o).heap[w.heap.size]?=some o:=fun o=>by
  show(w.heap.push _)[w.heap.size]?=_;rw[Array.getElem?_push,if_pos rfl]
 have hx:∀o:Obj,Ext No w (w.drew.alloc o):=fun o=>⟨rfl,rfl,rfl,by show w.heap.size≤(w.heap.push _).size;rw[Array.size_push];omega,fun k hk _=>by
  show(w.heap.push _)[k]?=_;rw[Array.getElem?_push,if_neg zo]⟩
 refine hk _ _ _ h.ext.size tq (h.made (hx _) (zpk _ _) (fun i v hv=>?_) fun d hd=>?_)
 ·rw[UW]at hv;unfold World.cell?;simp only[Nat.zero_add];rw[fU];have aQ:=(List.getElem?_eq_some_iff.1 hv).1;rw[List.length_map]at aQ;rw[List.getElem?_map,List.getElem?_eq_getElem aQ]at hv;simp only[bytesRow,Option.map_some,Option.some.injEq]at hv ⊢;rw[←hv];rw[Array.getElem?_append_left (by simp[bs];omega)];simp[bs,aQ]
 ·obtain rfl:d=w.heap.size:=by simpa[H0]using hd
  exact⟨Nat.le_refl _,by show w.heap.size<(w.heap.push _).size;rw[Array.size_push];omega⟩
end
section
variable {u:TypeId}{kd:IntKind}{b:Int}
end
theorem zoZ (w:World):(az 58 5 eW (.slice none 0 0) []).holds w:=sf _ _ _
open Go.Extern
def hv (t:TypeId):Value:=.pointer (some ⟨21,t,none⟩)
def rt (t:TypeId):Value:=.iface 238 (.agg #[hv t])
def jM (t:TypeId)(a:Addr):List Value:=[hv t,.pointer (some a),.int .u64 150]
def EX (P:Program)(f:FuncId)(s:Array Value→Sem Value):Prop:=∀args w,(callFunc f args).run P w=((s args).run P w).andThen fun v w'=>.ok (.value v) w'
theorem EX.to {f:FuncId}{s:Array Value→Sem Value}(h:EX P f s){args:Array Value}{w w':World}{v:Value}(hs:(s args).run P w=.ok v w'):(callFunc f args).run P w=.ok (.value v) w':=by
 rw[h,hs];rfl
theorem mv:EX prog 62 (fun args=>ReflectliteValue.unpack (args.getD 0 (.tuple #[]))):=fun args w =>
 run_callFunc_extern (e:=(fun args=>ReflectliteValue.unpack (args.getD 0 (.tuple #[])))) func62 zk zk zk zk args w
theorem yC : EX prog 63 (ReflectliteValue.methodAny (ReflectliteValue.valueError "reflectlite.Value.Type" 0) (fun t _ _ _ => ReflectliteType.toType t)) := fun args w =>
 run_callFunc_extern (e := (ReflectliteValue.methodAny (ReflectliteValue.valueError "reflectlite.Value.Type" 0) (fun t _ _ _ => ReflectliteType.toType t))) func63 zk zk zk zk args w
theorem u0 : EX prog 64 (ReflectliteValue.method (ReflectliteValue.valueError "reflectlite.Value.IsNil" 0) ReflectliteValue.isNil) := fun args w =>
 run_callFunc_extern (e := (ReflectliteValue.method (ReflectliteValue.valueError "reflectlite.Value.IsNil" 0) ReflectliteValue.isNil)) func64 zk zk zk zk args w
theorem sH:EX prog 303 (ReflectliteType.abiMethod fun t=>do pure (.int .u8 (←Rtype.kind t))):=fun args w =>
 run_callFunc_extern (e:=(ReflectliteType.abiMethod fun t=>do pure (.int .u8 (←Rtype.kind t)))) func303 zk zk zk zk args w
theorem yA:EX prog 317 (ReflectliteType.method ReflectliteType.elem):=fun args w =>
 run_callFunc_extern (e:=(ReflectliteType.method ReflectliteType.elem)) func317 zk zk zk zk args w
theorem yB : EX prog 318 (ReflectliteType.relation "Implements" ReflectliteType.implements_) := fun args w =>
 run_callFunc_extern (e := (ReflectliteType.relation "Implements" ReflectliteType.implements_)) func318 zk zk zk zk args w
theorem nN:EX prog 103 ReflectliteType.typeOf:=fun args w =>
 run_callFunc_extern (e:=ReflectliteType.typeOf) func103 zk zk zk zk args w
theorem nM : EX prog 315 (ReflectliteType.relation "AssignableTo" ReflectliteType.assignableTo) := fun args w =>
 run_callFunc_extern (e := (ReflectliteType.relation "AssignableTo" ReflectliteType.assignableTo)) func315 zk zk zk zk args w
theorem yz : EX prog 316 (ReflectliteType.method fun t => do Rtype.noPackHeld "Comparable" t; pure (.bool (← typeInfo t).comparable)) := fun args w =>
 run_callFunc_extern (e := ReflectliteType.method fun t => do Rtype.noPackHeld "Comparable" t; pure (.bool (← typeInfo t).comparable)) func316 zk zk zk zk args w
theorem Uq (w:World):(callFunc 316 #[.agg #[hv 390]]).run prog w=.ok (.value (.bool true)) w:=yz.to zk
theorem Se (t:Addr)(w:World):(callFunc 62 #[.iface 89 (.pointer (some t))]).run prog w
  = .ok (.value (.agg (jM 89 ⟨w.heap.size,0,none⟩).toArray)) (gA w 89 [.pointer (some t)]):=mv.to zk
theorem Ut (a:Addr)(w:World):(callFunc 63 #[.agg (jM 89 a).toArray]).run prog w=.ok (.value (rt 89)) w:=yC.to zk
theorem Ug (a p:Addr)(w:World)(ha:w.cell? a=some (.pointer (some p))):(callFunc 64 #[.agg (jM 89 a).toArray]).run prog w=.ok (.value (.bool false)) w:=by
 refine u0.to ?_;have hp:(ReflectliteValue.parts (.agg (jM 89 a).toArray)).run prog w=.ok (some (89,a,150)) w:=zk
 rw [show ReflectliteValue.method (ReflectliteValue.valueError "reflectlite.Value.IsNil" 0) ReflectliteValue.isNil #[.agg (jM 89 a).toArray] = (do match ← ReflectliteValue.parts (.agg (jM 89 a).toArray) with | none => ReflectliteValue.valueError "reflectlite.Value.IsNil" 0 | some (t, a, fl) => ReflectliteValue.isNil t a fl (fl % 32)) from rfl]
 simp only[Sem.run_bind,hp,Result.andThen];simp[ReflectliteValue.isNil,loadVar,isAgg,underlying,underlying89,ha,Result.andThen]
theorem Uh (w:World):(callFunc 303 #[hv 89]).run prog w=.ok (.value (.int .u8 22)) w:=sH.to zk
theorem Ui (w:World):(callFunc 303 #[hv 87]).run prog w=.ok (.value (.int .u8 22)) w:=sH.to zk
theorem Ur (w:World):(callFunc 317 #[.agg #[hv 89]]).run prog w=.ok (.value (rt 87)) w:=yA.to zk
theorem Us (w:World):(callFunc 318 #[.agg #[hv 87],rt 28]).run prog w=.ok (.value (.bool true)) w:=yB.to zk
theorem L6 (a:Addr)(w:World):(callFunc 103 #[.iface 390 (.pointer (some a))]).run prog w=.ok (.value (rt 390)) w:=nN.to zk
theorem zvg (w:World):(callFunc 315 #[.agg #[hv 390],rt 87]).run prog w=.ok (.value (.bool false)) w:=nM.to zk
theorem HK (h : Value) (w : World) : (Go.method (prog.types.size + Made.depth) 238 (.agg #[h]) "Kind").run prog w = .ok (303, h) w := zk
theorem UF (h : Value) (w : World) : (Go.method (prog.types.size + Made.depth) 238 (.agg #[h]) "Elem").run prog w = .ok (317, .agg #[h]) w := zk
theorem UG (h : Value) (w : World) : (Go.method (prog.types.size + Made.depth) 238 (.agg #[h]) "Implements").run prog w = .ok (318, .agg #[h]) w := zk
theorem SG (h : Value) (w : World) : (Go.method (prog.types.size + Made.depth) 238 (.agg #[h]) "AssignableTo").run prog w = .ok (315, .agg #[h]) w := zk
theorem UE (h : Value) (w : World) : (Go.method (prog.types.size + Made.depth) 238 (.agg #[h]) "Comparable").run prog w = .ok (316, .agg #[h]) w := zk
theorem UK : Gap.Plain prog (callFunc 316 #[.agg #[hv 390]]) := m5 func316 zk zk zk (e := (ReflectliteType.method fun t => do Rtype.noPackHeld "Comparable" t; pure (.bool (← typeInfo t).comparable))) zk _ (of_eq_true zk)
theorem Ul (a : Addr) : Gap.Plain prog (callFunc 63 #[.agg (jM 89 a).toArray]) := m5 func63 zk zk zk (e := (ReflectliteValue.methodAny (ReflectliteValue.valueError "reflectlite.Value.Type" 0) (fun t _ _ _ => ReflectliteType.toType t))) zk _ (of_eq_true zk)
theorem T3:Gap.Plain prog (callFunc 303 #[hv 89]):=m5 func303 zk zk zk (e:=(ReflectliteType.abiMethod fun t=>do pure (.int .u8 (←Rtype.kind t)))) zk _ (of_eq_true zk)
theorem T4:Gap.Plain prog (callFunc 303 #[hv 87]):=m5 func303 zk zk zk (e:=(ReflectliteType.abiMethod fun t=>do pure (.int .u8 (←Rtype.kind t)))) zk _ (of_eq_true zk)
theorem Uj:Gap.Plain prog (callFunc 317 #[.agg #[hv 89]]):=m5 func317 zk zk zk (e:=(ReflectliteType.method ReflectliteType.elem)) zk _ (of_eq_true zk)
theorem Uk : Gap.Plain prog (callFunc 318 #[.agg #[hv 87], rt 28]) := m5 func318 zk zk zk (e := (ReflectliteType.relation "Implements" ReflectliteType.implements_)) zk _ (of_eq_true zk)
theorem LJ (a:Addr):Gap.Plain prog (callFunc 103 #[.iface 390 (.pointer (some a))]):=m5 func103 zk zk zk (e:=ReflectliteType.typeOf) zk _ (of_eq_true zk)
theorem zto : Gap.Plain prog (callFunc 315 #[.agg #[hv 390], rt 87]) := m5 func315 zk zk zk (e := (ReflectliteType.relation "AssignableTo" ReflectliteType.assignableTo)) zk _ (of_eq_true zk)
theorem Ru (t:Addr):Gap.Plain prog (callFunc 62 #[.iface 89 (.pointer (some t))]):=m5 func62 zk zk zk (e:=(fun args=>ReflectliteValue.unpack (args.getD 0 (.tuple #[])))) zk _ (show Gap.Plain prog (do ReflectliteValue.mk 89 (←newVar 89 (.pointer (some t))) 0) from Gap.af (Gap.dh _ _) fun a=>of_eq_true zk)
theorem T1 (a : Addr) : Gap.Plain prog (callFunc 64 #[.agg (jM 89 a).toArray]) := m5 func64 zk zk zk (e := (ReflectliteValue.method (ReflectliteValue.valueError "reflectlite.Value.IsNil" 0) ReflectliteValue.isNil)) zk _ (by
 have e : Gap.Plain prog ((ReflectliteValue.method (ReflectliteValue.valueError "reflectlite.Value.IsNil" 0) ReflectliteValue.isNil) #[.agg (jM 89 a).toArray]) = Gap.Plain prog (do match ← load a with | .chan none | .nilFunc | .nilIface | .map none | .pointer none | .slice none _ _ => pure (.bool true) | _ => pure (.bool false) : Sem Value) := zk
 rw[e];exact Gap.af (Gap.dV a) fun v=>by split<;>trivial)
theorem rm {n:String}{r:FuncId × Value}(hp:Gap.Plain prog (Go.method (prog.types.size+Made.depth) t v n))(h:∀w,(Go.method (prog.types.size+Made.depth) t v n).run prog w=.ok r w):∀w,Gap.Quiet prog (Go.method (prog.types.size+Made.depth) t v n) w r w :=
 fun w=>.of hp (h w) rfl rfl
theorem Hx (h : Value) : Gap.Plain prog (Go.method (prog.types.size + Made.depth) 238 (.agg #[h]) "Kind") := of_eq_true zk
theorem T6 (h : Value) : Gap.Plain prog (Go.method (prog.types.size + Made.depth) 238 (.agg #[h]) "Elem") := of_eq_true zk
theorem T7 (h : Value) : Gap.Plain prog (Go.method (prog.types.size + Made.depth) 238 (.agg #[h]) "Implements") := of_eq_true zk
theorem Ry (h : Value) : Gap.Plain prog (Go.method (prog.types.size + Made.depth) 238 (.agg #[h]) "AssignableTo") := of_eq_true zk
theorem T5 (h : Value) : Gap.Plain prog (Go.method (prog.types.size + Made.depth) 238 (.agg #[h]) "Comparable") := of_eq_true zk
def Handle (w:World):Prop:=w.cell? ⟨11,0,none⟩=some (rt 28)
theorem Handle.ext (h:Handle w)(hx:Ext No w w'):Handle w':=hx.cell h fun h=>h
theorem Ev.St.pQ {H:List bZ}(h:St w0 S w H)(t:TypeId)(cs:List Value):St w0 S (gA w t cs) (H++[Ev.blk w.heap.size t cs]):=by
 refine h.made (Ext.push _ _ _ _) (eh _ _ _) (show(w.heap.push _)[w.heap.size]?=_ by rw[Array.getElem?_push,if_pos rfl]) ?_;intro b hb;obtain rfl:b=w.heap.size:=by simpa[Ev.blk]using hb
 simp[gA]
theorem zzM (a:Addr)(w:World):(Instr.typeAssert (.iface 390 (.pointer (some a))) 28 242 true).run prog w=.ok (.tuple #[.nilIface,.bool false]) w:=run_typeAssert_lacksB underlying242 zk zk _ _ w
theorem M9 (a:Addr)(w:World):(Instr.typeAssert (.iface 390 (.pointer (some a))) 28 245 true).run prog w=.ok (.tuple #[.nilIface,.bool false]) w:=run_typeAssert_lacksB underlying245 zk zk _ _ w
theorem M1 (a:Addr)(w:World):(Instr.typeAssert (.iface 390 (.pointer (some a))) 28 247 true).run prog w=.ok (.tuple #[.nilIface,.bool false]) w:=run_typeAssert_lacksB underlying247 zk zk _ _ w
theorem UR (a:Addr)(w:World):(Instr.typeAssert (.iface 390 (.pointer (some a))) 28 285 true).run prog w=.ok (.tuple #[.nilIface,.bool false]) w:=run_typeAssert_lacksB underlying285 zk zk _ _ w
theorem zvU (e p q:Addr)(w:World):aa prog 65 #[.iface 390 (.pointer (some e)),.iface 89 (.pointer (some p)),.agg (jM 89 q).toArray,rt 87] w fun v w'=>v=.bool false∧Ext No w w':=by
 refine zN func65 ntmps65 ?_;have hS:=St.start w No;refine hS.new (fun b w' hb hS=>?_)
 refine d5 aj (fun σ w' n=>σ=[(3,rt 87),(0,.iface 390 (.pointer (some e)))]∧Ext No w w')
  (σ':=[(3,rt 87),(0,.iface 390 (.pointer (some e)))]) (n:=0) zs ⟨rfl,hS.ext⟩ ?_
 rintro _ w1 n ⟨rfl,hx⟩;refine aa.extern (LJ e) (L6 e w1) rfl rfl ?_;refine⟨_,_,rm (Ry _) (SG _),aa.extern zto (zvg w1) rfl rfl ?_⟩;refine .quiet (Gap.bI _ _ _ _) (zzM e w1) rfl rfl ?_;refine .quiet (Gap.bI _ _ _ _) (M9 e w1) rfl rfl ?_;refine .quiet (Gap.bI _ _ _ _) (M1 e w1) rfl rfl ?_;refine zE ?_;exact⟨rfl,hx⟩
theorem YH (e p:Addr)(w:World)(hh:Handle w):aa prog 31 #[.iface 390 (.pointer (some e)),.iface 89 (.pointer (some p))] w fun v w'=>v=.bool false∧Ext No w w':=by
 refine zN func31 ntmps31 ?_;have hS:=St.start w No;refine aa.kY (Ru p) fun gn gd=>⟨_,_,Se p (Gap.wgap w gn gd),?_⟩
 replace hS:=hS.ed gn gd;generalize Gap.wgap w gn gd=w9 at hS ⊢;replace hS:=hS.pQ 89 [.pointer (some p)];have hb:=(hS.blk 0 rfl).cell 0;have gY:=(hS.blk 0 rfl).lt;generalize gA w9 89 [.pointer (some p)]=w1 at hS hb gY ⊢;generalize w9.heap.size=b1 at hS hb gY ⊢;(conv=>whnf)
 first|refine sD.mk ⟨.agg #[.pointer none,.pointer none,.int .u64 0],zk,?_⟩|skip
 refine hS.new (fun b w2 jc hS=>?_);refine hS.sT 1 fun w3 hS=>?_
 refine hS.la 1 rfl (l:=jM 89 ⟨b1,0,none⟩) rfl rfl ?_;refine aa.extern (Ul _) (Ut _ w3) rfl rfl ?_;refine⟨_,_,rm (Hx _) (HK _),aa.extern T3 (Uh w3) rfl rfl ?_⟩;refine aB.of (fun w=>rfl) ?_;refine hS.la 1 rfl (l:=jM 89 ⟨b1,0,none⟩) rfl rfl ?_;refine aa.extern (T1 _) (Ug _ p w3 ((hS.blk 0 rfl).cell 0)) rfl rfl ?_;refine⟨_,_,rm (T6 _) (UF _),aa.extern Uj (Ur w3) rfl rfl ?_⟩;refine⟨_,_,rm (Hx _) (HK _),aa.extern T4 (Ui w3) rfl rfl ?_⟩;refine aB.of (fun w=>rfl) ?_;refine hS.cK hh id ?_;refine⟨_,_,rm (T7 _) (UG _),aa.extern Uk (Us w3) rfl rfl ?_⟩;refine hS.la 1 rfl (l:=jM 89 ⟨b1,0,none⟩) rfl rfl ?_;refine(zvU e p _ w3).mono ?_;rintro v w' ⟨rfl,hx⟩;refine zE ?_;exact⟨rfl,(hS.no hx).ext⟩
theorem zzy (j k:Nat)(w:World)(hE:bF w E n ks)(hj:ks.contains j=true)(hk:ks.contains k=true) :
  aa prog 104 #[.iface 390 (.pointer (some (E j))),.iface 390 (.pointer (some (E k))),.bool true] w fun v w'=>v=.bool (Nat.beq j k)∧Ext No w w':=by
 refine zN func104 ntmps104 ?_;have hS:=St.start w No
 refine d5 aj (fun σ w' n=>σ=[(2,.bool true),(1,.iface 390 (.pointer (some (E k)))),(0,.iface 390 (.pointer (some (E j))))]∧w=w')
  (σ':=[(2,.bool true),(1,.iface 390 (.pointer (some (E k)))),(0,.iface 390 (.pointer (some (E j))))]) (n:=0) ⟨rfl,rfl,rfl,trivial⟩ ⟨rfl,rfl⟩ ?_
 rintro _ w1 n ⟨rfl,rfl⟩;(conv=>whnf);obtain⟨i1,wZ,sZ⟩:=Option.map_eq_some_iff.1 (show(prog.info? 390).map (·.comparable)=some true by kernel_rfl);obtain⟨i2,tv,hsz⟩:=Option.map_eq_some_iff.1 (show(prog.info? 392).map (·.size)=some 1 by kernel_rfl);by_cases h:j=k
 ·subst h;refine⟨_,Pe underlying28 underlying390 wZ sZ tv,?_⟩;refine zE ?_;exact⟨by rw[Nat.beq_refl],Ext.refl _ _⟩
 ·obtain⟨⟨_,h1,f1⟩,_⟩:=hE.row j hj;obtain⟨⟨_,h2,f2⟩,_⟩:=hE.row k hk;refine⟨_,OZ underlying28 underlying390 wZ sZ tv (by rw[hsz];decide) (hE.inj j k hj hk h) h1 f1 h2 f2,?_⟩;refine .quiet (Gap.bI _ _ _ _) (UR _ w) rfl rfl ?_;refine .quiet (Gap.bI _ _ _ _) (M9 _ w) rfl rfl ?_;refine .quiet (Gap.bI _ _ _ _) (M1 _ w) rfl rfl ?_;refine zE ?_;exact⟨by rw[show Nat.beq j k=false by cases hb:Nat.beq j k with|false=>rfl|true=>exact absurd (Nat.eq_of_beq_eq_true hb) h],Ext.refl _ _⟩
theorem Zx (j k:Nat)(w:World)(hE:bF w E n ks)(hj:ks.contains j=true)(hk:ks.contains k=true) :
  aa prog 41 #[.iface 390 (.pointer (some (E j))),.iface 390 (.pointer (some (E k)))] w fun v w'=>v=.bool (Nat.beq j k)∧Ext No w w':=by
 refine zN func41 ntmps41 ?_;refine aa.extern (LJ (E k)) (L6 (E k) w) rfl rfl ?_;refine⟨_,_,rm (T5 _) (UE _),aa.extern UK (Uq w) rfl rfl ?_⟩;refine(zzy j k w hE hj hk).mono ?_;rintro v w' ⟨rfl,hx⟩;refine zE ?_;exact⟨rfl,hx⟩
def cH:List Nat:=[1,2,3,4,5,6,7,8,9,10,11]
theorem Tz (E:Nat→Addr):∀j:Nat,j<11→([1,2,3,4,5,6,7,8,9,10,11].map fun k=>Value.iface 390 (.pointer (some (E k))))[0+((j:Int)).toNat*1]?=some (.iface 390 (.pointer (some (E (j+1))))):=by
 intro j hj
 match j,hj with
 | 0,_|1,_|2,_|3,_|4,_|5,_|6,_|7,_|8,_|9,_|10,_=>rfl
 | n+11,h=>omega
theorem Ti (k:Nat)(hk:k<12)(w:World)(hE:bF w E n cH)(hh:Handle w) :
  aa prog 24 #[gC E k] w fun v w'=>v=.tuple #[.int .i64 k,.int .i64 (-1)]∧Ext No w w':=by
 cases k with
 | zero =>
  refine zN func24 ntmps24 ?_;refine zE ?_;exact⟨rfl,Ext.refl _ _⟩
 | succ k =>
  have ez:∀j,j<11→cH.contains (j+1)=true:=by
   intro j hj
   match j,hj with
   | 0,_|1,_|2,_|3,_|4,_|5,_|6,_|7,_|8,_|9,_|10,_=>rfl
   | n+11,h=>omega
  refine zN func24 ntmps24 ?_;have hS:=St.start w No;refine hS.new (fun b w2 jc hS=>?_);refine hS.cn (YH (E (k+1)) ⟨b,0,none⟩ w2 (hh.ext hS.ext)) fun w' hS=>?_
  repeat' ((conv=>whnf);first|refine hS.cK (hE.at_ 1 rfl) id ?_|refine hS.cK (hE.at_ 2 rfl) id ?_|refine hS.cK (hE.at_ 3 rfl) id ?_|refine hS.cK (hE.at_ 4 rfl) id ?_|refine hS.cK (hE.at_ 5 rfl) id ?_|refine hS.cK (hE.at_ 6 rfl) id ?_|refine hS.cK (hE.at_ 7 rfl) id ?_|refine hS.cK (hE.at_ 8 rfl) id ?_|refine hS.cK (hE.at_ 9 rfl) id ?_|refine hS.cK (hE.at_ 10 rfl) id ?_|refine hS.cK (hE.at_ 11 rfl) id ?_)
  refine hS.lit (cs:=cH.map fun k=>Value.iface 390 (.pointer (some (E k)))) underlying63 (sz:=1) zk (z:=.nilIface) zk rfl rfl zk (fun bs w4 I8 hS=>?_)
  refine d5 aj (fun σ w' n=>∃j:Nat,σ=[(29,.int .i64 j),(28,.int .i64 11),(27,.slice (some ⟨bs,0,none⟩) 11 11),(3,.int .i64 (-1)),(0,.iface 390 (.pointer (some (E (k+1)))))]∧n=11-j∧j≤k∧St w No w' [blk b 87 [.pointer none],blk bs 28 (cH.map fun k=>Value.iface 390 (.pointer (some (E k))))])
   (σ':=[(29,.int .i64 ((0:Nat):Int)),(28,.int .i64 11),(27,.slice (some ⟨bs,0,none⟩) 11 11),(3,.int .i64 (-1)),(0,.iface 390 (.pointer (some (E (k+1)))))]) (n:=11) zs ⟨0,rfl,rfl,Nat.zero_le _,hS⟩ ?_
  rintro _ w1 n ⟨j,rfl,rfl,hj,hS⟩;apply aR<;>intro h3
  ·refine ao.mk zo zo ?_;refine hS.ld 1 rfl (Tz E j zo) ?_;refine hS.cn (Zx (k+1) (j+1) w1 (hE.ext hS.ext (fun _ h=>h.elim)) (ez k zo) (ez j zo)) fun w' hS=>?_
   apply aR<;>intro h4
   ·have:k+1=j+1:=Nat.eq_of_beq_eq_true h4;obtain rfl:k=j:=by omega
    refine ag.mk zo zo ?_;exact⟨⟨rfl,hS.ext⟩⟩
   ·have:k+1≠j+1:=Nat.ne_of_beq_eq_false h4;refine ag.mk zo zo ?_;exact aD.mk ⟨_,[(29,.int .i64 ((j+1:Nat):Int)),(28,_),(27,_),(3,_),(0,_)],by omega,zs,⟨j+1,rfl,rfl,by omega,hS⟩⟩
  ·exfalso;omega
theorem handle_of {L:List (String × DataW Unit)}(hl : laidMetH prog L W) (hm : ("errors.errorType", .iface "internal/reflectlite.rtype" (.agg [.ptr (.lit (.string [101, 114, 114, 111, 114]))])) ∈ L) : Handle W := by
 have h2:=(laidMetH_iff.1 hl).2 _ (List.mem_filter.2 ⟨hm,rfl⟩);obtain⟨name,u,ty,e1,e2,e3,e4,e5⟩:=h2;have en:name=[101,114,114,111,114]:=(Option.some.inj e1).symm;subst en
 obtain rfl := Option.some.inj ((show (prog.cutTypes.find? (·.1 == "internal/reflectlite.rtype")).map (·.2) = some 238 by kernel_rfl).symm.trans e2)
 have hm:ty∈(List.range prog.types.size).filter fun t=>prog.rowNamed t [101,114,114,111,114]:=List.mem_filter.2 ⟨List.mem_range.2 e3,e4⟩
 rw[show((List.range prog.types.size).filter fun t=>prog.rowNamed t [101,114,114,111,114])=[28] by kernel_rfl]at hm;obtain rfl:=List.mem_singleton.1 hm;have hh:typeHandle prog 28=hv 28:=by kernel_rfl
 rw[hh]at e5
 have := World.var?_cell (show prog.globalNamed "errors.errorType" = some 11 by kernel_rfl) e5 0
 simpa[Handle,rt]using this
def Ad (t:TypeId)(a:Addr):List Value:=[hv t,.pointer (some a),.int .u64 406]
theorem uZ : EX prog 124 (ReflectliteValue.method (ReflectliteValue.valueError "reflectlite.Value.Elem" 0) ReflectliteValue.elem) := fun args w =>
 run_callFunc_extern (e := (ReflectliteValue.method (ReflectliteValue.valueError "reflectlite.Value.Elem" 0) ReflectliteValue.elem)) func124 zk zk zk zk args w
theorem Cg:EX prog 125 ReflectliteValue.set:=fun args w =>
 run_callFunc_extern (e:=ReflectliteValue.set) func125 zk zk zk zk args w
theorem zso (v:Value)(w:World):(callFunc 103 #[.iface 87 v]).run prog w=.ok (.value (rt 87)) w:=nN.to zk
theorem zsk (w:World):(callFunc 315 #[.agg #[hv 87],rt 87]).run prog w=.ok (.value (.bool true)) w:=nM.to zk
theorem zpw (e:Addr)(w:World):(callFunc 62 #[.iface 87 (.pointer (some e))]).run prog w
  = .ok (.value (.agg (jM 87 ⟨w.heap.size,0,none⟩).toArray)) (gA w 87 [.pointer (some e)]):=mv.to zk
theorem zxP (a p:Addr)(w:World)(ha:w.cell? a=some (.pointer (some p))):(callFunc 124 #[.agg (jM 89 a).toArray]).run prog w=.ok (.value (.agg (Ad 87 p).toArray)) w:=by
 refine uZ.to ?_;have hp:(ReflectliteValue.parts (.agg (jM 89 a).toArray)).run prog w=.ok (some (89,a,150)) w:=zk;have he:∀w,(Rtype.elem? 89).run prog w=.ok (some 87) w:=fun w=>zk
 have hm:∀w,(ReflectliteValue.mk 87 p ReflectliteValue.flagAddr).run prog w=.ok (.agg (Ad 87 p).toArray) w:=fun w=>zk
 rw [show ReflectliteValue.method (ReflectliteValue.valueError "reflectlite.Value.Elem" 0) ReflectliteValue.elem #[.agg (jM 89 a).toArray] = (do match ← ReflectliteValue.parts (.agg (jM 89 a).toArray) with | none => ReflectliteValue.valueError "reflectlite.Value.Elem" 0 | some (t, a, fl) => ReflectliteValue.elem t a fl (fl % 32)) from rfl]
 simp only[Sem.run_bind,hp,Result.andThen];simp[ReflectliteValue.elem,loadVar,isAgg,underlying,underlying89,ha,Result.andThen,he,hm]
theorem zyN (v x:Value):ReflectliteValue.set #[v,x]=(do
  let (some (dst,a,fl),some (src,b,_)):=(←ReflectliteValue.parts v,←ReflectliteValue.parts x)
   | unsupported (.noEntry "extern/(internal/reflectlite.Value).Set.zeroValue")
  if fl / ReflectliteValue.flagAddr % 2 == 0 then unsupported (.noEntry "extern/(internal/reflectlite.Value).Set.unaddressable")
  let val ←loadVar src b
  if ←Rtype.directlyAssignable dst src then storeVar dst a val
  else if ←Rtype.implements dst src then
   if (←Rtype.kind src) == 20 then
    match val with
    | .nilIface => unsupported (.noEntry "extern/reflectlite: a nil value of one interface type handed on as a value of another")
    | _=>storeVar dst a val
   else storeVar dst a (.iface src val)
  else panicString ("reflectlite.Set: value of type " ++ (← Rtype.spelt src) ++ " is not assignable to type " ++ (← Rtype.spelt dst))
  pure (.tuple #[])):=rfl
theorem zzT (ta b e:Addr)(old:Value)(w:World)(hb:w.cell? b=some (.pointer (some e)))(ht:w.cell? ta=some old)(hf:w.frozen? ta=false) :
  (callFunc 125 #[.agg (Ad 87 ta).toArray,.agg (jM 87 b).toArray]).run prog w=.ok (.value (.tuple #[])) (w.setCell ta (.pointer (some e))):=by
 refine Cg.to ?_;have h1:(ReflectliteValue.parts (.agg (Ad 87 ta).toArray)).run prog w=.ok (some (87,ta,406)) w:=zk;have h2:(ReflectliteValue.parts (.agg (jM 87 b).toArray)).run prog w=.ok (some (87,b,150)) w:=zk;have hd:∀w,(Rtype.directlyAssignable 87 87).run prog w=.ok true w:=fun w=>zk
 rw[zyN];simp only[Sem.run_bind,h1,h2,Result.andThen];simp[ReflectliteValue.flagAddr,loadVar,isAgg,underlying,underlying87,hb,Result.andThen,hd,storeVar,Value.cells,storeCells,Addr.add];rw[run_store prog w ta _ _ (by rfl)];simp[ht,hf]
theorem zrk (v:Value):Gap.Plain prog (callFunc 103 #[.iface 87 v]):=m5 func103 zk zk zk (e:=ReflectliteType.typeOf) zk _ (of_eq_true zk)
theorem zrg : Gap.Plain prog (callFunc 315 #[.agg #[hv 87], rt 87]) := m5 func315 zk zk zk (e := (ReflectliteType.relation "AssignableTo" ReflectliteType.assignableTo)) zk _ (of_eq_true zk)
theorem Z4 (e:Addr):Gap.Plain prog (callFunc 62 #[.iface 87 (.pointer (some e))]):=m5 func62 zk zk zk (e:=(fun args=>ReflectliteValue.unpack (args.getD 0 (.tuple #[])))) zk _ (show Gap.Plain prog (do ReflectliteValue.mk 87 (←newVar 87 (.pointer (some e))) 0) from Gap.af (Gap.dh _ _) fun a=>of_eq_true zk)
theorem zwy (a p:Addr)(w:World)(ha:w.cell? a=some (.pointer (some p))):Gap.Quiet prog (callFunc 124 #[.agg (jM 89 a).toArray]) w (.value (.agg (Ad 87 p).toArray)) w:=by
 refine .of (m5 func124 zk zk zk (e := (ReflectliteValue.method (ReflectliteValue.valueError "reflectlite.Value.Elem" 0) ReflectliteValue.elem)) zk _ ?_) (zxP a p w ha) rfl rfl
 have e : Gap.Plain prog ((ReflectliteValue.method (ReflectliteValue.valueError "reflectlite.Value.Elem" 0) ReflectliteValue.elem) #[.agg (jM 89 a).toArray]) = Gap.Plain prog (do match ← load a with | .pointer none => pure ReflectliteValue.zeroV | .pointer (some p) => ReflectliteValue.mk 87 p ReflectliteValue.flagAddr | _ => ReflectliteValue.valueError "reflectlite.Value.Elem" 22 : Sem Value) := zk
 rw[e];refine Gap.af (Gap.dV a) fun v=>?_
 split
 ·trivial
 ·exact of_eq_true zk
 ·unfold ReflectliteValue.valueError;exact Gap.af (of_eq_true zk) fun t=>Gap.af (Gap.fB t) fun u=>Gap.af (Gap.dh _ _) fun e=>trivial
theorem zzD (ta b:Addr):Gap.Plain prog (callFunc 125 #[.agg (Ad 87 ta).toArray,.agg (jM 87 b).toArray]):=by
 refine m5 func125 zk zk zk (e:=ReflectliteValue.set) zk _ ?_;have e:Gap.Plain prog (ReflectliteValue.set #[.agg (Ad 87 ta).toArray,.agg (jM 87 b).toArray])=Gap.Plain prog (do let val ←load b;storeVar 87 ta val;pure (.tuple #[]):Sem Value):=zk;rw[e];exact Gap.af (Gap.dV b) fun v=>Gap.af (Gap.fM _ _ _) fun _=>trivial
section
theorem zx3 (e:Addr)(bq:Nat)(old:Value)(hq:w.cell? ⟨bq,0,none⟩=some (.pointer (some ⟨b,0,none⟩)))(cj:¬bq=b)(hb:bC w b 87 [old]):aa prog 65 #[.iface 87 (.pointer (some e)),.iface 89 (.pointer (some ⟨b,0,none⟩)),.agg (jM 89 ⟨bq,0,none⟩).toArray,rt 87] w fun v w'=>v=.bool true∧Ext (· = b) w w'∧bC w' b 87 [.pointer (some e)]:=by
 refine zN func65 ntmps65 ?_;have hS:=St.sb hb;refine hS.new (fun b6 w2 Cy hS=>?_)
 refine d5 aj (fun σ w' n=>σ=[(6,.pointer (some ⟨b6,0,none⟩)),(3,rt 87),(0,.iface 87 (.pointer (some e)))]∧St w (· = b) w' [blk b 87 [old],blk b6 163 (jM 89 ⟨bq,0,none⟩)]∧w'.cell? ⟨bq,0,none⟩=some (.pointer (some ⟨b,0,none⟩)))
  (σ':=[(6,.pointer (some ⟨b6,0,none⟩)),(3,rt 87),(0,.iface 87 (.pointer (some e)))]) (n:=0) zs ⟨rfl,hS,?_⟩ ?_
 ·exact hS.ext.cell hq cj
 rintro _ w1 n ⟨rfl,hS,W9⟩;refine aa.extern (zrk _) (zso _ w1) rfl rfl ?_;refine⟨_,_,rm (Ry _) (SG _),aa.extern zrg (zsk w1) rfl rfl ?_⟩;refine hS.lX 1 ?_;refine⟨.inr (.inl ⟨_,_,zwy ⟨bq,0,none⟩ ⟨b,0,none⟩ w1 W9,?_⟩)⟩;refine aa.kY (Z4 e) fun gn gd=>⟨_,_,zpw e (Gap.wgap w1 gn gd),?_⟩
 replace hS:=hS.ed gn gd;generalize Gap.wgap w1 gn gd=w9 at hS ⊢;replace hS:=hS.pQ 87 [.pointer (some e)];have hv:=(hS.blk 2 rfl).cell 0;have lq:=hS.blk 0 rfl;generalize gA w9 87 [.pointer (some e)]=w3 at hS hv lq ⊢;generalize w9.heap.size=b3 at hS hv ⊢;refine aa.extern (zzD _ _) (zzT ⟨b,0,none⟩ ⟨b3,0,none⟩ e old w3 hv (by rw[lq.cell];rfl) (lq.frozen 0)) (by simp[World.setCell]) rfl ?_;rw[QA lq];replace hS:=hS.upd (e':=blk b 87 [.pointer (some e)]) 0 rfl (T:=(· = b)) (Ext.set (S:=(· = b)) (b:=b) rfl 87 _) (fun c hc=>by simp[Ev.blk,hc]) (eh _ _ _) (AF lq.lt) (fun c hc=>.inl hc);exact zG
theorem YX (e:Addr)(old:Value)(hh:Handle w)(hb:bC w b 87 [old])(cj:¬b=11):aa prog 31 #[.iface 87 (.pointer (some e)),.iface 89 (.pointer (some ⟨b,0,none⟩))] w fun v w'=>v=.bool true∧Ext (· = b) w w'∧bC w' b 87 [.pointer (some e)]:=by
 have p:Addr:=⟨b,0,none⟩;refine zN func31 ntmps31 ?_;have hS:=St.sb hb;refine aa.kY (Ru ⟨b,0,none⟩) fun gn gd=>⟨_,_,Se ⟨b,0,none⟩ (Gap.wgap w gn gd),?_⟩
 replace hS:=hS.ed gn gd;generalize Gap.wgap w gn gd=w9 at hS ⊢;replace hS:=hS.pQ 89 [.pointer (some ⟨b,0,none⟩)];generalize gA w9 89 [.pointer (some ⟨b,0,none⟩)]=w1 at hS ⊢;generalize w9.heap.size=b1 at hS ⊢;(conv=>whnf)
 first|refine sD.mk ⟨.agg #[.pointer none,.pointer none,.int .u64 0],zk,?_⟩|skip
 refine hS.new (fun b2 w2 jc hS=>?_);refine hS.sT 2 fun w3 hS=>?_
 refine hS.la 2 rfl (l:=jM 89 ⟨b1,0,none⟩) rfl rfl ?_;refine aa.extern (Ul _) (Ut _ w3) rfl rfl ?_;refine⟨_,_,rm (Hx _) (HK _),aa.extern T3 (Uh w3) rfl rfl ?_⟩;refine aB.of (fun w=>rfl) ?_;refine hS.la 2 rfl (l:=jM 89 ⟨b1,0,none⟩) rfl rfl ?_;refine aa.extern (T1 _) (Ug _ ⟨b,0,none⟩ w3 ((hS.blk 1 rfl).cell 0)) rfl rfl ?_;refine⟨_,_,rm (T6 _) (UF _),aa.extern Uj (Ur w3) rfl rfl ?_⟩;refine⟨_,_,rm (Hx _) (HK _),aa.extern T4 (Ui w3) rfl rfl ?_⟩;refine aB.of (fun w=>rfl) ?_;refine hS.cK hh (fun h=>cj h.symm) ?_;refine⟨_,_,rm (T7 _) (UG _),aa.extern Uk (Us w3) rfl rfl ?_⟩;refine hS.la 2 rfl (l:=jM 89 ⟨b1,0,none⟩) rfl rfl ?_;refine(zx3 e b1 old ((hS.blk 1 rfl).cell 0) (fun h=>hS.ne 1 0 rfl rfl zd h) (hS.blk 0 rfl)).mono ?_;rintro v w' ⟨rfl,hx,hB⟩;replace hS:=hS.uB 0 hx hB;exact zG
theorem zyW (v:Value)(w:World):(Instr.typeAssert (.iface 87 v) 28 245 true).run prog w=.ok (.tuple #[.iface 87 v,.bool true]) w:=run_typeAssert_hasB underlying245 zk _ _ w
theorem zyV (v:Value)(w:World):(Instr.typeAssert (.iface 87 v) 28 285 true).run prog w=.ok (.tuple #[.nilIface,.bool false]) w:=run_typeAssert_lacksB underlying285 zk zk _ _ w
theorem zzB (v : Value) (w : World) : (Go.method (prog.types.size + Made.depth) 87 v "Unwrap").run prog w = .ok (307, v) w := zk
theorem zr0 {a e:Value}(hf:bC w f 91 [a,e]):aa prog 307 #[.pointer (some ⟨f,0,none⟩)] w fun v w'=>v=e∧w=w':=by
 refine zN func307 ntmps307 ?_;refine g9 (v:=e) (by rw[hf.cell];rfl) ?_;exact zH
theorem zyq {a:Value}(j k:Nat)(w:World)(hE:bF w E n ks)(hj:ks.contains j=true)(hk:ks.contains k=true)(hf:bC w f 91 [a,.iface 390 (.pointer (some (E j)))]) :
  aa prog 104 #[.iface 87 (.pointer (some ⟨f,0,none⟩)),.iface 390 (.pointer (some (E k))),.bool true] w fun v w'=>v=.bool (Nat.beq j k)∧Ext No w w':=by
 refine zN func104 ntmps104 ?_;have hS:=St.start w No
 refine d5 aj (fun σ w' n=>(σ=[(2,.bool true),(1,.iface 390 (.pointer (some (E k)))),(0,.iface 87 (.pointer (some ⟨f,0,none⟩)))]∧n=1∨σ=[(2,.bool true),(1,.iface 390 (.pointer (some (E k)))),(0,.iface 390 (.pointer (some (E j))))]∧n=0)∧w=w')
  (σ':=[(2,.bool true),(1,.iface 390 (.pointer (some (E k)))),(0,.iface 87 (.pointer (some ⟨f,0,none⟩)))]) (n:=1) ⟨rfl,rfl,rfl,trivial⟩ ⟨.inl ⟨rfl,rfl⟩,rfl⟩ ?_
 rintro _ w1 n ⟨⟨rfl,rfl⟩|⟨rfl,rfl⟩,rfl⟩
 ·refine⟨_,ZW underlying28 (by decide),?_⟩;refine .quiet (Gap.bI _ _ _ _) (zyV _ w) rfl rfl ?_;refine .quiet (Gap.bI _ _ _ _) (zyW _ w) rfl rfl ?_;refine⟨_,_,rm (of_eq_true (by kernel_rfl)) (zzB _),(zr0 hf).mono ?_⟩;rintro v w' ⟨rfl,rfl⟩;refine aD.mk ⟨0,[(2,_),(1,_),(0,_)],by decide,⟨rfl,rfl,rfl,trivial⟩,.inr ⟨rfl,rfl⟩,rfl⟩
 conv=>whnf
 obtain⟨i1,wZ,sZ⟩:=Option.map_eq_some_iff.1 (show(prog.info? 390).map (·.comparable)=some true by kernel_rfl);obtain⟨i2,tv,hsz⟩:=Option.map_eq_some_iff.1 (show(prog.info? 392).map (·.size)=some 1 by kernel_rfl);by_cases h:j=k
 ·subst h;refine⟨_,Pe underlying28 underlying390 wZ sZ tv,?_⟩;refine zE ?_;exact⟨by rw[Nat.beq_refl],Ext.refl _ _⟩
 ·obtain⟨⟨_,h1,f1⟩,_⟩:=hE.row j hj;obtain⟨⟨_,h2,f2⟩,_⟩:=hE.row k hk;refine⟨_,OZ underlying28 underlying390 wZ sZ tv (by rw[hsz];decide) (hE.inj j k hj hk h) h1 f1 h2 f2,?_⟩;refine .quiet (Gap.bI _ _ _ _) (UR _ w) rfl rfl ?_;refine .quiet (Gap.bI _ _ _ _) (M9 _ w) rfl rfl ?_;refine .quiet (Gap.bI _ _ _ _) (M1 _ w) rfl rfl ?_;refine zE ?_;exact⟨by rw[show Nat.beq j k=false by cases hb:Nat.beq j k with|false=>rfl|true=>exact absurd (Nat.eq_of_beq_eq_true hb) h],Ext.refl _ _⟩
theorem YY {a:Value}(j k:Nat)(w:World)(hE:bF w E n ks)(hj:ks.contains j=true)(hk:ks.contains k=true)(hf:bC w f 91 [a,.iface 390 (.pointer (some (E j)))]) :
  aa prog 41 #[.iface 87 (.pointer (some ⟨f,0,none⟩)),.iface 390 (.pointer (some (E k)))] w fun v w'=>v=.bool (Nat.beq j k)∧Ext No w w':=by
 refine zN func41 ntmps41 ?_;refine aa.extern (LJ (E k)) (L6 (E k) w) rfl rfl ?_;refine⟨_,_,rm (T5 _) (UE _),aa.extern UK (Uq w) rfl rfl ?_⟩;refine(zyq j k w hE hj hk hf).mono ?_;rintro v w' ⟨rfl,hx⟩;refine zE ?_;exact⟨rfl,hx⟩
theorem zsK (k:Nat)(hk:k<11)(w:World)(hE:bF w E n cH)(hh:Handle w)(hf:bC w f 91 [.int .i64 a,gC E (k+1)]) :
  aa prog 24 #[.iface 87 (.pointer (some ⟨f,0,none⟩))] w fun v w'=>v=.tuple #[.int .i64 ((k+1:Nat):Int),.int .i64 a]∧Ext No w w':=by
 have ez:∀j,j<11→cH.contains (j+1)=true:=by
  intro j hj
  match j,hj with
  | 0,_|1,_|2,_|3,_|4,_|5,_|6,_|7,_|8,_|9,_|10,_=>rfl
  | n+11,h=>omega
 have Bh:¬w.heap.size≤11:=by
  have:=sd hh;simpa using this
 refine zN func24 ntmps24 ?_;have hS:=St.start w No;refine hS.new (fun b w2 jc hS=>?_);refine(YX ⟨f,0,none⟩ (.pointer none) (hh.ext hS.ext) (hS.blk 0 rfl) (fun h=>Bh zo)).mono ?_;rintro v w' ⟨rfl,hx,hB⟩;replace hS:=hS.uB 0 hx hB;refine hS.lD 0 ?_;refine hS.cK (v:=.int .i64 a) (by rw[hf.cell];rfl) id ?_;repeat' ((conv=>whnf);first|refine hS.cK (hE.at_ 1 rfl) id ?_|refine hS.cK (hE.at_ 2 rfl) id ?_|refine hS.cK (hE.at_ 3 rfl) id ?_|refine hS.cK (hE.at_ 4 rfl) id ?_|refine hS.cK (hE.at_ 5 rfl) id ?_|refine hS.cK (hE.at_ 6 rfl) id ?_|refine hS.cK (hE.at_ 7 rfl) id ?_|refine hS.cK (hE.at_ 8 rfl) id ?_|refine hS.cK (hE.at_ 9 rfl) id ?_|refine hS.cK (hE.at_ 10 rfl) id ?_|refine hS.cK (hE.at_ 11 rfl) id ?_)
 refine hS.lit (cs:=cH.map fun k=>Value.iface 390 (.pointer (some (E k)))) underlying63 (sz:=1) zk (z:=.nilIface) zk rfl rfl zk (fun bs w4 I8 hS=>?_);replace hS:St w No w4 [blk bs 28 (cH.map fun k=>Value.iface 390 (.pointer (some (E k))))]:=hS.dv [1] zd
 refine d5 aj (fun σ w' n=>∃j:Nat,σ=[(29,.int .i64 j),(28,.int .i64 11),(27,.slice (some ⟨bs,0,none⟩) 11 11),(3,.int .i64 a),(0,.iface 87 (.pointer (some ⟨f,0,none⟩)))]∧n=11-j∧j≤k∧St w No w' [blk bs 28 (cH.map fun k=>Value.iface 390 (.pointer (some (E k))))])
  (σ':=[(29,.int .i64 ((0:Nat):Int)),(28,.int .i64 11),(27,.slice (some ⟨bs,0,none⟩) 11 11),(3,.int .i64 a),(0,.iface 87 (.pointer (some ⟨f,0,none⟩)))]) (n:=11) zs ⟨0,rfl,rfl,Nat.zero_le _,hS⟩ ?_
 rintro _ w1 n ⟨j,rfl,rfl,hj,hS⟩;apply aR<;>intro h3
 ·refine ao.mk zo zo ?_;refine hS.ld 0 rfl (Tz E j zo) ?_;refine hS.cn (YY (k+1) (j+1) w1 (hE.ext hS.ext (fun _ h=>h.elim)) (ez k zo) (ez j zo) (hS.ext.blk hf id)) fun w' hS=>?_
  apply aR<;>intro h4
  ·have:k+1=j+1:=Nat.eq_of_beq_eq_true h4;obtain rfl:k=j:=by omega
   refine ag.mk zo zo ?_;exact⟨⟨rfl,hS.ext⟩⟩
  ·have:k+1≠j+1:=Nat.ne_of_beq_eq_false h4;refine ag.mk zo zo ?_;exact aD.mk ⟨_,[(29,.int .i64 ((j+1:Nat):Int)),(28,_),(27,_),(3,_),(0,_)],by omega,zs,⟨j+1,rfl,rfl,by omega,hS⟩⟩
 ·exfalso;omega
theorem zsL {k:Nat}(h:dS E w0 w v k a)(hk:k<12)(hE:bF w E n cH)(hh:Handle w) :
  aa prog 24 #[v] w fun v w'=>v=.tuple #[.int .i64 (k:Int),.int .i64 a]∧Ext No w w':=by
 rcases h with⟨rfl,rfl⟩|⟨_,h2,f,rfl,_,hf⟩
 ·exact Ti k hk w hE hh
 ·obtain⟨j,rfl⟩:∃j,k=j+1:=⟨k-1,by omega⟩;exact zsK j zo w hE hh hf
theorem Qq {k:Nat}(h:dS E w0 w v k a)(h0:k=0→a = -1)(hk:k<12)(hE:bF w E n cH)(hh:Handle w) :
  aa prog 9 #[v,.agg (Fi k a).toArray] w fun v w'=>v=.bool true∧Ext No w w':=by
 refine zN func9 ntmps9 ?_;have hS:=St.start w No;refine hS.new (fun bf w' rQ hS=>?_);refine hS.cn (zsL (h.no hS.ext) hk (hE.ext hS.ext fun _ h=>h.elim) (hh.ext hS.ext)) fun w2 hS=>?_
 repeat' ((conv=>whnf);first|apply aI.mk|refine bO.mk zd ?_|refine ag.mk zo zo ?_|refine ao.mk zo zo ?_|refine hS.ld 0 rfl rfl ?_|refine hS.mF 0 rfl rfl ?_|(first|apply aM|apply ca|apply cE|apply cD)<;>(intro))
 all_goals first|exact⟨rfl,hS.ext⟩|(exfalso;rename_i h;exact h rfl)|exact⟨by simp,hS.ext⟩
end
end
namespace Pool
open Go.Conc Gap Ev Go.RowKit Go.Conc.Lib
local instance:Gap.Leaps:=uH
local instance Kn:Kd:=⟨false⟩
def both (e f:bZ):bZ:=⟨e.aW++f.aW,fun w=>e.holds w∧f.holds w⟩
theorem zoz {e f:bZ}(h:e.Local)(k:f.Local):(both e f).Local:=fun w w' hk ⟨h1,h2⟩ =>
 ⟨h w w' (fun b hb=>hk b (List.mem_append_left _ hb)) h1,k w w' (fun b hb=>hk b (List.mem_append_right _ hb)) h2⟩
section
variable {w:World}{E:Nat→Addr}{q b2 n c:Nat}{a:Option Addr}{G:List UInt8→Prop}{ls:List (List UInt8)}
end
end Pool
namespace Pool
open Go.Conc Gap Ev Go.RowKit Go.Conc.Lib
local instance:Gap.Leaps:=onLeaps
attribute [local instance] Kn
def nB (k n:Int):Nat:=if k<1∨k>16 then 3 else if n>100 then 2 else 0
section
variable {w:World}{E:Nat→Addr}{q n c:Nat}{a:Option Addr}{G:List UInt8→Prop}{ls:List (List UInt8)}
theorem SZ (k n:Int)(w:World)(hE:kI w E q [2,3]):aa prog 16 #[.int .i64 k,.int .i64 n] w fun v w'=>v=gC E (nB k n)∧Ext No w w':=by
 have hS:=St.start w No;unfold nB;refine r5 aj func16 zk rfl ntmps16 zl ?_;repeat' ((conv=>whnf);first|apply aI.mk|refine bO.mk zd ?_|refine ag.mk zo zo ?_|refine ao.mk zo zo ?_|refine hS.cK (hE.at_ 2 rfl) id ?_|refine hS.cV (hE.at_ 2 rfl) id id ?_|refine hS.cK (hE.at_ 3 rfl) id ?_|refine hS.cV (hE.at_ 3 rfl) id id ?_|(first|apply aM|apply ca|apply cE|apply cD)<;>(intro))
 ·rw[if_pos zo];exact⟨rfl,hS.ext⟩
 ·rw[if_pos zo];exact⟨rfl,hS.ext⟩
 ·rw[if_neg zo,if_pos zo];exact⟨rfl,hS.ext⟩
 ·rw[if_neg zo,if_neg zo];exact⟨rfl,hS.ext⟩
end
end Pool
section
open Ev
variable [Gap.Leaps]
def rD (n m i:Nat):List UInt8:=(List.range m).map fun j=>if m≤j+i then UInt8.ofNat (n / 256 ^ (m-1-j)) else 0
def jx (n m:Nat):List UInt8:=(List.range m).map fun j=>UInt8.ofNat (n / 256 ^ (m-1-j))
theorem Hk (n m i:Nat):(rD n m i).length=m:=by simp[rD]
theorem o8 (n m:Nat):(jx n m).length=m:=by simp[jx]
theorem zq7 (n m:Nat):rD n m 0=List.replicate m 0:=by
 apply List.ext_getElem?;intro j;by_cases h:j<m
 ·have:¬m≤j:=by omega
  simp[rD,h,this]
 ·simp[rD,h]
theorem zq6 (n m:Nat):rD n m m=jx n m:=by
 unfold rD jx;apply List.map_congr_left;intro j _;rw[if_pos zo]
theorem HA {n m i j:Nat}(h:j<m):(rD n m i)[j]?=some (if m≤j+i then UInt8.ofNat (n / 256 ^ (m-1-j)) else 0):=by simp[rD,h]
theorem ztk {n m i:Nat}(h:i<m):(rD n m i).set (m-1-i) (UInt8.ofNat (n / 256 ^ i))=rD n m (i+1):=by
 apply List.ext_getElem?;intro j;rw[List.getElem?_set];by_cases e:m-1-i=j
 ·subst e;rw[if_pos rfl,if_pos (by rw[Hk];omega),HA zo,if_pos zo,show m-1-(m-1-i)=i by omega]
 ·rw[if_neg e];by_cases hj:j<m
  ·rw[HA hj,HA hj];by_cases h1:m≤j+i
   ·rw[if_pos h1,if_pos zo]
   ·rw[if_neg h1,if_neg zo]
  ·rw[List.getElem?_eq_none (by rw[Hk];omega),List.getElem?_eq_none (by rw[Hk];omega)]
theorem To (q:Nat):((UInt8.ofNat q).toNat:Int)=(q:Int) % 256:=by
 rw[UInt8.toNat_ofNat'];omega
theorem zrf {α:Type}{w:World}{sz n c g:Nat}{e:TypeId}{enc:α→List Value}(C:cR sz enc){xs:List α}(h:(az e sz enc (.slice (some ⟨g,0,none⟩) n c) xs).holds w):aH w g 0 (xs.flatMap enc):=by
 obtain⟨_,⟨h1,_⟩|⟨g',cap,cur,h1,h2,h3,h4,h5,h6,h7⟩⟩:=h
 ·cases h1
 ·cases h1;intro j v hj;have aQ:=(List.getElem?_eq_some_iff.1 hj).1;rw[gU C]at aQ;rw[←h7,List.getElem?_take_of_lt zo]at hj;simp only[World.cell?,h3,Nat.zero_add];simpa using hj
theorem Mc:∀m:Nat,List.replicate m (Value.int .u8 0)=(List.replicate m (0:UInt8)).flatMap j1
 | 0=>rfl
 | m+1=>by rw[List.replicate_succ,List.replicate_succ,List.flatMap_cons,←Mc m];rfl
theorem ztK (n i:Nat):IntKind.u8.wrap ((n:Int) / 2 ^ (8*i))=((UInt8.ofNat (n / 256 ^ i)).toNat:Int):=by
 rw[IntKind.wrap_u8',To,Int.pow_mul];have:((2:Int) ^ 8) ^ i=((256 ^ i:Nat):Int):=by simp
 rw[this,←Int.natCast_ediv]
theorem GY (n m:Nat)(hm:m≤7)(_hn:n<9223372036854775808)(w:World) :
  aa prog 187 #[.int .i64 (n:Int),.int .i64 (m:Int)] w fun v w'=>v=.string (bs (jx n m))∧Ext No w w':=by
 refine zN func187 ntmps187 ?_;have hS:=St.start w No;refine hS.mkSlice (n:=m) underlying124 (sz:=1) (bytes:=1) zk (z:=.int .u8 0) zk zo zo (by unfold maxLen;omega) (enc:=j1) (xs:=rD n m 0) (Hk _ _ _) (by rw[zq7,show(Value.int .u8 0).cells = #[.int .u8 0] from rfl,EN,Nat.mul_one];exact Mc m) (fun g w' hg hS=>?_)
 refine d5 aj (fun σ w' q=>∃i:Nat,σ=[(10,.int .i64 i),(9,.int .i64 m),(5,.slice (some ⟨g,0,none⟩) m m),(1,.int .i64 m),(0,.int .i64 n)]∧q=m-i∧i≤m∧St w No w' [az 5 1 j1 (.slice (some ⟨g,0,none⟩) m m) (rD n m i)])
  (σ':=[(10,.int .i64 ((0:Nat):Int)),(9,.int .i64 m),(5,.slice (some ⟨g,0,none⟩) m m),(1,.int .i64 m),(0,.int .i64 n)]) (n:=m) zs ⟨0,rfl,rfl,Nat.zero_le _,hS⟩ ?_
 rintro _ w1 q ⟨i,rfl,rfl,hi,hS⟩;apply aR<;>intro h3
 ·have tv:i<m:=by omega
  repeat' ((conv=>whnf);first|apply aI.mk|refine bO.mk zd ?_|refine ag.mk zo zo ?_|refine ao.mk zo zo ?_|refine ag.mk zo zo ?_|(first|apply aM|apply ca|apply cE|apply cD)<;>(intro))
  refine U5 (n:=8*i) zo (by show 8*i≤64;omega) ?_;refine wo (kd:=.u8) zk underlying5 (ztK n i) ?_;refine ao.mk zo zo ?_;refine hS.jN oL 0 (k:=m-1-i) (x:=UInt8.ofNat (n / 256 ^ i)) rfl (HA zo) zo rfl (fun w' _ hS=>?_);rw[ztk tv]at hS;refine ag.mk zo zo ?_;refine aD.mk ⟨_,[(10,.int .i64 ((i+1:Nat):Int)),(9,_),(5,_),(1,_),(0,_)],?_,zs,⟨i+1,rfl,rfl,by omega,hS⟩⟩;omega
 ·obtain rfl:i=m:=by omega
  rw[zq6]at hS;obtain⟨_,_,h0⟩:∃b o,aH w1 g 0 ((jx n i).flatMap j1):=⟨0,0,zrf oL (hS.get 0 rfl)⟩;refine H2 underlying124 underlying5 underlying9 h0 (o8 _ _) ?_;exact zF
def jU (l:List UInt8):Nat:=l.foldl (fun n b=>n*256+b.toNat) 0
theorem Sa {l:List UInt8}{k:Nat}{x:UInt8}(h:l[k]?=some x):jU (l.take (k+1))=jU (l.take k)*256+x.toNat:=by
 unfold jU;rw[List.take_add_one,h,List.foldl_append];rfl
theorem zvb (l:List UInt8)(x:UInt8):jU (l++[x])=jU l*256+x.toNat:=by
 unfold jU;rw[List.foldl_append];rfl
theorem Sw:∀(l:List UInt8) (n c:Nat),n<256 ^ c→l.foldl (fun n b=>n*256+b.toNat) n<256 ^ (c+l.length)
 | [],n,c,h=>by simpa using h
 | x::l,n,c,h=>by
  have hx:=x.toNat_lt;have:=Sw l (n*256+x.toNat) (c+1) (by rw[Nat.pow_succ];omega);rw[List.foldl_cons,List.length_cons,show c+(l.length+1)=c+1+l.length by omega];exact this
theorem MU (l:List UInt8):jU l<256 ^ l.length:=by
 have:=Sw l 0 0 zi
 rwa [Nat.zero_add]at this
theorem zyD {a b:Nat}(hb:b<256):a*256 ||| b=a*256+b:=by
 have:=Nat.shiftLeft_add_eq_or_of_lt (i:=8) (b:=b) zo a;rw[Nat.shiftLeft_eq]at this;exact this.symm
theorem Mn (l:List UInt8)(hl:l.length≤7)(w:World) :
  aa prog 127 #[.string (bs l)] w fun v w'=>v=.int .i64 (jU l:Nat)∧Ext No w w':=by
 refine zN func127 ntmps127 ?_;have hS:=St.start w No;(conv=>whnf);rw[nE]
 refine d5 aj (fun σ w' q=>∃i:Nat,σ=[(7,.int .i64 i),(6,.int .i64 (l.length:Nat)),(3,.int .i64 (jU (l.take i):Nat)),(0,.string (bs l))]∧q=l.length-i∧i≤l.length∧St w No w' [])
  (σ':=[(7,.int .i64 ((0:Nat):Int)),(6,.int .i64 (l.length:Nat)),(3,.int .i64 ((0:Nat):Int)),(0,.string (bs l))]) (n:=l.length) zs ⟨0,rfl,rfl,Nat.zero_le _,hS⟩ ?_
 rintro _ w1 q ⟨i,rfl,rfl,hi,hS⟩;apply aR<;>intro h3
 ·obtain⟨x,hx⟩:∃x,l[i]?=some x:=⟨_,List.getElem?_eq_getElem zo⟩;have aX:=Sa hx;have aQ:=MU (l.take i);have h7:256 ^ (l.take i).length≤256 ^ 6:=Nat.pow_le_pow_right zo (by rw[List.length_take];omega);have xw:=x.toNat_lt;generalize jU (l.take i)=v at aX aQ;have hv:v<281474976710656:=Nat.lt_of_lt_of_le aQ h7;refine Yi (n:=8) (m:=((v*256:Nat):Int)) rfl zd (by rw[IntKind.wrap_i64];omega) ?_;refine wu underlying9 rfl hx ?_;refine wo (kd:=.i64) (m:=(x.toNat:Int)) zk underlying3 (by rw[IntKind.wrap_i64];omega) ?_;refine zzC (a:=v*256) zo zo ?_;rw[zyD zo,←aX];refine ag.mk zo zo ?_;refine aD.mk ⟨_,[(7,.int .i64 ((i+1:Nat):Int)),(6,_),(3,.int .i64 (jU (l.take (i+1)):Nat)),(0,_)],?_,zs,⟨i+1,rfl,rfl,by omega,hS⟩⟩;omega
 ·obtain rfl:i=l.length:=by omega
  rw[List.take_length];exact zF
theorem zq5 (n m:Nat):jx n (m+1)=jx (n / 256) m++[UInt8.ofNat n]:=by
 unfold jx;rw[List.range_succ,List.map_append];congr 1
 ·apply List.map_congr_left;intro j hj;have hj:=List.mem_range.1 hj;rw[show m+1-1-j=(m-1-j)+1 by omega,Nat.pow_succ,Nat.mul_comm,←Nat.div_div_eq_div_mul]
 ·simp
theorem Hs:∀(m n:Nat),jU (jx n m)=n % 256 ^ m
 | 0,n=>by simp[jx,jU,Nat.mod_one]
 | m+1,n=>by
  have h:(256:Nat) ^ (m+1)=256*256 ^ m:=Nat.pow_succ';rw[zq5,zvb,Hs m,UInt8.toNat_ofNat',h,Nat.mod_mul];omega
end
end Go.Proofs.YtggfpjldhglmeaaGreatDoor