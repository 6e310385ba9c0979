/-
  Texts of this claim, joined: PoolK, PoolL, PoolM, PoolN, PoolO, PoolP, PoolU, PoolV, PoolQ, PoolR, PoolS, PoolT, PoolW, PoolX.
-/
import Derived.Test.YtggfpjldhglmeaaGreatDoorSidePlaysC
import Derived.Conc.Holds
import Derived.Conc.CrowdStepC
import Derived.Conc.WgGenN3
import Derived.Recover
import Derived.Conc.WgWords
set_option linter.unusedSectionVars false
set_option linter.unusedSimpArgs false
set_option linter.unusedVariables false
set_option maxRecDepth 20000
namespace Go.Proofs.YtggfpjldhglmeaaGreatDoor
open Go Tryz
namespace Pool
open Go.Conc Gap
open Go.ConcN (upd upd_same upd_ne WgLive PayAt RW sumTo sumTo_upd)
open Go.ConcR (WgAt stA smA KK Payload DC0 mk)
variable {gs:Array Goroutine}{g g':Goroutine}{Fin:Goroutine→Prop}{Anch:Goroutine→World→Prop}{sm st:Int}{aA:Loc→Prop}{N Wg d:Nat}{S:Nat→Nat}{O:Nat→Nat→Prop}{K Sh:Nat→Prop}{ρ:Nat→Rk}{sl:Option (Nat×Nat)}{P:Program}{r0:Rk}{X:dT}{t:Trace}{ty:TypeId}{W W' W0 w w1:World}
section
variable [Payload] {X:dT}{zs:Value}{SEL:Nat→(Nat→Bool)→(Nat→Prop)→Goroutine→World→Prop}{aA:Loc→Prop}{Sh K:Nat→Prop}{ow:Option Obj}{kz:Nat→Option Obj}
def HB (X:dT)(SEL:Nat→(Nat→Bool)→(Nat→Prop)→Goroutine→World→Prop)(aA:Loc→Prop)(Sh K:Nat→Prop)(ow:Option Obj)(kz:Nat→Option Obj)(n:Nat)(m':Machine)(t':Trace):Prop :=
 ∃gs' W' eI O' a' ku,m'=crowd gs' W' eI∧gs'.size=n∧Idle X 0 aA Sh K gs' W' t' O'∧eC X.cb W'∧W'.heap[X.Wg]?=ow∧(∀b,X.Z b→W'.heap[b]?=kz b)∧gs'[0]?=some a'∧(∀W1,cv (O' 0) X.Z W' W1→SEL X.many ku (O' 0) a' W1)∧∀i,i<X.many→ku i=true
theorem zts (ok:X.Ok)(so:gX X zs SEL)(pl:eJ X Sh)(nu:E4 X.ty ow)(hex:∃j,K j)(f7:∀next done O g W,SEL next done O g W→g.status≠.blocked):∀(Φ next:Nat) (done:Nat→Bool),(X.many-next)+left X done=Φ→∀(n:Nat) (ρ:Nat→Rk) (tk:Nat→Option Nat) (gs:Array Goroutine) (W:World) (t:Trace) (O:Nat→Nat→Prop) (sl:Option (Nat × Nat)),gs.size=n→Pool X zs SEL aA Sh K ow kz next done tk ρ gs W t O →
  Comes X.P (crowd gs W sl) t (HB X SEL aA Sh K ow kz n):=by
 intro Φ
 induction Φ using Nat.strongRecOn with
 | _ Φ F1 =>
  intro next done hΦ n ρ
  induction ρ using (Dec.wf n).induction with
  | _ ρ ih =>
   intro tk gs W t O sl hn h;obtain⟨j0,kx⟩:=hex;have dZ:0<gs.size:=by have:=h.iR j0 kx;omega
   obtain⟨a,h0⟩:∃a,gs[0]?=some a:=⟨gs[0],Array.getElem?_eq_getElem dZ⟩;obtain⟨hd,oV⟩:=(h.core.eg 0 a h0).1 rfl
   have turn:∀{sJ:Array Goroutine} {W1:World} {iy:Option (Nat × Nat)} {i:Nat},(∃m' ops,runT X.P (crowd sJ W1 iy) i=(.next m',ops)∧Nt X zs SEL aA Sh K ow kz next done ρ gs.size t m' ops)→stepT X.P (crowd gs W sl)=runT X.P (crowd sJ W1 iy) i→Comes X.P (crowd gs W sl) t (HB X SEL aA Sh K ow kz n):=by
    rintro sJ W1 iy i ⟨m',ops,hr,next',ku,ρ',F7,gs',W',O',eI,rfl,vt,hP,kN⟩ aX;refine .step (aX.trans hr) ?_;rcases kN with⟨rfl,rfl,kN⟩|kN
    ·exact ih ρ' (by rw[←hn];exact kN) F7 gs' W' _ O' eI zo hP
    ·exact F1 _ zo next' ku rfl n ρ' F7 gs' W' _ O' eI zo hP
   have rest:(a.status=.running∧(((∀W1,cv (O 0) X.Z W W1→SEL next done (O 0) a W1)∧(next<X.many∨∃i,i<next∧done i=false)∧∃r',Rk.Sub r' (ρ 0))∨∀W1,cv (O 0) X.Z W W1→∃g' W' es r',stepG X.P true a W1=.go g' W' es∧iW (O 0) X.Z W1 W' es∧Rk.Sub r'.up (ρ 0)∧ji X.P true X.Z (SEL next done) r' (fQ (O 0) W1 W') g' W')) ∨
     (∃g0,a=parked g0 (jy X zs next) .select∧(∀W1,cv (O 0) X.Z W W1→SEL next done (O 0) g0 W1)∧(next<X.many∨∃i,i<next∧done i=false))→Comes X.P (crowd gs W sl) t (HB X SEL aA Sh K ow kz n):=fun hv=>by
    have Cv:∀g∈gs,awake g:=by
     intro g hg;obtain⟨i,hi,rfl⟩:=Array.mem_iff_getElem.1 hg;by_cases dz:i=0
     ·subst dz;have:gs[0]=a:=by simpa[Array.getElem?_eq_getElem hi]using h0
      rw[this];rcases hv with⟨e,_⟩|⟨g0,e,_⟩
      ·exact awake_of (.inl e)
      ·exact awake_of (.inr (.inl (by rw[e];rfl)))
     ·obtain⟨st,hw,_⟩:=(h.core.eg i _ (Array.getElem?_eq_getElem hi)).2 dz;exact hw.awake ok
    have tN:∃(i:Nat) (g:Goroutine),gs[i]?=some g∧g.status=.running:=by
     rcases hv with⟨e,_⟩|⟨g0,rfl,ff,hgo⟩
     ·exact⟨0,a,h0,e⟩
     ·have one:∀j,K j→(next<X.many∨tk j≠none)→∃(i:Nat) (g:Goroutine),gs[i]?=some g∧g.status=.running:=fun j hj hc=>by
       have aQ:=(h.iR j hj).2;have kx:j≠0:=by have:=(h.iR j hj).1;omega
       have hx:gs[j]?=some gs[j]:=Array.getElem?_eq_getElem aQ;obtain⟨st,hw,aX⟩:=(h.core.eg j _ hx).2 kx;rcases aX with⟨_,hn⟩|⟨rfl,_⟩
       ·exact absurd hj hn
       ·have xk:gs[j].status=.blocked→False:=fun hb=>by
         have:=h.ko _ h0 rfl j _ kx hx hb;rcases hc with hc|hc
         ·omega
         ·exact hc this.2
        rcases (hw.nine ok).2 with e | ⟨_,C2,g2,e,_⟩|⟨i2,C2,v2,g2,_,e,_⟩
        ·exact⟨j,_,hx,e⟩
        ·exact(xk (by rw[e];rfl)).elim
        ·exact(xk (by rw[e];rfl)).elim
      rcases hgo with hgo | ⟨i,hi,rS⟩
      ·exact one j0 kx (.inl hgo)
      ·obtain⟨j,hj⟩:=h.pR i hi rS;exact one j (h.qx j i hj).1 (.inr (by rw[hj];simp))
    obtain⟨i,g,d,eI,hi,hg,aX⟩:=crowd_pick (P:=X.P) (w:=W) (sl:=sl) Cv tN;have jZ:=h.at d;by_cases dz:i=0
    ·subst dz;rw[h0]at hi;cases hi;rcases hv with⟨cm,hv⟩|⟨g0,rfl,_⟩
     ·refine turn (jZ.jP ok so pl nu h0 cm ?_) aX;rcases hv with⟨ff,hgo,hr⟩|hv
      ·exact .inl ⟨fun W1 h1=>ff W1 ((si W d).trans h1),hgo,hr⟩
      ·obtain⟨g',W',es,r',e1,e2,e3,e4⟩:=hv (W.at d) (si W d);refine .inr ⟨g',W',es,r',e1,e2,e3,e4,?_⟩;rcases e4.cases with hk | ⟨hr,_⟩
       ·exact f7 _ _ _ _ _ (hk W' (.refl W'))
       ·rw[hr];simp
     ·cases hg
    ·refine turn (jZ.worker ok so pl nu h0 ?_ dz hi hg) aX;rcases hv with⟨cm,_⟩|⟨g0,e,ff,hgo⟩
     ·exact .inl cm
     ·exact .inr ⟨g0,e,fun W1 h1=>ff W1 ((si W d).trans h1),hgo⟩
   generalize hρ:ρ 0=r0 at oV;cases oV with
   | @run r _ _ _ hr =>
    rcases hr.cases with hk | ⟨cm,hk⟩
    ·by_cases hc:next<X.many∨∃i,i<next∧done i=false
     ·obtain⟨r',tI⟩:=r.tX;exact rest (.inl ⟨((so.dv _ _ _ _ _ (hk W (.refl W))).2 hc).1,.inl ⟨hk,hc,r',by rw[hρ];exact tI⟩⟩)
     ·have hle:=(so.dv _ _ _ _ _ (hk W (.refl W))).1
      have j8:next=X.many:=by
       have:¬next<X.many:=fun x=>hc (.inl x)
       omega
      subst j8
      have hall:∀i,i<X.many→done i=true:=fun i hi=>by
       cases rS:done i with
       | true=>rfl
       | false=>exact absurd (.inr ⟨i,hi,rS⟩) hc
      have Dj:∀j,tk j=none:=fun j=>by
       cases hj:tk j with
       | none=>rfl
       | some i =>
        have:=h.qx j i hj;exact absurd (.inr ⟨i,this.2⟩) hc
      refine .done ⟨gs,W,sl,O,a,done,rfl,hn,⟨⟨fun j x hj=>⟨fun e=>((h.core.eg j x hj).1 e).1,fun e=>?_⟩,h.core.above,h.core.tok,h.core.apart⟩,fun _=>⟨pl.ct,pl.wg⟩,fun _=>h.qb,h.iR⟩,h.pj,h.xH,h.zk,h0,hk,hall⟩;obtain⟨st,hw,fT⟩:=(h.core.eg j x hj).2 e;rw[Dj j]at hw;exact⟨_,st,hw,fT⟩
    ·exact rest (.inl ⟨cm,.inr fun W1 h1=>let ⟨g',W',es,r',e1,e2,e3,e4⟩:=hk W1 h1;⟨g',W',es,r',e1,e2,by rw[hρ];exact Rk.up_sub e3,e4⟩⟩)
   | ko ff FC hgo=>exact rest (.inr ⟨_,rfl,ff,hgo⟩)
theorem Yu (ok:X.Ok)(so:gX X zs SEL)(pl:eJ X Sh)(hex:∃j,K j)(f7:∀next done O g W,SEL next done O g W→g.status≠.blocked){gs:Array Goroutine}{W:World}{t:Trace}{O:Nat→Nat→Prop}{sl:Option (Nat × Nat)}{a:Goroutine}
  (hI:Idle X 0 aA Sh K gs W t O) (lR:eC X.cb W) (nu:WgLive X.ty X.Wg W) (h0:gs[0]?=some a) (hw:gk X.P true X.Z (SEL 0 fun _=>false) (O 0) a W):Comes X.P (crowd gs W sl) t (HB X SEL aA Sh K W.heap[X.Wg]? (fun b=>W.heap[b]?) gs.size):=by
 obtain⟨r,hr⟩:=HI hw;obtain⟨ρ,hρ⟩:=PU hI.core
 have JB:a.status≠.blocked:=by
  rcases hr.cases with hk | ⟨e,_⟩
  ·exact f7 _ _ _ _ _ (hk W (.refl W))
  ·rw[e];simp
 refine zts (zs:=zs) ok so pl nu hex f7 _ 0 (fun _=>false) rfl gs.size (upd ρ 0 r.up) (fun _=>none) gs W t O sl rfl ⟨⟨fun j x hj=>⟨fun e=>?_,fun e=>?_⟩,hI.core.above,hI.core.tok,hI.core.apart⟩,hI.chan hex,lR,hI.iR,fun j i h=>(by cases h),fun j j' i h=>(by cases h),fun i h=>(by cases h),fun i h=>by omega,fun a' ha hb=>?_,rfl,fun _ _=>rfl⟩
 ·subst e;rw[h0]at hj;cases hj;rw[upd_same];exact⟨(hρ.eg 0 a h0).1 rfl,.run hr⟩
 ·obtain⟨st,hw,hc⟩:=(hρ.eg j x hj).2 e;exact⟨st,by rw[upd_ne _ _ e];exact hw,hc⟩
 ·rw[h0]at ha;cases ha;exact absurd hb JB
end
open Go.ConcN (upd upd_same upd_ne WgLive PayAt RW AtK1 AtD1 AtD2 AtD3 AtD4 sumTo sumTo_upd le_sumTo)
open Go.ConcR (WgAt stA smA KK Payload DC0 mk rd wr)
section
variable [Payload] (X:dT)
def RL (w w1:World):Prop:=WgLive X.ty X.Wg w→WgLive X.ty X.Wg w1
variable (Anch:Goroutine→World→Prop) (Fin:Goroutine→Prop)
def Va (g:Goroutine)(w:World):Prop:=g.status=.running∧∃g',stepG X.P true g w=.go g' w #[mk (.acquire (stA X.Wg))]∧Fin g'
def H9 (g:Goroutine)(w:World):Prop:=g.status=.running∧∃g',stepG X.P true g w=.go g' w #[mk .enable]∧∃m,Goes X.P true (RL X) DC0 (Va X Fin) m g' w
def S4 (g:Goroutine)(w:World):Prop:=g.status=.running∧(WgAt X.ty X.Wg w 0 0→∃g',stepG X.P true g w=.go g' w #[rd (stA X.Wg)]∧∃m,Goes X.P true (RL X) DC0 (H9 X Fin) m g' w)
def S3 (g:Goroutine)(w:World):Prop:=g.status=.running∧g.offers=none ∧
 ((∃st,WgAt X.ty X.Wg w st 0)→stepG X.P true g w=.go { g with status:=.blocked } w #[]) ∧
 (WgAt X.ty X.Wg w 0 1→∃g',stepG X.P true g w=.go g' (w.setCell (smA X.Wg) (.int .u32 0)) (semEvents (smA X.Wg))∧∃m,Goes X.P true (RL X) DC0 (S4 X Fin) m g' (w.setCell (smA X.Wg) (.int .u32 0)))
def SW (g:Goroutine)(w:World):Prop:=g.status=.running∧∃g',stepG X.P true g w=.go g' w #[mk (.write (smA X.Wg))]∧∃m,Goes X.P true (RL X) DC0 (S3 X Fin) m g' w
def S2 (vs:Nat)(g:Goroutine)(w:World):Prop:=g.status=.running∧∀v:Nat,v<2147483648→WgAt X.ty X.Wg w (v*KK) 0 →
 (v=vs→∃g',stepG X.P true g w=.go g' (w.setCell (stA X.Wg) (.int .u64 (v*KK+1))) #[rd (stA X.Wg),wr (stA X.Wg)]∧∃m,Goes X.P true (RL X) DC0 (SW X Fin) m g' (w.setCell (stA X.Wg) (.int .u64 (v*KK+1)))) ∧
 (v≠vs→∃g',stepG X.P true g w=.go g' w #[rd (stA X.Wg)]∧∃m,Goes X.P true (RL X) DC0 Anch m g' w)
def S1 (g:Goroutine)(w:World):Prop:=g.status=.running∧∀v:Nat,v<2147483648→WgAt X.ty X.Wg w (v*KK) 0→∃g',stepG X.P true g w=.go g' w #[rd (stA X.Wg)] ∧
 (v=0→∃m,Goes X.P true (RL X) DC0 (H9 X Fin) m g' w)∧(v≠0→∃m,Goes X.P true (RL X) DC0 (S2 X Anch Fin v) m g' w)
def Fo (g:Goroutine)(w:World):Prop:=g.status=.running∧∃g',stepG X.P true g w=.go g' w #[mk .disable]∧∃m,Goes X.P true (RL X) DC0 Anch m g' w
inductive Tg where
 | kd|an|w1|w2 (vs:Nat)|sw|w3|bk|w4|ke|aq
def Tg.ph (n v:Nat):Tg→Nat
 | .kd=>8*n+8
 | .an=>8*v+7
 | .w1=>8*v+6
 | .w2 vs=>8*vs+5
 | .sw=>5
 | .w3=>4
 | .bk=>4
 | .w4=>3
 | .ke=>2
 | .aq=>1
def Tg.isOpen:Tg→Prop
 | .kd | .an | .w1 | .w2 _=>True
 | _=>False
def Tg.mE:Tg→Prop
 | .sw | .w3 | .bk=>True
 | _=>False
def Tg.isFin:Tg→Prop
 | .w4 | .ke | .aq=>True
 | _=>False
inductive CT:Tg→Nat→Rk→Goroutine→World→Prop
 | kd {m:Nat} {g:Goroutine} {w:World}:Goes X.P true (RL X) DC0 (Fo X Anch) m g w→CT .kd 0 (.nat m) g w
 | an {m:Nat} {g:Goroutine} {w:World}:Goes X.P true (RL X) DC0 Anch m g w→CT .an 1 (.nat m) g w
 | w1 {m:Nat} {g:Goroutine} {w:World}:Goes X.P true (RL X) DC0 (S1 X Anch Fin) m g w→CT .w1 1 (.nat m) g w
 | w2 {vs m:Nat} {g:Goroutine} {w:World}:Goes X.P true (RL X) DC0 (S2 X Anch Fin vs) m g w→CT (.w2 vs) 1 (.nat m) g w
 | sw {m:Nat} {g:Goroutine} {w:World}:Goes X.P true (RL X) DC0 (SW X Fin) m g w→CT .sw 1 (.nat m) g w
 | w3 {m:Nat} {g:Goroutine} {w:World}:Goes X.P true (RL X) DC0 (S3 X Fin) m g w→CT .w3 1 (.nat (m+1)) g w
 | bk {r:Rk} {g:Goroutine} {w:World}:(∀w1,RL X w w1→S3 X Fin g w1)→CT .bk 1 r { g with status:=.blocked } w
 | w4 {m:Nat} {g:Goroutine} {w:World}:Goes X.P true (RL X) DC0 (S4 X Fin) m g w→CT .w4 1 (.nat m) g w
 | ke {m:Nat} {g:Goroutine} {w:World}:Goes X.P true (RL X) DC0 (H9 X Fin) m g w→CT .ke 1 (.nat m) g w
 | aq {m:Nat} {g:Goroutine} {w:World}:Goes X.P true (RL X) DC0 (Va X Fin) m g w→CT .aq 0 (.nat m) g w
end
def Vc (N:Nat)(S:Nat→Nat):Nat:=sumTo N fun i=>if 5≤S i then 1 else 0
def jD (N:Nat)(S:Nat→Nat):Prop:=∀i,i<N→S i=9∨S i=7∨S i=6∨S i=5∨S i=1
def BO (N:Nat)(S:Nat→Nat):Prop:=∀i,i<N→S i=1
inductive Md (N:Nat) (S:Nat→Nat):Tg→Int→Int→Prop
 | opn {tag:Tg}:tag.isOpen→jD N S→(∀vs,tag=.w2 vs→Vc N S≤vs∧1≤vs)→Md N S tag ((Vc N S:Nat)*KK) 0
 | reg {tag:Tg}:tag.mE→jD N S→1≤Vc N S→Md N S tag ((Vc N S:Nat)*KK+1) 0
 | last {tag:Tg} (L:Nat):tag.mE→L<N→(S L=4∨S L=3∨S L=2)→(∀i,i<N→i≠L→S i=1)→Md N S tag (if S L=2 then 0 else 1) 0
 | sema {tag:Tg}:tag.mE→tag≠.bk→BO N S→Md N S tag 0 1
 | fin {tag:Tg}:tag.isFin→BO N S→Md N S tag 0 0
section
variable {i:Nat}  {tag tag':Tg}
theorem MV (hi:i<N)(x:Nat):Vc N (upd S i x)+(if 5≤S i then 1 else 0)=Vc N S+(if 5≤x then 1 else 0):=sumTo_upd S x (fun a=>if 5≤a then 1 else 0) hi
theorem zw0 (hi:i<N)(x:Nat):sumTo N (upd S i x)+S i=sumTo N S+x:=sumTo_upd S x (fun a=>a) hi
theorem zzi (N:Nat)(S:Nat→Nat):Vc N S≤N:=by
 have:=Go.ConcN.sumTo_le (f:=fun i=>if 5≤S i then 1 else 0) (c:=1) (j:=N) fun i _=>by split<;>omega
 unfold Vc;omega
theorem ES (hi:i<N)(h:5≤S i):1≤Vc N S:=by
 have:=le_sumTo (f:=fun i=>if 5≤S i then 1 else 0) hi;simp only[h,if_true]at this;exact this
theorem Rg (h:jD N S)(h0:Vc N S=0):BO N S:=fun i hi=>by
 rcases h i hi with e|e|e|e|e
 ·have:=ES (S:=S) hi zo;omega
 ·have:=ES (S:=S) hi zo;omega
 ·have:=ES (S:=S) hi zo;omega
 ·have:=ES (S:=S) hi zo;omega
 ·exact e
theorem jD.upd (h:jD N S){x:Nat}(hx:x=9∨x=7∨x=6∨x=5∨x=1):jD N (upd S i x):=fun k hk=>by
 by_cases e:k=i
 ·subst e;rw[upd_same];exact hx
 ·rw[upd_ne _ _ e];exact h k hk
theorem zwz (n:Nat){v v':Nat}(h:v'≤v)(tag:Tg):tag.ph n v'≤tag.ph n v:=by cases tag<;>simp only[Tg.ph]<;>omega
theorem Md.gS (h:Md N S .bk st sm):Md N S .w3 st sm:=by
 generalize hb:Tg.bk=tag at h;cases h with
 | opn h=>subst hb;exact h.elim
 | reg _ h2 h3=>exact .reg trivial h2 h3
 | last L _ h2 h3 h4=>exact .last L trivial h2 h3 h4
 | sema _ h _=>exact absurd hb.symm h
 | fin h=>subst hb;exact h.elim
theorem Md.counted (h:Md N S tag st sm)(hi:i<N)(h5:5≤S i){x:Nat}(hx:x=7∨x=6∨x=5):Md N (upd S i x) tag st sm:=by
 have hv:=MV (S:=S) hi x;rw[if_pos h5,if_pos zo]at hv;have hv:Vc N (upd S i x)=Vc N S:=by omega
 cases h with
 | opn h1 h2 h3=>rw[←hv];exact .opn h1 (h2.upd zo) (by rw[hv];exact h3)
 | reg h1 h2 h3=>rw[←hv];exact .reg h1 (h2.upd zo) zo
 | last L h1 h2 h3 h4 =>
  exfalso;by_cases e:i=L
  ·subst e;omega
  ·have:=h4 i hi e;omega
 | sema _ _ h=>have:=h i hi;omega
 | fin _ h=>have:=h i hi;omega
theorem Md.seen (h:Md N S tag st sm)(hi:i<N)(h5:5≤S i):jD N S∧sm=0∧1≤Vc N S∧((tag.isOpen∧st=(Vc N S:Nat)*KK∧∀vs,tag=.w2 vs→Vc N S≤vs∧1≤vs)∨(tag.mE∧st=(Vc N S:Nat)*KK+1)):=by
 have hp:=ES (S:=S) hi h5;cases h with
 | opn h1 h2 h3=>exact⟨h2,rfl,hp,.inl ⟨h1,rfl,h3⟩⟩
 | reg h1 h2 h3=>exact⟨h2,rfl,hp,.inr ⟨h1,rfl⟩⟩
 | last L h1 h2 h3 h4 =>
  exfalso;by_cases e:i=L
  ·subst e;omega
  ·have:=h4 i hi e;omega
 | sema _ _ h=>have:=h i hi;omega
 | fin _ h=>have:=h i hi;omega
theorem Md.pP (h:Md N S tag st sm)(hi:i<N)(h4:S i=4∨S i=3∨S i=2):tag.mE∧sm=0∧st=(if S i=2 then 0 else 1)∧∀k,k<N→k≠i→S k=1:=by
 cases h with
 | opn h1 h2 h3=>have:=h2 i hi;omega
 | reg h1 h2 h3=>have:=h2 i hi;omega
 | last L h1 h2 h3 h5 =>
  by_cases e:i=L
  ·subst e;exact⟨h1,rfl,rfl,h5⟩
  ·have:=h5 i hi e;omega
 | sema _ _ h=>have:=h i hi;omega
 | fin _ h=>have:=h i hi;omega
end
section
variable [Payload] {X:dT}{Anch:Goroutine→World→Prop}{Fin:Goroutine→Prop}{tag:Tg}{d:Nat}{r:Rk}{g g' a:Goroutine}{W W':World}
omit [Payload] in
theorem r7 (a b c:World)(h:RL X a b)(k:RL X b c):RL X a c:=k ∘ h
omit [Payload] in
theorem jB (w:World):RL X w w:=id
theorem CT.run (hA:∀g w,Anch g w→g.status=.running)(h:CT X Anch Fin tag d r g W)(ht:tag≠.bk):g.status=.running:=by
 cases h with
 | kd h=>exact Goes.running (fun _ _ h=>h.1) W (jB W) h
 | an h=>exact Goes.running hA W (jB W) h
 | w1 h=>exact Goes.running (fun _ _ h=>h.1) W (jB W) h
 | w2 h=>exact Goes.running (fun _ _ h=>h.1) W (jB W) h
 | sw h=>exact Goes.running (fun _ _ h=>h.1) W (jB W) h
 | w3 h=>exact Goes.running (fun _ _ h=>h.1) W (jB W) h
 | bk h=>exact absurd rfl ht
 | w4 h=>exact Goes.running (fun _ _ h=>h.1) W (jB W) h
 | ke h=>exact Goes.running (fun _ _ h=>h.1) W (jB W) h
 | aq h=>exact Goes.running (fun _ _ h=>h.1) W (jB W) h
theorem CT.rely (h:CT X Anch Fin tag d r g W)(hr:RL X W W'):CT X Anch Fin tag d r g W':=by
 cases h with
 | kd h=>exact .kd (Goes.rely r7 h hr)
 | an h=>exact .an (Goes.rely r7 h hr)
 | w1 h=>exact .w1 (Goes.rely r7 h hr)
 | w2 h=>exact .w2 (Goes.rely r7 h hr)
 | sw h=>exact .sw (Goes.rely r7 h hr)
 | w3 h=>exact .w3 (Goes.rely r7 h hr)
 | bk h=>exact .bk fun w2 h2=>h w2 (r7 _ _ _ hr h2)
 | w4 h=>exact .w4 (Goes.rely r7 h hr)
 | ke h=>exact .ke (Goes.rely r7 h hr)
 | aq h=>exact .aq (Goes.rely r7 h hr)
theorem CT.status (hA:∀g w,Anch g w→g.status=.running)(h:CT X Anch Fin tag d r g W):g.status=.running∨(tag=.bk∧g.status=.blocked∧g.offers=none):=by
 by_cases ht:tag=.bk
 ·subst ht;generalize dU:Tg.bk=tag at h;cases h with
  | bk h=>exact .inr ⟨rfl,rfl,(h W (jB W)).2.1⟩
  | _=>cases dU
 ·exact .inl (h.run hA ht)
theorem CT.other (hA:∀g w,Anch g w→g.status=.running)(h:CT X Anch Fin tag d r g W)(hr:RL X W W')(a a':Goroutine):∃tag' r',CT X Anch Fin tag' d r' (Go.Conc.woken X.P a a' W' g) W'∧(tag'=tag∨(tag=.bk∧tag'=.w3))∧(mayWake X.P a=true→a'.status≠.blocked→a'.status≠.waiting→tag'≠.bk):=by
 by_cases ht:tag=.bk
 ·subst ht;generalize dU:Tg.bk=tag at h;cases h with
  | @bk r g0 w h =>
   unfold Go.Conc.woken;split
   ·rename_i hc;have ho:g0.offers=none:=(h W (jB W)).2.1
    have e:({ g0 with status:=.blocked }:Goroutine).again W'=g0:=by
     have:=(h W (jB W)).1;simp[Goroutine.again,ho];rw[←this,←ho]
    rw[e];exact⟨.w3,.nat 1,.w3 (m:=0) fun w1 h1=>h w1 (r7 _ _ _ hr h1),.inr ⟨rfl,rfl⟩,fun _ _ _=>by simp⟩
   ·rename_i hc;refine⟨.bk,r,.bk fun w2 h2=>h w2 (r7 _ _ _ hr h2),.inl rfl,fun h1 h2 h3=>absurd ?_ hc⟩;simp[h1,h2,h3]
  | _=>cases dU
 ·have cm:=h.run hA ht;rw[woken_run cm];exact⟨tag,r,h.rely hr,.inl rfl,fun _ _ _=>ht⟩
end
section
variable [Payload] (X:dT) (Anch:Goroutine→World→Prop) (Fin:Goroutine→Prop)
def AY (tag:Tg)(S:Nat→Nat)(ρ:Nat→Rk)(r0:Rk)(j d:Nat)(Oj:Nat→Prop)(x:Goroutine)(W:World):Prop:=(j=0→CT X Anch Fin tag d r0 x W)∧(j≠0→WS X (S j) none (ρ j) d Oj x W)
structure Wt (aA:Loc→Prop)(Sh K:Nat→Prop)(W0:World)(tag:Tg)(S:Nat→Nat)(ρ:Nat→Rk)(r0:Rk)(gs:Array Goroutine)(W:World)(t:Trace)(O:Nat→Nat→Prop):Prop where
 core:Core aA Sh X.Z K (AY X Anch Fin tag S ρ r0) gs W t O
 iR:∀j,K j→0<j∧j<gs.size
 shut:∃m m' tm,W.heap[X.ct]?=some (.chan 0 #[] true m m' tm)
 md:∃st sm,WgAt X.ty X.Wg W st sm∧Md gs.size S tag st sm
 gone:∀j,K j→S j≤6→∃r,gH (stA X.Wg) t j r
 other:∀j,¬K j→S j=1
 nb:∀j x,j≠0→gs[j]?=some x→x.status≠.blocked
 ot:cv (O 0) X.Z W0 W
def rJ (n:Nat)(tag:Tg)(S:Nat→Nat):Nat:=tag.ph n (Vc n S)+sumTo n S
def xZ (aA:Loc→Prop)(Sh K:Nat→Prop)(W0:World)(tag:Tg)(S:Nat→Nat)(ρ:Nat→Rk)(r0:Rk)(n:Nat)(t:Trace)(O:Nat→Nat→Prop)(m':Machine)(ops:Trace):Prop :=
 ∃tag' S' ρ' r0' gs' W' eI O',m'=crowd gs' W' eI∧gs'.size=n∧O' 0=O 0∧Wt X Anch Fin aA Sh K W0 tag' S' ρ' r0' gs' W' (t++ops) O'∧(rJ n tag' S'<rJ n tag S∨(rJ n tag' S'=rJ n tag S∧(Dec n ρ' ρ∨(ρ'=ρ∧Rk.Sub r0' r0))))
end
section
variable [Payload] {X:dT}{Anch:Goroutine→World→Prop}{Fin:Goroutine→Prop}{aA:Loc→Prop}{Sh K:Nat→Prop}{W0:World}{tag:Tg}{S:Nat→Nat}{ρ:Nat→Rk}{r0:Rk}{gs:Array Goroutine}{W W':World}{t:Trace}{O:Nat→Nat→Prop}
 {sl:Option (Nat × Nat)} {i x:Nat} {g g':Goroutine} {es:Array Event} {r':Rk}
theorem Wt.at (h:Wt X Anch Fin aA Sh K W0 tag S ρ r0 gs W t O)(d:Nat):Wt X Anch Fin aA Sh K W0 tag S ρ r0 gs (W.at d) t O :=
 ⟨h.core.at d fun _ _ _ hs=>⟨fun e=>(hs.1 e).rely fun x=>x,fun e=>(hs.2 e).rely fun _=>.at W d⟩,h.iR,h.shut,h.md,h.gone,h.other,h.nb,h.ot.trans (si W d)⟩
theorem zwA {tag tag':Tg}(n v:Nat)(h:tag'=tag∨(tag=.bk∧tag'=.w3)):tag'.ph n v=tag.ph n v:=by
 rcases h with rfl | ⟨rfl,rfl⟩<;>rfl
theorem SP {n:Nat}{tag tag':Tg}(hi:i<n)(h:tag'=tag∨(tag=.bk∧tag'=.w3))(hx:x<S i∨(x=S i∧Rk.Sub r' (ρ i))):rJ n tag' (upd S i x)<rJ n tag S∨(rJ n tag' (upd S i x)=rJ n tag S∧Dec n (upd ρ i r') ρ):=by
 have h1:=zw0 (S:=S) hi x;have h2:=MV (S:=S) hi x;unfold rJ;rw[zwA n _ h];rcases hx with hx | ⟨rfl,hs⟩
 ·have hv:Vc n (upd S i x)≤Vc n S:=by
   split at h2<;>split at h2<;>omega
  have:=zwz n hv tag;exact .inl zo
 ·have e:upd S i (S i)=S:=vS S i;rw[e];exact .inr ⟨rfl,.of hi hs⟩
theorem Wt.iK (ok:X.Ok)(h:Wt X Anch Fin aA Sh K W0 tag S ρ r0 gs W t O){j:Nat}{y:Goroutine}(hj:j≠0)(hy:gs[j]?=some y)(a a':Goroutine)(w:World):Go.Conc.woken X.P a a' w y=y:=by
 refine rq (again_running _ ?_);rcases ((h.core.eg j y hy).2 hj).status ok with e|e | ⟨g0,cs,sh,e,_⟩
 ·exact .inl e
 ·exact .inr e
 ·exact absurd (by rw[e];rfl) (h.nb j y hj hy)
theorem Wt.work (ok:X.Ok)(hA:∀g w,Anch g w→g.status=.running)(h:Wt X Anch Fin aA Sh K W0 tag S ρ r0 gs W t O)(dz:i≠0)(hi:gs[i]?=some g)(aX:stepG X.P false g W=.go g' W' es)(hg:(K i∧gr Sh X.Z (O i) (O i) i W W' es)∨(W'=W∧∀e∈es,e.mute=true))
  (Dx:W'.heap[X.ct]?=W.heap[X.ct]?) (z4:WS X x none r' (deafBehind (Deaf t i) es) (O i) g' W') (gx:∃st sm,WgAt X.ty X.Wg W' st sm∧∀tag',(tag'=tag∨(tag=.bk∧tag'=.w3))→(mayWake X.P g=true→g'.status≠.blocked→g'.status≠.waiting→tag'≠.bk)→Md gs.size (upd S i x) tag' st sm)
  (lA:K i→x≤6→∃r,gH (stA X.Wg) (t++MemOp.ofEvents i g.frame.fn g.frame.place es) i r) (l9:¬K i→x=1) (f7:g'.status≠.blocked) (hx:x<S i∨(x=S i∧Rk.Sub r' (ρ i))) :
  ∃m' ops,runT X.P (crowd gs W sl) i=(.next m',ops)∧xZ X Anch Fin aA Sh K W0 tag S ρ r0 gs.size t O m' ops:=by
 have lB:(i == 0)=false:=by simpa using dz
 have aQ:i<gs.size:=(Array.getElem?_eq_some_iff.1 hi).1;have dZ:0<gs.size:=by omega
 obtain⟨a,h0⟩:∃a,gs[0]?=some a:=⟨gs[0],Array.getElem?_eq_getElem dZ⟩;obtain⟨st,sm,xu,j7⟩:=gx;have ky:WgLive X.ty X.Wg W→WgLive X.ty X.Wg W':=fun _=>⟨st,sm,xu⟩
 obtain⟨tag',r0',mB,DG,DK⟩:=((h.core.eg 0 a h0).1 rfl).other hA (W':=W') ky g g'
 have q7:∀j,j≠i→cv (O j) X.Z W W':=fun j hj=>by
  rcases hg with⟨_,hf⟩|⟨rfl,_⟩
  ·exact hf.rely h.core.apart hj
  ·exact .refl _
 have others:∀j y,j≠i→gs[j]?=some y→AY X Anch Fin tag S ρ r0 j (Deaf t j) (O j) y W→AY X Anch Fin tag' (upd S i x) (upd ρ i r') r0' j (Deaf t j) (O j) (Go.Conc.woken X.P g g' W' y) W':=fun j y hj hy hs=>by
  refine⟨fun e=>?_,fun e=>?_⟩
  ·subst e;rw[h0]at hy;cases hy;exact mB
  ·rw[h.iK ok e hy,upd_ne _ _ hj,upd_ne _ _ hj];exact(hs.2 e).rely fun _=>⟨q7 j hj,ky⟩
 have mine:AY X Anch Fin tag' (upd S i x) (upd ρ i r') r0' i (deafBehind (Deaf t i) es) (O i) g' W':=⟨fun e=>absurd e dz,fun _=>by rw[upd_same,upd_same];exact z4⟩
 have gM:Core aA Sh X.Z K (AY X Anch Fin tag' (upd S i x) (upd ρ i r') r0') ((gs.map (Go.Conc.woken X.P g g' W')).setIfInBounds i g') W' (t++MemOp.ofEvents i g.frame.fn g.frame.place es) O:=by
  rcases hg with⟨hk,hf⟩|⟨rfl,hm⟩
  ·have:=h.core.own (Sit':=AY X Anch Fin tag' (upd S i x) (upd ρ i r') r0') hi (.inr hk) hf (fun j y hj hy hs _=>others j y hj hy hs) mine g.frame.fn g.frame.place
   rwa [vS]at this
  ·exact h.core.slip hi hm others mine _ _
 refine⟨_,_,runT_crowd_go (P:=X.P) (sl:=sl) (i:=i) hi (by rw[lB];exact aX),tag',upd S i x,upd ρ i r',r0',_,W',sl,O,rfl,by simp,rfl,⟨gM,fun j hj=>by simpa using h.iR j hj,by rw[Dx];exact h.shut,⟨st,sm,xu,by simpa using j7 tag' DG DK⟩,fun j hj hs=>?_,fun j hj=>?_,fun j y hj hy=>?_,h.ot.trans (q7 0 (Ne.symm dz))⟩,(SP aQ DG hx).imp id fun e=>⟨e.1,.inl e.2⟩⟩
 ·by_cases e:j=i
  ·subst e;rw[upd_same]at hs;exact lA hj hs
  ·rw[upd_ne _ _ e]at hs;obtain⟨r,hr⟩:=h.gone j hj hs;exact⟨r,hr.other fun op cN=>by obtain⟨e',_,rfl⟩:=Go.Conc.mem_ofEvents cN;exact Ne.symm e⟩
 ·by_cases e:j=i
  ·subst e;rw[upd_same];exact l9 hj
  ·rw[upd_ne _ _ e];exact h.other j hj
 ·by_cases e:i=j
  ·subst e;rw[Array.getElem?_setIfInBounds_self_of_lt (by simpa using aQ)]at hy;cases hy;exact f7
  ·rw[Array.getElem?_setIfInBounds_ne e,Array.getElem?_map]at hy;obtain⟨z,hz,rfl⟩:=Option.map_eq_some_iff.1 hy;rw[h.iK ok hj hz];exact h.nb j z hj hz
def uc (Wg:Nat)(e:Event):Prop:=(∃a w,e=⟨.cell a,w,true⟩∧a.block=Wg)∨∃m,e.loc=.mark m∧(MemAct.ofEvent e).touch?=none∧∀a,m≠.release a
omit [Payload] in
theorem uL {j:Nat}{Oj:Nat→Prop}(hO:∀b,Oj b→b<W.heap.size)(hW:Sh X.Wg)(ha:Aside X.Wg W W')(h:∀e∈es,uc X.Wg e):gr Sh X.Z Oj Oj j W W' es:=by
 refine⟨ha.os,ha.tape,ha.output,by rw[ha.size];exact Nat.le_refl _,fun b _ _ hb=>ha.block b fun e=>hb (e ▸ hW),fun b hb=>⟨.inl hb,by rw[ha.size];exact hO b hb⟩,fun e he=>?_⟩;rcases h e he with⟨a,w,rfl,hb⟩|⟨m,hm,ht,hr⟩
 ·refine⟨fun b dk=>?_,by simp[MemAct.ofEvent]⟩;simp only[MemAct.ofEvent,MemAct.touch?,Option.some.injEq]at dk;subst dk;exact⟨X.Wg,hb,.inr (.inr ⟨hW,by simp,by simp⟩)⟩
 ·refine⟨fun b dk=>(by rw[ht]at dk;cases dk),fun a e'=>?_⟩;obtain⟨loc,w,s⟩:=e;simp only at hm;subst hm;simp only[MemAct.ofEvent,MemAct.mark.injEq]at e';exact hr a e'
omit [Payload] in
theorem rr (a:Addr)(w:Bool)(h:a.block=X.Wg):uc X.Wg ⟨.cell a,w,true⟩:=.inl ⟨a,w,rfl,h⟩
omit [Payload] in
theorem AB (m:Mark)(h:(MemAct.mark m).touch?=none)(hr:∀a,m≠.release a):uc X.Wg (mk m):=.inr ⟨m,rfl,h,hr⟩
theorem gH.mQ {a:Addr}{k r:Nat}(h:gH a t k r)(hd:Deaf t k=d)(fn:FuncId)(pos:String)(pB:∀e∈es,uc a.block e)(CO:∀j e,es[j]?=some e→(MemAct.ofEvent e).touch?≠none→deafBehind d (es.extract 0 j)≠0):gH a (t++MemOp.ofEvents k fn pos es) k r:=by
 refine h.app fun i op ho hi hk x hx=>?_
 obtain⟨j,rfl⟩:∃j,i=t.size+j:=⟨i-t.size,by omega⟩;have iQ:(MemOp.ofEvents k fn pos es)[j]?=some op:=by rw[Array.getElem?_append_right zo]at ho;simpa using ho
 rw[ofEvents_eq,Array.getElem?_map]at iQ;obtain⟨e,he,rfl⟩:=Option.map_eq_some_iff.1 iQ;have Wn:e∈es:=Array.mem_of_getElem? he;have WA:j<es.size:=(Array.getElem?_eq_some_iff.1 he).1;rcases pB e Wn with⟨b,w,rfl,hb⟩|⟨m,_,ht,_⟩
 ·simp only[MemAct.ofEvent,MemAct.touch?,Option.some.injEq]at hx;subst hx;refine⟨hb,rfl,?_⟩;rintro⟨g',ni,hh⟩
  have:g'=k:=by
   unfold Trace.g? at ni;rw[ho]at ni;exact(Option.some.inj ni).symm
  subst this;rw[deaf_inside t g' fn pos es j zo,hd]at hh;exact CO j _ he (by simp[MemAct.ofEvent,MemAct.touch?]) hh
 ·exact absurd hx (by rw[ht];simp)
end
section
variable [Payload] {X:dT}{Anch:Goroutine→World→Prop}{Fin:Goroutine→Prop}{aA:Loc→Prop}{Sh K:Nat→Prop}{W0:World}{tag:Tg}{S:Nat→Nat}{ρ:Nat→Rk}{r0:Rk}{gs:Array Goroutine}{W W':World}{t:Trace}{O:Nat→Nat→Prop}
 {sl:Option (Nat × Nat)} {i x:Nat} {g g':Goroutine} {es:Array Event} {r':Rk}
theorem Md.same {tag':Tg}(h:Md N S tag st sm)(hx:S i=x)(ht:tag'=tag∨(tag=.bk∧tag'=.w3)):Md N (upd S i x) tag' st sm:=by
 subst hx;rw[vS];rcases ht with rfl | ⟨rfl,rfl⟩
 ·exact h
 ·exact h.gS
theorem Wt.idle (ok:X.Ok)(hA:∀g w,Anch g w→g.status=.running)(h:Wt X Anch Fin aA Sh K W0 tag S ρ r0 gs W t O)(dz:i≠0)(hi:gs[i]?=some g)(aX:stepG X.P false g W=.go g' W es)(hg:(K i∧∀e∈es,iU (O i) X.Z e)∨∀e∈es,e.mute=true)
  (hx:S i=x) (z4:WS X x none r' (deafBehind (Deaf t i) es) (O i) g' W) (lA:K i→x≤6→es = #[]∨∀e∈es,e.mute=true) (f7:g'.status≠.blocked) (eT:Rk.Sub r' (ρ i)) :
  ∃m' ops,runT X.P (crowd gs W sl) i=(.next m',ops)∧xZ X Anch Fin aA Sh K W0 tag S ρ r0 gs.size t O m' ops:=by
 obtain⟨st,sm,gx,j7⟩:=h.md;refine h.work (x:=x) (r':=r') ok hA dz hi aX (hg.imp (fun x=>⟨x.1,.still (fun b hb=>h.core.apart.lo i b hb) x.2⟩) fun x=>⟨rfl,x⟩) rfl z4 ⟨st,sm,gx,fun tag' ht _=>j7.same hx ht⟩ (fun hk h6=>?_) (fun hk=>hx.symm.trans (h.other i hk)) f7 (.inr ⟨hx.symm,eT⟩);obtain⟨r,hr⟩:=h.gone i hk zo;refine⟨r,hr.mute fun op cN=>?_⟩;obtain⟨e,he,rfl⟩:=Go.Conc.mem_ofEvents cN;rcases lA hk h6 with rfl|hm
 ·simp at he
 ·exact touch_mute (hm e he)
theorem Wt.worker (ok:X.Ok)(hA:∀g w,Anch g w→g.status=.running)(eX:Sh X.Wg∧X.ct≠X.Wg)(fi:∀S,(∀j,¬K j→S j=1)→Vc gs.size S<2147483647)(h:Wt X Anch Fin aA Sh K W0 tag S ρ r0 gs W t O)(dz:i≠0)(hi:gs[i]?=some g)(cm:g.status=.running) :
  ∃m' ops,runT X.P (crowd gs W sl) i=(.next m',ops)∧xZ X Anch Fin aA Sh K W0 tag S ρ r0 gs.size t O m' ops:=by
 have lB:(i == 0)=false:=by simpa using dz
 have aQ:i<gs.size:=(Array.getElem?_eq_some_iff.1 hi).1;have ap:=h.core.apart;have jo:∀b,O i b→b<W.heap.size:=fun b hb=>ap.lo i b hb
 obtain⟨st,sm,gx,j7⟩:=h.md;have hK:S i≠1→K i:=fun hn=>Classical.byContradiction fun hk=>hn (h.other i hk)
 have hw:=(h.core.eg i g hi).2 dz;have jO:∀a v,a.block=X.Wg→(W.setCell a v).heap[X.ct]?=W.heap[X.ct]?:=fun a v ha=>(aside_setCell W a v).block X.ct (by rw[ha];exact eX.2)
 have q9:∀e∈#[rd (stA X.Wg),wr (stA X.Wg)],uc X.Wg e:=by
  intro e he;simp at he;rcases he with rfl|rfl
  ·exact rr _ _ rfl
  ·exact rr _ _ rfl
 have two:∀{j:Nat} {e:Event},#[rd (stA X.Wg),wr (stA X.Wg)][j]?=some e→deafBehind 1 (#[rd (stA X.Wg),wr (stA X.Wg)].extract 0 j)≠0:=fun {j e} he=>by
  have hj:j<2:=(Array.getElem?_eq_some_iff.1 he).1;have:j=0∨j=1:=by omega
  rcases this with rfl|rfl<;>simp[deafBehind,rd]
 by_cases sK:S i=1∨S i=9
 ·rcases hw.next ok sK cm with⟨g',es,r',e,eT,f8,f7,h1,h9⟩|⟨h9,hd,C,g0,r',um,fY,uk,eT⟩
  ·refine h.idle ok hA dz hi e ?_ rfl f8 (fun _ h6=>?_) f7 eT
   ·rcases sK with sK|sK
    ·exact .inr (h1 sK)
    ·exact .inl ⟨hK zo,h9 sK⟩
   ·rcases sK with sK|sK
    ·exact .inr (h1 sK)
    ·omega
  ·obtain⟨m,m',tm,hsh⟩:=h.shut;have hk:K i:=hK zo
   have hp:partners (gs.setIfInBounds i ph) X.ct true=[]:=partners_nil fun j gj hj=>by
    rcases getElem?_stand gs i j gj hj with⟨_,rfl⟩|⟨eQ,hj⟩
    ·rfl
    ·by_cases kx:j=0
     ·subst kx;rcases ((h.core.eg 0 gj hj).1 rfl).status hA with e | ⟨_,e1,e2⟩
      ·exact offersAt_of_not_blocked (by rw[e];simp) _ _
      ·unfold offersAt;rw[e1,e2]
     ·exact offersAt_of_not_blocked (h.nb j gj kx hj) _ _
   have hr:=crowd_recv_closed (P:=X.P) (sl:=sl) hi (by rw[lB];exact fY W) hsh hp;refine⟨_,_,hr,?_⟩;obtain⟨n,hgo⟩:=(ok.ar C g0 W (uk W (.refl W))).2.2.2
   have hu:∀op∈MemOp.ofEvents i g.frame.fn g.frame.place #[]++#[({ g:=i,fn:=g0.frame.fn,pos:=g0.frame.place,act:=.recvClosed X.ct }:MemOp)],op.g=i∧op.act.touch?=none∧(∀a,op.act≠.mark (.release a))∧op.act≠.mark .disable∧op.act≠.mark .enable:=by
    intro op cN;rw[vP]at cN;simp at cN;subst cN;exact⟨rfl,rfl,by simp,by simp,by simp⟩
   have hD:∀j,Deaf (t++(MemOp.ofEvents i g.frame.fn g.frame.place #[]++#[({ g:=i,fn:=g0.frame.fn,pos:=g0.frame.place,act:=.recvClosed X.ct }:MemOp)])) j=Deaf t j:=fun j=>Ha (fun op cN=>(hu op cN).2.2.2) j
   have Jn:∀j y,j≠i→(gs.setIfInBounds i (g0.finishComm X.P #[rcase X.ct X.zt] (.recv true) 0 X.zt false))[j]?=some y→gs[j]?=some y:=fun j y hj hy=>by rwa [Array.getElem?_setIfInBounds_ne (Ne.symm hj)]at hy
   have og:(gs.setIfInBounds i (g0.finishComm X.P #[rcase X.ct X.zt] (.recv true) 0 X.zt false))[i]?=some (g0.finishComm X.P #[rcase X.ct X.zt] (.recv true) 0 X.zt false):=Array.getElem?_setIfInBounds_self_of_lt aQ;have z4:WS X 7 none (.nat n) 0 (O i) (g0.finishComm X.P #[rcase X.ct X.zt] (.recv true) 0 X.zt false) W:=.l4 hgo um;refine⟨tag,upd S i 7,upd ρ i (.nat n),r0,_,W,sl,O,rfl,by simp,rfl,⟨⟨fun j y hy=>?_,fun j hj=>(hD j).trans (h.core.above j (by simpa using hj)),?_,ap⟩,fun j hj=>by simpa using h.iR j hj,h.shut,⟨st,sm,gx,by simpa using j7.counted aQ zo (.inl rfl)⟩,fun j hj h6=>?_,fun j hj=>?_,fun j y hj hy=>?_,h.ot⟩,(SP (r':=.nat n) aQ (.inl rfl) (.inl zo)).imp id fun e=>⟨e.1,.inl e.2⟩⟩
   ·rw[hD];by_cases e:j=i
    ·subst e;rw[og]at hy;cases hy;refine⟨fun e=>absurd e dz,fun _=>?_⟩;rw[upd_same,upd_same,hd];exact z4
    ·refine⟨(h.core.eg j y (Jn j y e hy)).1,fun e0=>?_⟩;rw[upd_ne _ _ e,upd_ne _ _ e];exact(h.core.eg j y (Jn j y e hy)).2 e0
   ·exact h.core.tok.move (fun op cN=>⟨(hu op cN).2.1,(hu op cN).2.2.1⟩) (fun g b hb=>⟨g,hb,fun i hk=>hk.app _⟩) (fun g hg=>.inr (.inl hg)) fun g hg=>hg
   ·by_cases e:j=i
    ·subst e;rw[upd_same]at h6;omega
    ·rw[upd_ne _ _ e]at h6;obtain⟨r,hr⟩:=h.gone j hj h6;exact⟨r,hr.other fun op cN=>by rw[(hu op cN).1];exact Ne.symm e⟩
   ·by_cases e:j=i
    ·subst e;exact absurd hk hj
    ·rw[upd_ne _ _ e];exact h.other j hj
   ·by_cases e:j=i
    ·subst e;rw[og]at hy;cases hy;simp[Goroutine.finishComm]
    ·exact h.nb j y hj (Jn j y e hy)
 ·have hk:K i:=hK fun e=>sK (.inl e)
  generalize hs:S i=s at hw;generalize hr:ρ i=r at hw;generalize hd:Deaf t i=d at hw;generalize gv:(none:Option Nat)=tk at hw;cases hw with
  | quit hq=>omega
  | recv hq hC=>omega
  | iH hq hC=>omega
  | gS hq hC=>omega
  | task hq hC=>cases gv
  | iI hq hs hC=>cases gv
  | @l4 n C _ _ _ hq hC =>
   rcases hq.cases with cL | ⟨n',rfl,aw⟩
   ·obtain⟨_,g',cf,m,hgo⟩:=cL W (Go.ConcN.RW.refl W);refine h.work (x:=6) (r':=.nat m) ok hA dz hi cf (.inl ⟨hk,uL jo eX.1 ⟨rfl,rfl,rfl,rfl,fun _ _=>rfl⟩ (by intro e he;simp at he;subst he;exact AB _ rfl zi)⟩) rfl ?_ ⟨st,sm,gx,fun tag' ht _=>?_⟩ (fun _ _=>⟨t.size,by rw[ofEvents_eq];simp only[List.map_toArray,List.map_cons,List.map_nil];exact gH.new (a:=stA X.Wg) g.frame.fn g.frame.place hd⟩) (fun e=>absurd hk e) (by rw[Goes.running (fun _ _ h=>h.1) W (Go.ConcN.RW.refl W) hgo];simp) (.inl zo)
    ·rw[hd];exact .k1 hgo hC
    ·have:=j7.counted aQ zo (x:=6) zo;rcases ht with rfl | ⟨rfl,rfl⟩
     ·exact this
     ·exact this.gS
   ·obtain⟨g',w',es,cf,⟨rfl,pB⟩,hgo⟩:=aw W (Go.ConcN.RW.refl W);have CQ:∀e∈es,iU (O i) X.Z e:=fun e he=>(pB e he).mono fun b hb=>hC b hb
    exact h.idle ok hA dz hi cf (.inl ⟨hk,CQ⟩) hs (by rw[vO CQ,hd];exact .l4 hgo hC) (fun _ e=>by omega) (by rw[Goes.running (fun _ _ h=>h.1) _ (Go.ConcN.RW.refl _) hgo];simp) (by rw[hr];exact Rk.ew n')
  | @k1 n C _ _ _ hq hC =>
   rcases hq.cases with cL | ⟨n',rfl,aw⟩
   ·obtain⟨_,g',cf,m,hgo⟩:=cL W (Go.ConcN.RW.refl W);refine h.work (x:=5) (r':=.nat m) ok hA dz hi cf (.inl ⟨hk,uL jo eX.1 ⟨rfl,rfl,rfl,rfl,fun _ _=>rfl⟩ (by intro e he;simp at he;subst he;exact AB _ rfl zi)⟩) rfl ?_ ⟨st,sm,gx,fun tag' ht _=>?_⟩ (fun _ _=>?_) (fun e=>absurd hk e) (by rw[Goes.running (fun _ _ h=>h.1) W (Go.ConcN.RW.refl W) hgo];simp) (.inl zo)
    ·rw[hd];exact .d1 hgo hC
    ·have:=j7.counted aQ zo (x:=5) zo;rcases ht with rfl | ⟨rfl,rfl⟩
     ·exact this
     ·exact this.gS
    ·obtain⟨r,hr⟩:=h.gone i hk zo;refine⟨r,hr.mute fun op cN=>?_⟩;obtain⟨e,he,rfl⟩:=Go.Conc.mem_ofEvents cN;simp at he;subst he;rfl
   ·obtain⟨g',w',es,cf,⟨rfl,rfl⟩,hgo⟩:=aw W (Go.ConcN.RW.refl W);exact h.idle ok hA dz hi cf (.inl ⟨hk,by simp⟩) hs (by rw[hd];exact .k1 hgo hC) (fun _ _=>.inl rfl) (by rw[Goes.running (fun _ _ h=>h.1) _ (Go.ConcN.RW.refl _) hgo];simp) (by rw[hr];exact Rk.ew n')
  | @d1 n C _ _ _ hq hC =>
   rcases hq.cases with cL | ⟨n',rfl,aw⟩
   ·obtain⟨_,yW⟩:=cL W (Go.ConcN.RW.refl W);obtain⟨hO,rfl,gQ,hc⟩:=j7.seen aQ zo;have hle:=fi S h.other;obtain⟨r,hG⟩:=h.gone i hk zo;have IM:=hG.mQ hd g.frame.fn g.frame.place q9 fun j e he _=>two he
    have FU:((Vc gs.size S-1:Nat):Int)+1=(Vc gs.size S:Int):=by omega
    have OA:Vc gs.size (upd S i 1)=Vc gs.size S-1:=by
     have:=MV (S:=S) aQ 1;rw[if_pos zo,if_neg zo]at this;omega
    have aG:deafBehind 1 #[rd (stA X.Wg),wr (stA X.Wg)]=1:=by simp[deafBehind,rd,wr]
    have live:∀v:Int,WgAt X.ty X.Wg (W.setCell (stA X.Wg) (.int .u64 v)) v 0:=fun v=>gx.setSt v
    rcases hc with⟨cN,aX,Bo⟩|⟨oh,aX⟩
    ·obtain⟨g',cf,_,hq⟩:=yW (Vc gs.size S-1) 0 zo zo (by rw[FU];simpa[aX]using gx);obtain⟨q,hq⟩:=hq zo;refine h.work (x:=1) (r':=.nat q) ok hA dz hi cf (.inl ⟨hk,uL jo eX.1 (aside_setCell W (stA X.Wg) _) q9⟩) (jO _ _ rfl) (by rw[hd,aG];exact .quit hq) ⟨_,_,live _,fun tag' ht _=>?_⟩ (fun _ _=>⟨r,IM⟩) (fun e=>absurd hk e) (by rcases hq.status with e|e<;>rw[e]<;>simp) (.inl zo);have J0:tag'=tag:=ht.resolve_right fun e=>by rw[e.1]at cN;exact cN
     subst J0;have:=Md.opn (N:=gs.size) (S:=upd S i 1) cN (hO.upd zo) fun vs e=>by have:=Bo vs e;omega
     rw[OA]at this;simpa using this
    ·by_cases h0:Vc gs.size S-1=0
     ·obtain⟨g',cf,hq,_⟩:=yW (Vc gs.size S-1) 1 zo zo (by rw[FU];simpa[aX]using gx);obtain⟨m,hgo⟩:=hq ⟨h0,rfl⟩;refine h.work (x:=4) (r':=.nat m) ok hA dz hi cf (.inl ⟨hk,uL jo eX.1 (aside_setCell W (stA X.Wg) _) q9⟩) (jO _ _ rfl) (by rw[hd,aG];exact .d2 hgo hC) ⟨_,_,live _,fun tag' ht _=>?_⟩ (fun _ _=>⟨r,IM⟩) (fun e=>absurd hk e) (by rw[Goes.running (fun _ _ h=>h.1) _ (Go.ConcN.RW.refl _) hgo];simp) (.inl zo);have hall:BO gs.size (upd S i 1):=Rg (hO.upd zo) zo
      have iE:Md gs.size (upd S i 4) tag (if upd S i 4 i=2 then 0 else 1) 0:=.last i oh aQ (by rw[upd_same];omega) fun k gO vf=>by
       have:=hall k gO;rw[upd_ne _ _ vf]at this ⊢;exact this
      rw[upd_same,if_neg zo]at iE;have hz:((Vc gs.size S-1:Nat):Int)*KK+((1:Nat):Int)=1:=by rw[h0];simp
      rw[hz];rcases ht with rfl | ⟨rfl,rfl⟩
      ·exact iE
      ·exact iE.gS
     ·obtain⟨g',cf,_,hq⟩:=yW (Vc gs.size S-1) 1 zo zo (by rw[FU];simpa[aX]using gx);obtain⟨q,hq⟩:=hq zo;refine h.work (x:=1) (r':=.nat q) ok hA dz hi cf (.inl ⟨hk,uL jo eX.1 (aside_setCell W (stA X.Wg) _) q9⟩) (jO _ _ rfl) (by rw[hd,aG];exact .quit hq) ⟨_,_,live _,fun tag' ht _=>?_⟩ (fun _ _=>⟨r,IM⟩) (fun e=>absurd hk e) (by rcases hq.status with e|e<;>rw[e]<;>simp) (.inl zo);have:=Md.reg (N:=gs.size) (S:=upd S i 1) oh (hO.upd zo) zo;rw[OA]at this;rcases ht with rfl | ⟨rfl,rfl⟩
      ·exact this
      ·exact this.gS
   ·obtain⟨g',w',es,cf,⟨rfl,rfl⟩,hgo⟩:=aw W (Go.ConcN.RW.refl W);exact h.idle ok hA dz hi cf (.inl ⟨hk,by simp⟩) hs (by rw[hd];exact .d1 hgo hC) (fun _ _=>.inl rfl) (by rw[Goes.running (fun _ _ h=>h.1) _ (Go.ConcN.RW.refl _) hgo];simp) (by rw[hr];exact Rk.ew n')
  | @d2 n C _ _ _ hq hC =>
   rcases hq.cases with cL | ⟨n',rfl,aw⟩
   ·obtain⟨_,wT⟩:=cL W (Go.ConcN.RW.refl W);obtain⟨oh,rfl,aX,hall⟩:=j7.pP aQ (.inl hs);rw[hs,if_neg zo]at aX;subst aX;obtain⟨g',cf,m,hgo⟩:=wT gx;obtain⟨r,hG⟩:=h.gone i hk zo;refine h.work (x:=3) (r':=.nat m) ok hA dz hi cf (.inl ⟨hk,uL jo eX.1 ⟨rfl,rfl,rfl,rfl,fun _ _=>rfl⟩ (by intro e he;simp at he;subst he;exact rr _ _ rfl)⟩) rfl (by rw[hd];exact .d3 hgo hC) ⟨_,_,gx,fun tag' ht _=>?_⟩ (fun _ _=>⟨r,hG.mQ hd _ _ (by intro e he;simp at he;subst he;exact rr _ _ rfl) fun j e he _=>?_⟩) (fun e=>absurd hk e) (by rw[Goes.running (fun _ _ h=>h.1) _ (Go.ConcN.RW.refl _) hgo];simp) (.inl zo)
    ·have iE:Md gs.size (upd S i 3) tag (if upd S i 3 i=2 then 0 else 1) 0:=.last i oh aQ (by rw[upd_same];omega) fun k gO vf=>by rw[upd_ne _ _ vf];exact hall k gO vf
     rw[upd_same,if_neg zo]at iE;rcases ht with rfl | ⟨rfl,rfl⟩
     ·exact iE
     ·exact iE.gS
    ·have hj:j<1:=(Array.getElem?_eq_some_iff.1 he).1;have:j=0:=by omega
     subst this;simp[deafBehind]
   ·obtain⟨g',w',es,cf,⟨rfl,rfl⟩,hgo⟩:=aw W (Go.ConcN.RW.refl W);exact h.idle ok hA dz hi cf (.inl ⟨hk,by simp⟩) hs (by rw[hd];exact .d2 hgo hC) (fun _ _=>.inl rfl) (by rw[Goes.running (fun _ _ h=>h.1) _ (Go.ConcN.RW.refl _) hgo];simp) (by rw[hr];exact Rk.ew n')
  | @d3 n C _ _ _ hq hC =>
   rcases hq.cases with cL | ⟨n',rfl,aw⟩
   ·obtain⟨_,wT⟩:=cL W (Go.ConcN.RW.refl W);obtain⟨oh,rfl,aX,hall⟩:=j7.pP aQ (.inr (.inl hs));rw[hs,if_neg zo]at aX;subst aX;obtain⟨g',cf,m,hgo⟩:=wT gx;obtain⟨r,hG⟩:=h.gone i hk zo;refine h.work (x:=2) (r':=.nat m) ok hA dz hi cf (.inl ⟨hk,uL jo eX.1 (aside_setCell W (stA X.Wg) _) (by intro e he;simp at he;subst he;exact rr _ _ rfl)⟩) (jO _ _ rfl) (by rw[hd];exact .d4 hgo hC) ⟨_,_,gx.setSt 0,fun tag' ht _=>?_⟩ (fun _ _=>⟨r,hG.mQ hd _ _ (by intro e he;simp at he;subst he;exact rr _ _ rfl) fun j e he _=>?_⟩) (fun e=>absurd hk e) (by rw[Goes.running (fun _ _ h=>h.1) _ (Go.ConcN.RW.refl _) hgo];simp) (.inl zo)
    ·have iE:Md gs.size (upd S i 2) tag (if upd S i 2 i=2 then 0 else 1) 0:=.last i oh aQ (by rw[upd_same];omega) fun k gO vf=>by rw[upd_ne _ _ vf];exact hall k gO vf
     rw[upd_same,if_pos rfl]at iE;rcases ht with rfl | ⟨rfl,rfl⟩
     ·exact iE
     ·exact iE.gS
    ·have hj:j<1:=(Array.getElem?_eq_some_iff.1 he).1;have:j=0:=by omega
     subst this;simp[deafBehind]
   ·obtain⟨g',w',es,cf,⟨rfl,rfl⟩,hgo⟩:=aw W (Go.ConcN.RW.refl W);exact h.idle ok hA dz hi cf (.inl ⟨hk,by simp⟩) hs (by rw[hd];exact .d3 hgo hC) (fun _ _=>.inl rfl) (by rw[Goes.running (fun _ _ h=>h.1) _ (Go.ConcN.RW.refl _) hgo];simp) (by rw[hr];exact Rk.ew n')
  | @d4 n C _ _ _ hq hC =>
   rcases hq.cases with cL | ⟨n',rfl,aw⟩
   ·obtain⟨_,WR,wT⟩:=cL W (Go.ConcN.RW.refl W);obtain⟨oh,rfl,aX,hall⟩:=j7.pP aQ (.inr (.inr hs));rw[hs,if_pos rfl]at aX;subst aX;obtain⟨g',cf,q,hq⟩:=wT gx;obtain⟨r,hG⟩:=h.gone i hk zo;have f7:g'.status≠.blocked:=by rcases hq.status with e|e<;>rw[e]<;>simp
    have WW:g'.status≠.waiting:=by rcases hq.status with e|e<;>rw[e]<;>simp
    have xz:∀e∈semEvents (smA X.Wg),uc X.Wg e:=by
     intro e he;simp[semEvents]at he;rcases he with rfl|rfl|rfl|rfl
     ·exact AB .disable rfl zi
     ·exact rr _ _ rfl
     ·exact rr _ _ rfl
     ·exact AB .enable rfl zi
    refine h.work (x:=1) (r':=.nat q) ok hA dz hi cf (.inl ⟨hk,uL jo eX.1 (aside_setCell W (smA X.Wg) _) xz⟩) (jO _ _ rfl) (by rw[hd];exact .quit hq) ⟨_,_,gx.setSm 1,fun tag' ht yI=>?_⟩ (fun _ _=>⟨r,hG.mQ hd _ _ xz fun j e he ht=>?_⟩) (fun e=>absurd hk e) f7 (.inl zo)
    ·have hb:=yI WR f7 WW
     have Dw:tag'.mE:=by
      rcases ht with rfl | ⟨rfl,rfl⟩
      ·exact oh
      ·trivial
     exact .sema Dw hb fun k gO=>by
      by_cases e:k=i
      ·subst e;exact upd_same _ _ _
      ·rw[upd_ne _ _ e];exact hall k gO e
    ·have hj:j<4:=(Array.getElem?_eq_some_iff.1 he).1;have:j=0∨j=1∨j=2∨j=3:=by omega
     rcases this with rfl|rfl|rfl|rfl<;>simp[deafBehind,semEvents]
   ·obtain⟨g',w',es,cf,⟨rfl,rfl⟩,hgo⟩:=aw W (Go.ConcN.RW.refl W);exact h.idle ok hA dz hi cf (.inl ⟨hk,by simp⟩) hs (by rw[hd];exact .d4 hgo hC) (fun _ _=>.inl rfl) (by rw[Goes.running (fun _ _ h=>h.1) _ (Go.ConcN.RW.refl _) hgo];simp) (by rw[hr];exact Rk.ew n')
end
section
theorem WS.runs [Payload]{X:dT}(ok:X.Ok){st:Nat}{tk:Option Nat}{r:Rk}{d:Nat}{O:Nat→Prop}{x:Goroutine}{W:World}(h:WS X st tk r d O x W)(aX:st≠1)(f7:x.status≠.blocked):x.status=.running:=by
 rcases h.status ok with e|e | ⟨g0,cs,sh,e,_⟩
 ·exact e
 ·exfalso;have no:x.status=.running→False:=fun e'=>by rw[e']at e;cases e
  cases h with
  | quit h=>exact aX rfl
  | recv h hC=>exact no (Goes.running (fun g w h=>(ok.ar _ g w h).1) W (.refl W) h)
  | iH h hC=>cases e
  | gS h hC=>cases e
  | task h hC=>exact no (h.run fun O g W h=>(ok.yo _ _ O g W h).1)
  | iI h hs hC=>cases e
  | l4 h hC=>exact no (Goes.running (fun g w h=>h.1) W (Go.ConcN.RW.refl W) h)
  | k1 h hC=>exact no (Goes.running (fun g w h=>h.1) W (Go.ConcN.RW.refl W) h)
  | d1 h hC=>exact no (Goes.running (fun g w h=>h.1) W (Go.ConcN.RW.refl W) h)
  | d2 h hC=>exact no (Goes.running (fun g w h=>h.1) W (Go.ConcN.RW.refl W) h)
  | d3 h hC=>exact no (Goes.running (fun g w h=>h.1) W (Go.ConcN.RW.refl W) h)
  | d4 h hC=>exact no (Goes.running (fun g w h=>h.1) W (Go.ConcN.RW.refl W) h)
 ·exact absurd (by rw[e];rfl) f7
theorem zzh (h:1≤Vc N S):∃i,i<N∧5≤S i:=Classical.byContradiction fun hn=>by
 have:Vc N S=sumTo N fun _=>0:=Go.ConcN.sumTo_congr fun i hi=>if_neg fun x=>hn ⟨i,hi,x⟩
 have h0:=Go.ConcN.sumTo_le (f:=fun _=>0) (c:=0) (j:=N) fun _ _=>Nat.le_refl _
 omega
theorem WS.quits [Payload]{X:dT}{tk:Option Nat}{r:Rk}{d:Nat}{O:Nat→Prop}{x:Goroutine}{W:World}(h:WS X 1 tk r d O x W):∃q,QuitsD X.P q d x:=by
 generalize aX:(1:Nat)=st at h;cases h with
 | quit h=>exact⟨_,h⟩
 | _=>omega
end
section
variable [Payload] {X:dT}{Anch:Goroutine→World→Prop}{Fin:Goroutine→Prop}{aA:Loc→Prop}{Sh K:Nat→Prop}{W0:World}{tag tag':Tg}{S:Nat→Nat}{ρ:Nat→Rk}{r0 r0':Rk}{gs:Array Goroutine}{W W':World}{t:Trace}{O:Nat→Nat→Prop}
 {sl:Option (Nat × Nat)} {a a':Goroutine} {es:Array Event} {xE KD:Int}
theorem Wt.mine (ok:X.Ok)(eX:Sh X.Wg∧X.ct≠X.Wg)(h:Wt X Anch Fin aA Sh K W0 tag S ρ r0 gs W t O)(h0:gs[0]?=some a)(aX:stepG X.P true a W=.go a' W' es)(ha:Aside X.Wg W W')(pB:∀e∈es,(uc X.Wg e∨∃x ww,e=Go.ConcR.mk (if ww=true then .write x else .read x)∧x.block=X.Wg))(gx:WgAt X.ty X.Wg W' xE KD)(j7:Md gs.size S tag' xE KD)
  (mB:CT X Anch Fin tag' (deafBehind (Deaf t 0) es) r0' a' W') (hx:tag'.ph gs.size (Vc gs.size S)<tag.ph gs.size (Vc gs.size S)∨(tag'.ph gs.size (Vc gs.size S)=tag.ph gs.size (Vc gs.size S)∧Rk.Sub r0' r0)) :
  ∃m' ops,runT X.P (crowd gs W sl) 0=(.next m',ops)∧xZ X Anch Fin aA Sh K W0 tag S ρ r0 gs.size t O m' ops:=by
 have aQ:0<gs.size:=(Array.getElem?_eq_some_iff.1 h0).1;have ap:=h.core.apart
 have hf:gr Sh X.Z (O 0) (O 0) 0 W W' es:=by
  refine⟨ha.os,ha.tape,ha.output,by rw[ha.size];exact Nat.le_refl _,fun b _ _ hb=>ha.block b fun e=>hb (e ▸ eX.1),fun b hb=>⟨.inl hb,by rw[ha.size];exact ap.lo 0 b hb⟩,fun e he=>?_⟩;rcases pB e he with h1 | ⟨x,w,rfl,hb⟩
  ·exact(uL (W:=W) (W':=W) (es:=#[e]) (j:=0) (fun b hb=>ap.lo 0 b hb) eX.1 ⟨rfl,rfl,rfl,rfl,fun _ _=>rfl⟩ (by simpa using h1)).evs e zi
  ·refine⟨fun b dk=>?_,?_⟩
   ·cases w<;>simp[Go.ConcR.mk,MemAct.ofEvent,MemAct.touch?]at dk;all_goals (subst dk;exact⟨X.Wg,hb,.inr (.inr ⟨eX.1,by simp,fun _=>rfl⟩)⟩)
   ·cases w<;>simp[Go.ConcR.mk,MemAct.ofEvent]
 have ky:WgLive X.ty X.Wg W→WgLive X.ty X.Wg W':=fun _=>⟨_,_,gx⟩
 have gM:=h.core.own (Sit':=AY X Anch Fin tag' S ρ r0') h0 (.inl rfl) hf (fun j y hj hy hs hr=>⟨fun e=>absurd e hj,fun e=>by
  rw[h.iK ok e hy];exact(hs.2 e).rely fun _=>⟨hr,ky⟩⟩) ⟨fun _=>mB,fun e=>absurd rfl e⟩ a.frame.fn a.frame.place
 rw[vS]at gM
 have q7:cv (O 0) X.Z W W':=⟨ha.os,ha.tape,ha.output,by rw[ha.size];exact Nat.le_refl _,fun b hb=>ha.block b (by
  rintro rfl;rcases hb with hb|hb
  ·exact ap.sh 0 _ hb eX.1
  ·exact ap.m9 _ hb eX.1)⟩
 refine⟨_,_,runT_crowd_go (P:=X.P) (sl:=sl) (i:=0) h0 (show stepG X.P (0 == 0) a W=_ from aX),tag',S,ρ,r0',_,W',sl,O,rfl,by simp,rfl,⟨gM,fun j hj=>by simpa using h.iR j hj,by rw[ha.block X.ct eX.2];exact h.shut,⟨xE,KD,gx,by simpa using j7⟩,fun j hj hs=>?_,h.other,fun j y hj hy=>?_,h.ot.trans q7⟩,?_⟩
 ·obtain⟨r,hr⟩:=h.gone j hj hs;exact⟨r,hr.other fun op cN=>by obtain⟨e',_,rfl⟩:=Go.Conc.mem_ofEvents cN;have:=(h.iR j hj).1;show 0≠j;omega⟩
 ·rw[Array.getElem?_setIfInBounds_ne (Ne.symm hj),Array.getElem?_map]at hy;obtain⟨z,hz,rfl⟩:=Option.map_eq_some_iff.1 hy;rw[h.iK ok hj hz];exact h.nb j z hj hz
 ·unfold rJ;rcases hx with hx | ⟨hx,hs⟩
  ·exact .inl zo
  ·exact .inr ⟨by omega,.inr ⟨rfl,hs⟩⟩
def HD (X:dT)(Fin:Goroutine→Prop)(aA:Loc→Prop)(W0:World)(O0:Nat→Prop)(n:Nat)(m':Machine)(t':Trace):Prop :=
 ∃gs' W' eI a',m'=crowd gs' W' eI∧gs'.size=n∧gs'[0]?=some a'∧Fin a'∧cv O0 X.Z W0 W'∧Idle X 0 (fun l=>aA l∨fD l X.Wg) (fun _=>False) (fun _=>False) gs' W' t' fun g b=>g=0∧O0 b
theorem Wt.jP (ok:X.Ok)(hA:∀g w,Anch g w→g.status=.running)(eX:Sh X.Wg∧X.ct≠X.Wg)(fi:∀S,(∀j,¬K j→S j=1)→Vc gs.size S<2147483647)(h:Wt X Anch Fin aA Sh K W0 tag S ρ r0 gs W t O)(Xi:tag=.an→¬ ∀w1,RL X W w1→∀a,gs[0]?=some a→Anch a w1)(h0:gs[0]?=some a)(cm:a.status=.running) :
  (∃m' ops,runT X.P (crowd gs W sl) 0=(.next m',ops)∧xZ X Anch Fin aA Sh K W0 tag S ρ r0 gs.size t O m' ops)∨∃m' ops,runT X.P (crowd gs W sl) 0=(.next m',ops)∧HD X Fin aA W0 (O 0) gs.size m' (t++ops):=by
 obtain⟨st,sm,gx,j7⟩:=h.md;have hle:=fi S h.other;have WH:=zzi gs.size S;have same:Aside X.Wg W W:=⟨rfl,rfl,rfl,rfl,fun _ _=>rfl⟩;have ap:=h.core.apart;obtain⟨tg,dU,r,hr,d,hd,mB⟩:∃tg,tag=tg∧∃r,r0=r∧∃d,Deaf t 0=d∧CT X Anch Fin tg d r a W:=⟨_,rfl,_,rfl,_,rfl,(h.core.eg 0 a h0).1 rfl⟩
 have D3:∀(m:Mark),(MemAct.mark m).touch?=none→(∀a,m≠.release a)→∀e∈#[Go.ConcR.mk m],(uc X.Wg e∨∃x ww,e=Go.ConcR.mk (if ww=true then .write x else .read x)∧x.block=X.Wg):=fun m h1 h2 e he=>by
  simp at he;subst he;exact .inl (AB m h1 h2)
 have vG:∀e∈#[rd (stA X.Wg)],(uc X.Wg e∨∃x ww,e=Go.ConcR.mk (if ww=true then .write x else .read x)∧x.block=X.Wg):=fun e he=>by
  simp at he;subst he;exact .inl (rr _ _ rfl)
 have q9:∀e∈#[rd (stA X.Wg),wr (stA X.Wg)],(uc X.Wg e∨∃x ww,e=Go.ConcR.mk (if ww=true then .write x else .read x)∧x.block=X.Wg):=fun e he=>by
  simp at he;rcases he with rfl|rfl
  ·exact .inl (rr _ _ rfl)
  ·exact .inl (rr _ _ rfl)
 have idle:∀{n':Nat} {g':Goroutine} {KG:Tg},stepG X.P true a W=.go g' W #[]→CT X Anch Fin KG d (.nat n') g' W→KG=tag→r0=.nat (n'+1)→∃m' ops,runT X.P (crowd gs W sl) 0=(.next m',ops)∧xZ X Anch Fin aA Sh K W0 tag S ρ r0 gs.size t O m' ops:=fun {n' g' KG} hs hc ht zK=>by
  subst ht;exact h.mine ok eX h0 hs same zi gx j7 (by rw[hd];exact hc) (.inr ⟨rfl,by rw[zK];exact Rk.ew n'⟩)
 cases mB with
 | @kd m _ _ hg =>
  refine .inl ?_;rcases hg.cases with cL | ⟨n',rfl,aw⟩
  ·obtain⟨_,g',cf,m',hgo⟩:=cL W (jB W);have Ou:tag.isOpen:=by rw[dU];trivial
   refine h.mine (tag':=.an) ok eX h0 cf same (D3 _ rfl zi) gx ?_ (by rw[hd];exact .an hgo) (.inl (by rw[dU];simp only[Tg.ph];omega));cases j7 with
   | opn _ h2 _=>exact .opn trivial h2 fun vs e=>by cases e
   | reg h1=>rw[dU]at h1;exact h1.elim
   | last _ h1=>rw[dU]at h1;exact h1.elim
   | sema h1=>rw[dU]at h1;exact h1.elim
   | fin h1=>rw[dU]at h1;exact h1.elim
  ·obtain⟨g',w',es,cf,⟨rfl,rfl⟩,hgo⟩:=aw W (jB W);exact idle cf (.kd hgo) dU.symm hr
 | @an m _ _ hg =>
  refine .inl ?_;rcases hg.cases with cL | ⟨n',rfl,aw⟩
  ·exact absurd (fun w1 h1 b hb=>by rw[h0]at hb;cases hb;exact cL w1 h1) (Xi dU)
  ·obtain⟨g',w',es,cf,⟨rfl,rfl⟩,hgo⟩:=aw W (jB W);exact idle cf (.an hgo) dU.symm hr
 | @w1 m _ _ hg =>
  refine .inl ?_;rcases hg.cases with cL | ⟨n',rfl,aw⟩
  ·obtain⟨_,eE⟩:=cL W (jB W)
   have zx:∃hO:jD gs.size S,st=(Vc gs.size S:Nat)*KK∧sm=0:=by
    cases j7 with
    | opn _ h2 _=>exact⟨h2,rfl,rfl⟩
    | reg h1=>rw[dU]at h1;exact h1.elim
    | last _ h1=>rw[dU]at h1;exact h1.elim
    | sema h1=>rw[dU]at h1;exact h1.elim
    | fin h1=>rw[dU]at h1;exact h1.elim
   obtain⟨hO,rfl,rfl⟩:=zx;obtain⟨g',cf,hz,WX⟩:=eE (Vc gs.size S) zo gx;by_cases hv:Vc gs.size S=0
   ·obtain⟨m',hgo⟩:=hz hv;refine h.mine (tag':=.ke) ok eX h0 cf same vG gx ?_ (by rw[hd];exact .ke hgo) (.inl (by rw[dU];simp only[Tg.ph];omega));have:=Md.fin (N:=gs.size) (S:=S) (tag:=.ke) trivial (Rg hO hv);rw[hv];simpa using this
   ·obtain⟨m',hgo⟩:=WX hv;exact h.mine (tag':=.w2 (Vc gs.size S)) ok eX h0 cf same vG gx (.opn trivial hO fun vs e=>by cases e;exact⟨Nat.le_refl _,by omega⟩) (by rw[hd];exact .w2 hgo) (.inl (by rw[dU];simp only[Tg.ph];omega))
  ·obtain⟨g',w',es,cf,⟨rfl,rfl⟩,hgo⟩:=aw W (jB W);exact idle cf (.w1 hgo) dU.symm hr
 | @w2 vs m _ _ hg =>
  refine .inl ?_;rcases hg.cases with cL | ⟨n',rfl,aw⟩
  ·obtain⟨_,eE⟩:=cL W (jB W)
   have zx:∃hO:jD gs.size S,st=(Vc gs.size S:Nat)*KK∧sm=0∧Vc gs.size S≤vs∧1≤vs:=by
    cases j7 with
    | opn _ h2 h3=>exact⟨h2,rfl,rfl,h3 vs dU⟩
    | reg h1=>rw[dU]at h1;exact h1.elim
    | last _ h1=>rw[dU]at h1;exact h1.elim
    | sema h1=>rw[dU]at h1;exact h1.elim
    | fin h1=>rw[dU]at h1;exact h1.elim
   obtain⟨hO,rfl,rfl,Bo,FU⟩:=zx;obtain⟨Jp,Dd⟩:=eE (Vc gs.size S) zo gx;by_cases hv:Vc gs.size S=vs
   ·obtain⟨g',cf,m',hgo⟩:=Jp hv;exact h.mine (tag':=.sw) ok eX h0 cf (aside_setCell W (stA X.Wg) _) q9 (gx.setSt _) (.reg trivial hO zo) (by rw[hd,show deafBehind 1 #[rd (stA X.Wg),wr (stA X.Wg)]=1 by simp[deafBehind,rd,wr]];exact .sw hgo) (.inl (by rw[dU];simp only[Tg.ph];omega))
   ·obtain⟨g',cf,m',hgo⟩:=Dd hv;exact h.mine (tag':=.an) ok eX h0 cf same vG gx (.opn trivial hO fun vs e=>by cases e) (by rw[hd];exact .an hgo) (.inl (by rw[dU];simp only[Tg.ph];omega))
  ·obtain⟨g',w',es,cf,⟨rfl,rfl⟩,hgo⟩:=aw W (jB W);exact idle cf (.w2 hgo) dU.symm hr
 | @sw m _ _ hg =>
  refine .inl ?_;rcases hg.cases with cL | ⟨n',rfl,aw⟩
  ·obtain⟨_,g',cf,m',hgo⟩:=cL W (jB W);refine h.mine (tag':=.w3) ok eX h0 cf same (fun e he=>?_) gx ?_ (by rw[hd];exact .w3 hgo) (.inl (by rw[dU];simp only[Tg.ph];omega))
   ·simp at he;subst he;exact .inr ⟨smA X.Wg,true,rfl,rfl⟩
   ·cases j7 with
    | opn h1=>rw[dU]at h1;exact h1.elim
    | reg _ h2 h3=>exact .reg trivial h2 h3
    | last L _ h2 h3 h4=>exact .last L trivial h2 h3 h4
    | sema _ _ h3=>exact .sema trivial zi h3
    | fin h1=>rw[dU]at h1;exact h1.elim
  ·obtain⟨g',w',es,cf,⟨rfl,rfl⟩,hgo⟩:=aw W (jB W);exact idle cf (.sw hgo) dU.symm hr
 | @w3 m _ _ hg =>
  refine .inl ?_;rcases hg.cases with cL | ⟨n',rfl,aw⟩
  ·obtain⟨_,ho,I6,xm⟩:=cL W (jB W)
   have ko:sm=0→Md gs.size S .bk st sm→∃m' ops,runT X.P (crowd gs W sl) 0=(.next m',ops)∧xZ X Anch Fin aA Sh K W0 tag S ρ r0 gs.size t O m' ops:=fun e hm=>by
    subst e;exact h.mine (tag':=.bk) (r0':=.nat m) ok eX h0 (I6 ⟨st,gx⟩) same zi gx hm (by rw[hd];exact .bk cL) (.inr ⟨by rw[dU];rfl,by rw[hr];exact Rk.ew m⟩)
   cases j7 with
   | opn h1=>rw[dU]at h1;exact h1.elim
   | reg _ h2 h3=>exact ko rfl (.reg trivial h2 h3)
   | last L _ h2 h3 h4=>exact ko rfl (.last L trivial h2 h3 h4)
   | sema _ _ h3 =>
    obtain⟨g',cf,m',hgo⟩:=xm gx;refine h.mine (tag':=.w4) ok eX h0 cf (aside_setCell W (smA X.Wg) _) (fun e he=>.inl ?_) (gx.setSm 0) (.fin trivial h3) (by rw[hd,show deafBehind 1 (semEvents (smA X.Wg))=1 by simp[deafBehind,semEvents]];exact .w4 hgo) (.inl (by rw[dU];simp only[Tg.ph];omega));simp[semEvents]at he;rcases he with rfl|rfl|rfl|rfl
    ·exact AB .disable rfl zi
    ·exact rr _ _ rfl
    ·exact rr _ _ rfl
    ·exact AB .enable rfl zi
   | fin h1=>rw[dU]at h1;exact h1.elim
  ·obtain⟨g',w',es,cf,⟨rfl,rfl⟩,hgo⟩:=aw W (jB W);exact idle (n':=n'+1) cf (.w3 hgo) dU.symm hr
 | bk hg=>cases cm
 | @w4 m _ _ hg =>
  refine .inl ?_;rcases hg.cases with cL | ⟨n',rfl,aw⟩
  ·obtain⟨_,zQ⟩:=cL W (jB W)
   have cx:BO gs.size S∧st=0∧sm=0:=by
    cases j7 with
    | opn h1=>rw[dU]at h1;exact h1.elim
    | reg h1=>rw[dU]at h1;exact h1.elim
    | last _ h1=>rw[dU]at h1;exact h1.elim
    | sema h1=>rw[dU]at h1;exact h1.elim
    | fin _ h=>exact⟨h,rfl,rfl⟩
   obtain⟨hall,rfl,rfl⟩:=cx;obtain⟨g',cf,m',hgo⟩:=zQ gx;exact h.mine (tag':=.ke) ok eX h0 cf same vG gx (.fin trivial hall) (by rw[hd];exact .ke hgo) (.inl (by rw[dU];simp only[Tg.ph];omega))
  ·obtain⟨g',w',es,cf,⟨rfl,rfl⟩,hgo⟩:=aw W (jB W);exact idle cf (.w4 hgo) dU.symm hr
 | @ke m _ _ hg =>
  refine .inl ?_;rcases hg.cases with cL | ⟨n',rfl,aw⟩
  ·obtain⟨_,g',cf,m',hgo⟩:=cL W (jB W);refine h.mine (tag':=.aq) ok eX h0 cf same (D3 _ rfl zi) gx ?_ (by rw[hd];exact .aq hgo) (.inl (by rw[dU];simp only[Tg.ph];omega));cases j7 with
   | opn h1=>rw[dU]at h1;exact h1.elim
   | reg h1=>rw[dU]at h1;exact h1.elim
   | last _ h1=>rw[dU]at h1;exact h1.elim
   | sema h1=>rw[dU]at h1;exact h1.elim
   | fin _ h=>exact .fin trivial h
  ·obtain⟨g',w',es,cf,⟨rfl,rfl⟩,hgo⟩:=aw W (jB W);exact idle cf (.ke hgo) dU.symm hr
 | @aq m _ _ hg =>
  rcases hg.cases with cL | ⟨n',rfl,aw⟩
  ·obtain⟨_,g',cf,cx⟩:=cL W (jB W)
   have hall:BO gs.size S:=by
    cases j7 with
    | opn h1=>rw[dU]at h1;exact h1.elim
    | reg h1=>rw[dU]at h1;exact h1.elim
    | last _ h1=>rw[dU]at h1;exact h1.elim
    | sema h1=>rw[dU]at h1;exact h1.elim
    | fin _ h=>exact h
   have aQ:0<gs.size:=(Array.getElem?_eq_some_iff.1 h0).1
   have ev:MemOp.ofEvents 0 a.frame.fn a.frame.place #[Go.ConcR.mk (.acquire (stA X.Wg))] = #[{ g:=0,fn:=a.frame.fn,pos:=a.frame.place,act:=.mark (.acquire (stA X.Wg)) }]:=by
    rw[ofEvents_eq];simp only[List.map_toArray,List.map_cons,List.map_nil];rfl
   have hD:∀j,Deaf (t++MemOp.ofEvents 0 a.frame.fn a.frame.place #[Go.ConcR.mk (.acquire (stA X.Wg))]) j=Deaf t j:=fun j=>by
    rw[ev];exact Ha (fun op cN=>by simp at cN;subst cN;simp) j
   refine .inr ⟨_,_,runT_crowd_go (P:=X.P) (sl:=sl) (i:=0) h0 (show stepG X.P (0 == 0) a W=_ from cf),_,W,sl,g',rfl,by simp,by simp[aQ],cx,h.ot,⟨⟨fun j y hj=>?_,fun j hj=>?_,?_,⟨fun g k b rT hg hk=>?_,fun g b hg hz=>?_,fun g b _ hs=>hs.elim,fun b _ hs=>hs.elim,fun g b hg=>?_,ap.mf,fun b hs=>hs.elim⟩⟩,fun⟨_,hk⟩=>hk.elim,fun⟨_,hk⟩=>hk.elim,fun j hk=>hk.elim⟩⟩
   ·rw[hD];refine⟨fun e=>by subst e;exact hd,fun e=>?_⟩;rw[Array.getElem?_setIfInBounds_ne (Ne.symm e),Array.getElem?_map]at hj;obtain⟨z,hz,rfl⟩:=Option.map_eq_some_iff.1 hj;rw[h.iK ok e hz];have hw:=(h.core.eg j z hz).2 e;have eE:S j=1:=hall j (Array.getElem?_eq_some_iff.1 hz).1;rw[eE]at hw;obtain⟨q,hq⟩:=hw.quits;exact⟨_,1,.quit hq,.inl ⟨rfl,id⟩⟩
   ·rw[hD];exact h.core.above j (by simpa using hj)
   ·rw[ev];exact h.core.tok.join (a:=stA X.Wg) (fun k hk=>h.gone k hk (by have:=hall k (h.iR k hk).2;omega)) hd ⟨fun g x=>ap.sh g _ x eX.1,fun x=>ap.m9 _ x eX.1,ap.tR _ eX.1⟩ _ _
   ·exact rT (hg.1.trans hk.1.symm)
   ·exact ap.shr 0 b hg.2 hz
   ·exact ap.lo 0 b hg.2
  ·obtain⟨g',w',es,cf,⟨rfl,rfl⟩,hgo⟩:=aw W (jB W);exact .inl (idle cf (.aq hgo) dU.symm hr)
theorem zvc (ok:X.Ok)(hA:∀g w,Anch g w→g.status=.running)(IF:∀g w,Anch g w→∃m,Goes X.P true (RL X) DC0 (S1 X Anch Fin) m g w)(eX:Sh X.Wg∧X.ct≠X.Wg){n:Nat}{O0:Nat→Prop}(fi:∀S,(∀j,¬K j→S j=1)→Vc n S<2147483647):∀(Φ:Nat) (ρ:Nat→Rk) (r0:Rk) (tag:Tg) (S:Nat→Nat) (gs:Array Goroutine) (W:World) (t:Trace) (O:Nat→Nat→Prop) (sl:Option (Nat × Nat)),rJ n tag S=Φ→gs.size=n→0<n→O 0=O0→Wt X Anch Fin aA Sh K W0 tag S ρ r0 gs W t O →
  Comes X.P (crowd gs W sl) t (HD X Fin aA W0 O0 n):=by
 intro Φ
 induction Φ using Nat.strongRecOn with
 | _ Φ F1 =>
  intro ρ
  induction ρ using (Dec.wf n).induction with
  | _ ρ Xz =>
   intro r0
   induction r0 using Rk.wf.induction with
   | _ r0 Kk =>
    intro tag S gs W t O sl hΦ hn gQ hO h;obtain⟨a,h0⟩:∃a,gs[0]?=some a:=⟨gs[0]'zo,Array.getElem?_eq_getElem zo⟩;have mB:=(h.core.eg 0 a h0).1 rfl;obtain⟨st,sm,gx,j7⟩:=h.md;by_cases wP:tag=.an∧∀w1,RL X W w1→Anch a w1
    ·obtain⟨rfl,Wd⟩:=wP;obtain⟨m,hgo⟩:=IF a W (Wd W (jB W))
     have hd:Deaf t 0=1:=by
      generalize Deaf t 0=d at mB;cases mB with
      | an _=>rfl
     refine F1 _ ?_ ρ (.nat m) .w1 S gs W t O sl rfl hn gQ hO ⟨⟨fun j y hj=>⟨fun e=>?_,(h.core.eg j y hj).2⟩,h.core.above,h.core.tok,h.core.apart⟩,h.iR,h.shut,⟨st,sm,gx,?_⟩,h.gone,h.other,h.nb,h.ot⟩
     ·rw[←hΦ];simp only[rJ,Tg.ph];omega
     ·subst e;rw[h0]at hj;cases hj;rw[hd];exact .w1 hgo
     ·cases j7 with
      | opn _ h2 _=>exact .opn trivial h2 fun vs e=>by cases e
      | reg h1=>exact h1.elim
      | last _ h1=>exact h1.elim
      | sema h1=>exact h1.elim
      | fin h1=>exact h1.elim
    ·have Cv:∀g∈gs,awake g:=by
      intro g hg;obtain⟨i,hi,rfl⟩:=Array.mem_iff_getElem.1 hg;by_cases dz:i=0
      ·subst dz;have:gs[0]=a:=by simpa[Array.getElem?_eq_getElem hi]using h0
       rw[this];rcases mB.status hA with e | ⟨_,e,_⟩
       ·exact awake_of (.inl e)
       ·exact awake_of (.inr (.inl e))
      ·exact((h.core.eg i _ (Array.getElem?_eq_getElem hi)).2 dz).awake ok
     have tN:∃(i:Nat) (g:Goroutine),gs[i]?=some g∧g.status=.running:=by
      rcases mB.status hA with e | ⟨rfl,_,_⟩
      ·exact⟨0,a,h0,e⟩
      ·have two:∀i,i<gs.size→S i≠1→∃(i:Nat) (g:Goroutine),gs[i]?=some g∧g.status=.running:=fun i hi hs=>by
        have hk:K i:=Classical.byContradiction fun hk=>hs (h.other i hk)
        have dz:i≠0:=by have:=(h.iR i hk).1;omega
        have hx:gs[i]?=some gs[i]:=Array.getElem?_eq_getElem hi;exact⟨i,_,hx,((h.core.eg i _ hx).2 dz).runs ok hs (h.nb i _ dz hx)⟩
       generalize dU:Tg.bk=tg at j7;cases j7 with
       | opn h1=>subst dU;exact h1.elim
       | reg _ _ h3 =>
        obtain⟨i,hi,h5⟩:=zzh h3;exact two i hi zo
       | last L _ h2 h3 _=>exact two L h2 zo
       | sema _ h2 _=>exact absurd dU.symm h2
       | fin h1=>subst dU;exact h1.elim
     obtain⟨i,g,d,eI,hi,hg,aX⟩:=crowd_pick (P:=X.P) (w:=W) (sl:=sl) Cv tN
     have turn:(∃m' ops,runT X.P (crowd gs (W.at d) eI) i=(.next m',ops)∧xZ X Anch Fin aA Sh K W0 tag S ρ r0 gs.size t O m' ops)→Comes X.P (crowd gs W sl) t (HD X Fin aA W0 O0 n):=by
      rintro⟨m',ops,hr,tag',S',ρ',r0',gs',W',m3,O',rfl,vt,IV,hP,kN⟩;refine .step (aX.trans hr) ?_;rcases kN with kN | ⟨he,kN | ⟨rfl,kN⟩⟩
      ·exact F1 _ (by rw[←hΦ,←hn];exact kN) ρ' r0' tag' S' gs' W' _ O' m3 (by rw[hn]) zo gQ (IV.trans hO) hP
      ·exact Xz ρ' (by rw[←hn];exact kN) r0' tag' S' gs' W' _ O' m3 (by rw[←hΦ,←hn];exact he) zo gQ (IV.trans hO) hP
      ·exact Kk r0' kN tag' S' gs' W' _ O' m3 (by rw[←hΦ,←hn];exact he) zo gQ (IV.trans hO) hP
     by_cases dz:i=0
     ·subst dz;rw[h0]at hi;cases hi;rcases (h.at d).jP (sl:=eI) ok hA eX (hn.symm ▸ fi) (fun e hx=>wP ⟨e,fun w1 h1=>hx w1 h1 _ h0⟩) h0 hg with ht | ⟨m',ops,hr,he⟩
      ·exact turn ht
      ·rw[hn,hO]at he;exact .step (aX.trans hr) (.done he)
     ·exact turn ((h.at d).worker ok hA eX (hn.symm ▸ fi) dz hi hg)
end
open Go.ConcN (upd upd_same upd_ne WgLive PayAt RW sumTo)
section
variable [Payload] {X:dT}{Anch:Goroutine→World→Prop}{Fin:Goroutine→Prop}{aA:Loc→Prop}{Sh:Nat→Prop}{gs:Array Goroutine}{W:World}{t:Trace}{O:Nat→Nat→Prop}{sl:Option (Nat × Nat)}{a:Goroutine}{s0:Nat}
def S9 (s0 N j:Nat):Nat:=if s0≤j∧j<N then 9 else 1
theorem UO (s0 N:Nat):∀n,n≤N→sumTo n (fun i=>if 5≤S9 s0 N i then 1 else 0)=n-s0
 | 0,_=>by simp[sumTo]
 | n+1,h=>by
  have:=UO s0 N n zo;simp only[sumTo,this];by_cases hs:s0≤n
  ·have:S9 s0 N n=9:=if_pos ⟨hs,by omega⟩;rw[this];simp;omega
  ·have:S9 s0 N n=1:=if_neg fun x=>hs x.1
   rw[this];simp;omega
theorem Tl:∀n,(∀j,j<s0→S j=1)→sumTo n (fun i=>if 5≤S i then 1 else 0)≤n-s0
 | 0,_=>by simp[sumTo]
 | n+1,h=>by
  have:=Tl n h;simp only[sumTo];by_cases hs:s0≤n
  ·split<;>omega
  ·have:=h n zo;rw[this];simp;omega
theorem shut (ok:X.Ok)(hA:∀g w,Anch g w→g.status=.running)(IF:∀g w,Anch g w→∃m,Goes X.P true (RL X) DC0 (S1 X Anch Fin) m g w)(cj:X.ct≠X.Wg)(eX:Sh X.ct∧Sh X.Wg)(fi:gs.size-s0<2147483647)(jG:0<s0)
  (hI:Idle X 0 aA Sh (fun j=>s0≤j∧j<gs.size) gs W t O) (mA:eC X.ct W) (h0:gs[0]?=some a) (cm:a.status=.running) (Jx:mayWake X.P a=true) (gx:WgAt X.ty X.Wg W ((gs.size-s0:Nat)*KK) 0)
  (hs:∀e m tm,(W.at e).heap[X.ct]?=some (.chan 0 #[] false m m tm)→∃a' es,stepG X.P true a (W.at e)=.go a' ((W.at e).setChan X.ct 0 #[] true m m tm) es∧a'.status=.running∧(∀e∈es,e=⟨.obj X.ct,false,true⟩∨e=⟨.obj X.ct,true,true⟩)∧∃n,Goes X.P true (RL X) DC0 (Fo X Anch) n a' ((W.at e).setChan X.ct 0 #[] true m m tm)) :
  Comes X.P (crowd gs W sl) t (HD X Fin aA W (O 0) gs.size):=by
 refine(pick (sl:=sl) ok hI h0 cm).bind fun m' t' ⟨gs',W1,oC,iy,d,hm,aX,gL,jW,hsz,e,he⟩=>?_
 subst hm;obtain⟨m,tm,hc⟩:=mA;obtain⟨a',es,aw,tJ,pB,n,hgo⟩:=hs e m tm hc;rw[←he]at aw hgo;have aQ:0<gs'.size:=(Array.getElem?_eq_some_iff.1 jW).1;have ap:=gL.core.apart;have yV:(W1.at d).heap[X.ct]?=some (.chan 0 #[] false m m tm):=by rw[he];exact hc
 have yT:X.ct<(W1.at d).heap.size:=(Array.getElem?_eq_some_iff.1 yV).1;generalize uv:(W1.at d).setChan X.ct 0 #[] true m m tm=W' at aw hgo
 have pJ:∀b,b≠X.ct→W'.heap[b]?=(W1.at d).heap[b]?:=fun b hb=>by
  rw[←uv];simp only[World.setChan,Array.getElem?_setIfInBounds_ne (Ne.symm hb)]
 have qf:W'.heap[X.ct]?=some (.chan 0 #[] true m m tm):=by
  rw[←uv];simp only[World.setChan];exact Array.getElem?_setIfInBounds_self_of_lt yT
 have dZ:W'.heap.size=(W1.at d).heap.size:=by rw[←uv];simp[World.setChan]
 have hf:gr Sh X.Z (O 0) (O 0) 0 (W1.at d) W' es:=by
  refine⟨by rw[←uv];rfl,by rw[←uv];rfl,by rw[←uv];rfl,by rw[dZ];exact Nat.le_refl _,fun b _ _ hb=>pJ b fun e=>hb (e ▸ eX.1),fun b hb=>⟨.inl hb,by rw[dZ];exact ap.lo 0 b hb⟩,fun e' CP=>?_⟩;rcases pB e' CP with rfl|rfl
  ·refine⟨fun b hb=>?_,by simp[MemAct.ofEvent]⟩;simp only[MemAct.ofEvent,MemAct.touch?,Option.some.injEq]at hb;subst hb;exact⟨X.ct,rfl,.inr (.inr ⟨eX.1,by simp,by simp⟩)⟩
  ·exact⟨fun b hb=>by simp[MemAct.ofEvent,MemAct.touch?]at hb,by simp[MemAct.ofEvent]⟩
 have gN:deafBehind 0 es=0:=deafBehind_still (fun e' CP=>by rcases pB e' CP with rfl|rfl<;>simp) 0
 have z0:∀x:Goroutine,Go.Conc.woken X.P a a' W' x=x.again W':=fun x=>by
  unfold Go.Conc.woken;rw[if_pos (by rw[Jx,tJ];rfl)]
 have ky:WgLive X.ty X.Wg (W1.at d)→WgLive X.ty X.Wg W':=fun⟨st,sm,x⟩=>⟨st,sm,(pJ _ (Ne.symm cj)).trans x⟩
 have gS:∀j x,j≠0→gs'[j]?=some x→HY X (fun j=>s0≤j∧j<gs.size) 0 j (Deaf t' j) (O j) x (W1.at d)→cv (O j) X.Z (W1.at d) W'→(∃r,WS X (S9 s0 gs.size j) none r (Deaf t' j) (O j) (x.again W') W')∧(x.again W').status≠.blocked:=fun j x hj hx hs hr=>by
  obtain⟨r,st,hw,hc⟩:=hs.2 hj;have l9:wE X.ty X.Wg (O j) X.Z (W1.at d) W':=⟨hr,ky⟩;rcases hc with⟨rfl,hk⟩|⟨rfl,hk⟩
  ·obtain⟨q,hq⟩:=hw.quits;have e9:S9 s0 gs.size j=1:=if_neg hk;rw[again_running _ hq.status,e9];exact⟨⟨_,.quit hq⟩,by rcases hq.status with e|e<;>rw[e]<;>simp⟩
  ·have e9:S9 s0 gs.size j=9:=if_pos hk;rw[e9];rcases (hw.nine ok).2 with e | ⟨_,C,g,rfl,uk,hC⟩|⟨i,C,v,g,hx,_⟩
   ·rw[again_running _ (.inl e)];exact⟨⟨r,hw.rely fun _=>l9⟩,by rw[e];simp⟩
   ·rw[again_recv_closed qf,(hw.nine ok).1];exact⟨⟨r.succ,.gS (fun w1 h1=>uk w1 ((l9.ro hC).trans h1)) hC⟩,by simp⟩
   ·cases hx
 have gM:=gL.core.own (Sit':=fun j d Oj x W=>(j=0→CT X Anch Fin .kd d (.nat n) x W)∧(j≠0→(∃r,WS X (S9 s0 gs.size j) none r d Oj x W)∧x.status≠.blocked)) jW (.inl rfl) hf (fun j x hj hx hs hr=>⟨fun e=>absurd e hj,fun e=>by
  rw[z0]
  exact gS j x e hx hs hr⟩) ⟨fun _=>by
   rw[(gL.core.eg 0 a jW).1 rfl,gN];exact .kd hgo,fun e=>absurd rfl e⟩ a.frame.fn a.frame.place
 rw[vS]at gM;have gR:=runT_crowd_go (P:=X.P) (sl:=iy) (i:=0) jW (show stepG X.P (0 == 0) a (W1.at d)=_ from aw);refine .step (aX.trans gR) ?_;generalize Jo:(gs'.map (Go.Conc.woken X.P a a' W')).setIfInBounds 0 a'=lQ at gM ⊢;have tP:lQ.size=gs.size:=by rw[←Jo];simp[hsz]
 have key:∀j,∃r,∀x,lQ[j]?=some x→j≠0→WS X (S9 s0 gs.size j) none r (Deaf (t'++MemOp.ofEvents 0 a.frame.fn a.frame.place es) j) (O j) x W':=fun j=>by
  cases hj:lQ[j]? with
  | none=>exact⟨.leaf,fun x hx=>by cases hx⟩
  | some y =>
   by_cases kx:j=0
   ·exact⟨.leaf,fun _ _ hn=>absurd kx hn⟩
   ·obtain⟨r,hw⟩:=((gM.eg j y hj).2 kx).1;exact⟨r,fun x hx _=>by cases hx;exact hw⟩
 refine zvc (K:=fun j=>s0≤j∧j<gs.size) (n:=gs.size) ok hA IF ⟨eX.2,cj⟩ (fun S hS=>Nat.lt_of_le_of_lt (Tl gs.size fun j hj=>hS j fun x=>by omega) fi) _ (fun j=>(key j).choose) (.nat n) .kd (S9 s0 gs.size) lQ W' _ O iy rfl tP zo rfl
  ⟨⟨fun j x hj=>⟨(gM.eg j x hj).1,(key j).choose_spec x hj⟩,gM.above,gM.tok,gM.apart⟩,fun j hj=>⟨by omega,by rw[tP];exact hj.2⟩,⟨m,m,tm,qf⟩,⟨_,_,(pJ X.Wg (Ne.symm cj)).trans (by rw[he];exact gx),?_⟩,fun j hj h6=>?_,fun j hj=>if_neg hj,fun j x hj hx=>((gM.eg j x hx).2 hj).2,?_⟩
 ·have hv:Vc lQ.size (S9 s0 gs.size)=gs.size-s0:=by rw[tP];exact UO s0 gs.size gs.size (Nat.le_refl _)
  have:=Md.opn (N:=lQ.size) (S:=S9 s0 gs.size) (tag:=.kd) trivial (fun i _=>by unfold S9;split<;>simp) fun vs e=>by cases e
  rw[hv]at this;exact this
 ·have:S9 s0 gs.size j=9:=if_pos hj;omega
 ·rw[←uv,he];exact G3 (fun x=>ap.sh 0 _ x eX.1) (fun x=>ap.m9 _ x eX.1) e m m true
end
open Go.ConcN (upd upd_same upd_ne WgLive)
def zz9 (P:Program)(j d:Nat)(_:Nat→Prop)(x:Goroutine)(_:World):Prop:=(j=0→d=0)∧(j≠0→∃q,QuitsD P q d x)
structure Calm (P:Program)(Z:Nat→Prop)(aA:Loc→Prop)(gs:Array Goroutine)(W:World)(t:Trace)(O:Nat→Prop):Prop where
 core:Core aA (fun _=>False) Z (fun _=>False) (zz9 P) gs W t (fun g b=>g=0∧O b)
@[reducible] def onLeaps:Leaps:=⟨fun P main Z O g W T=>main=true→∀(aA:Loc→Prop) (gs:Array Goroutine) (t:Trace) (sl:Option (Nat × Nat)),Calm P Z aA gs W t O→gs[0]?=some g →
 Comes P (crowd gs W sl) t fun m' t'=>∃iC gs' W' eI O' g',m'=crowd gs' W' eI∧Calm P Z iC gs' W' t' O'∧gs'[0]?=some g'∧T O' g' W'∧∀b,Z b→W'.heap[b]?=W.heap[b]?⟩
def X0 (P:Program)(Z:Nat→Prop):dT:={ P,Z,ct:=0,cb:=0,zt:=undef,zb:=undef,zr:=undef,ty:=0,Wg:=0,many:=0,AR:=fun _ _ _=>False,AS:=fun _ _ _ _ _=>False,Fl:=fun _ _ _ _=>False }
section
variable [Payload] {P:Program}{Z:Nat→Prop}{aA:Loc→Prop}{gs:Array Goroutine}{W W':World}{t:Trace}{O O':Nat→Prop}{sl:Option (Nat × Nat)}{g g':Goroutine}{es:Array Event}
theorem Nl:(X0 P Z).Ok:=⟨fun _ _ _ h=>h.elim,fun _ _ _ _ _ h=>h.elim⟩
theorem Calm.idle (h:Calm P Z aA gs W t O):Idle (X0 P Z) 0 aA (fun _=>False) (fun _=>False) gs W t (fun g b=>g=0∧O b) :=
 ⟨⟨fun j x hj=>⟨(h.core.eg j x hj).1,fun h0=>let ⟨q,hq⟩:=(h.core.eg j x hj).2 h0;⟨_,1,.quit hq,.inl ⟨rfl,id⟩⟩⟩,h.core.above,h.core.tok,h.core.apart⟩,fun⟨_,h⟩=>h.elim,fun⟨_,h⟩=>h.elim,fun _ h=>h.elim⟩
theorem PT (hP:X.P=P)(hZ:X.Z=Z)(h:Idle X 0 aA (fun _=>False) (fun _=>False) gs W t (fun g b=>g=0∧O b)):Calm P Z aA gs W t O:=by
 subst hP hZ;refine⟨⟨fun j x hj=>⟨(h.core.eg j x hj).1,fun h0=>?_⟩,h.core.above,h.core.tok,h.core.apart⟩⟩;obtain⟨r,st,hw,hc⟩:=(h.core.eg j x hj).2 h0;rcases hc with⟨rfl,_⟩|⟨_,hk⟩
 ·exact hw.quits
 ·exact hk.elim
theorem zyR {Stop:(Nat→Prop)→Goroutine→World→Prop}(h:@Gap.Way onLeaps P true Z Stop O g W):∀(aA:Loc→Prop) (gs:Array Goroutine) (t:Trace) (sl:Option (Nat × Nat)),Calm P Z aA gs W t O→gs[0]?=some g →
  Comes P (crowd gs W sl) t fun m' t'=>∃iC gs' W' eI O' g',m'=crowd gs' W' eI∧Calm P Z iC gs' W' t' O'∧gs'[0]?=some g'∧(∀W1,cv O' Z W' W1→Stop O' g' W1)∧∀b,Z b→W'.heap[b]?=W.heap[b]?:=by
 induction h with
 | @stop O g W h=>exact fun aA gs t sl hC h0=>.done ⟨aA,gs,W,sl,O,g,rfl,hC,h0,h,fun _ _=>rfl⟩
 | @me O g W T hs hl _ ih =>
  intro aA gs t sl hC h0;refine(hl W (.refl W) rfl aA gs t sl hC h0).bind fun m' t' ⟨iC,gs',W',eI,O',g',hm,VP,jW,hT,hz⟩=>?_
  subst hm;exact(ih O' g' W' hT iC gs' t' eI VP jW).mono fun m2 t2 ⟨sB,lQ,W2,m3,O2,g2,e1,e2,e3,e4,e5⟩=>⟨sB,lQ,W2,m3,O2,g2,e1,e2,e3,e4,fun b hb=>(e5 b hb).trans (hz b hb)⟩
 | @step O g W hs hg hk ih =>
  intro aA gs t sl hC h0;refine(take (X:=X0 P Z) (sl:=sl) (d1:=0) (Q:=fun a' W' es O'=>∃e,stepG P true g (W.at e)=.go a' W' es∧O'=fQ O (W.at e) W') Nl hs hC.idle h0 fun e=>?_).bind fun m' t' ⟨gs',W',eI,O',a',es,hm,gL,jW,hsz,e,aX,hO⟩=>?_
  ·obtain⟨a',W',es,aX,iP⟩:=hg (W.at e) (si W e);refine⟨a',W',es,fQ O (W.at e) W',aX,?_,vO iP.evs 0,fun⟨_,h⟩=>h.elim,fun⟨_,h⟩=>h.elim,e,aX,rfl⟩;have:=gr.of (g:=0) (Sh:=fun _=>False) iP (fun b hb=>hC.core.apart.lo 0 b ⟨rfl,hb⟩);have e0:(fun b=>(0:Nat)=0∧O b)=O:=by funext b;simp
   show gr _ _ (fun b=>(0:Nat)=0∧O b) _ _ _ _ _;rw[e0];exact this
  ·subst hm
   have e0:upd (fun g b=>g=0∧O b) 0 O'=fun g b=>g=0∧O' b:=by
    funext x b
    by_cases hx:x=0
    ·subst hx;rw[upd_same];simp
    ·rw[upd_ne _ _ hx];simp[hx]
   rw[e0]at gL;subst hO;have iP:=hg (W.at e) (si W e);obtain⟨a2,W2,Fu,km,iP⟩:=iP;rw[aX]at km;injection km with e1 e2 e3
   subst e1 e2 e3;refine(ih (W.at e) a' W' es (si W e) aX aA gs' t' eI (PT rfl rfl gL) jW).mono fun m2 t2 ⟨sB,lQ,W2,m3,O2,g2,e1,e2,e3,e4,e5⟩=>⟨sB,lQ,W2,m3,O2,g2,e1,e2,e3,e4,fun b hb=>(e5 b hb).trans ?_⟩
   exact iP.keep b (hC.core.apart.mf b hb) fun h=>hC.core.apart.shr 0 b ⟨rfl,h⟩ hb
def HC (P:Program)(Z:Nat→Prop)(uV:Value→World→Prop)(O:Nat→Prop)(g:Goroutine)(W:World):Prop:=g.status=.running∧∃v W' es,stepG P true g W=.ended (.done v) W' es∧iW O Z W W' es∧uV v W'
theorem zxG {uV:Value→World→Prop}(hC:Calm P Z aA gs W t O)(h0:gs[0]?=some g)(h:∀W1,cv O Z W W1→HC P Z uV O g W1) :
  ∃N last o w' t',runNT P (N+1) (crowd gs W sl) t=(.ended o w',t')∧runN P N (crowd gs W sl)=.next last∧step P last=.ended o w'∧Go.Conc.Good P uV last o w' t':=by
 obtain⟨N,m',t',cm,gs',W1,oC,iy,d,hm,aX,gL,jW,hsz,e,he⟩:=pick (X:=X0 P Z) (sl:=sl) Nl hC.idle h0 (h W (.refl W)).1;subst hm;replace cm:runNT P N (crowd gs W sl) t=(.next (crowd gs' W1 oC),t'):=cm;obtain⟨_,v,W',es,aw,iP,Dp⟩:=h (W1.at d) (by rw[he];exact si W e);have gR:=Go.ConcN.runT_crowd_ended (P:=P) (sl:=iy) (i:=0) jW (show stepG P (0 == 0) g (W1.at d)=_ from aw);have kj:stepT P (crowd gs' W1 oC)=(.ended (.done v) W',MemOp.ofEvents 0 g.frame.fn g.frame.place es):=aX.trans gR
 have wV:runNT P (N+1) (crowd gs W sl) t=(.ended (.done v) W',t'++MemOp.ofEvents 0 g.frame.fn g.frame.place es):=by
  rw[runNT_add,cm];simp only[runNT,kj]
 refine⟨N,crowd gs' W1 oC,.done v,W',_,wV,?_,?_,v,rfl,Dp,?_⟩
 ·rw[←runNT_fst P _ _ t,cm]
 ·have:=runNT_fst P (N+1) (crowd gs W sl) t;rw[wV,runN_add,←runNT_fst P _ _ t,cm]at this;simp only[runN]at this;revert this;cases step P (crowd gs' W1 oC)<;>simp +contextual [eq_comm]
 ·have y9:∀b,(fun b=>(0:Nat)=0∧O b) b→b<(W1.at d).heap.size:=fun b hb=>gL.core.apart.lo 0 b hb
  have e0:(fun b=>(0:Nat)=0∧O b)=O:=by funext b;simp
  have hf:gr (fun _=>False) Z O (fQ O (W1.at d) W') 0 (W1.at d) W' es:=gr.of iP (fun b hb=>y9 b ⟨rfl,hb⟩);have hu:∀op∈MemOp.ofEvents 0 g.frame.fn g.frame.place es,op.g=0:=fun op cN=>by obtain⟨e,_,rfl⟩:=Go.Conc.mem_ofEvents cN;rfl
  have DI:=gL.core.tok.step (u:=MemOp.ofEvents 0 g.frame.fn g.frame.place es) (O':=fun x b=>if x=0 then fQ O (W1.at d) W' b else x=0∧O b) gL.core.apart (.inl rfl) hf.size (fun x b hx=>by simp[hx]) (fun b hb=>by
   simp only[if_true]at hb;have:=hf.own b hb;exact⟨this.1.imp (fun x=>⟨rfl,x⟩) id,this.2⟩) fun op cN=>by
   obtain⟨e,he,rfl⟩:=Go.Conc.mem_ofEvents cN;exact⟨rfl,fun b hb=>by simp only[if_true];exact(hf.evs e he).1 b hb,(hf.evs e he).2⟩
  refine⟨DI.clean,fun i x hi hx hc=>DI.over i x hi hx id hc,⟨fun x hx=>?_,rfl⟩,fun i x hi dz=>?_⟩
  ·rw[List.mem_iff_getElem?]at hx;obtain⟨j,hj⟩:=hx;rw[List.getElem?_drop]at hj;have C1:gs'[1+j]?=some x:=by simpa[crowd]using hj
   obtain⟨r,st,hw,hc⟩:=(gL.core.eg (1+j) x C1).2 zo;rcases hc with⟨rfl,_⟩|⟨_,hk⟩
   ·obtain⟨q,hq⟩:=hw.quits;exact⟨q,hq.leaves⟩
   ·exact hk.elim
  ·obtain⟨r,st,hw,hc⟩:=(gL.core.eg i x hi).2 dz;rcases hc with⟨rfl,_⟩|⟨_,hk⟩
   ·obtain⟨q,hq⟩:=hw.quits;have hd:Deaf (t'++MemOp.ofEvents 0 g.frame.fn g.frame.place es) i=Deaf t' i:=Deaf_other t' (Ne.symm dz) _ hu;refine⟨q,?_⟩;show x.endsWith P _ q (Deaf _ i)=_;rw[hd];exact hq.hears _
   ·exact hk.elim
end
section
variable [Payload] {X:dT}{Z:Nat→Prop}{Sh:Nat→Prop}{aA:Loc→Prop}{gs:Array Goroutine}{W W':World}{t:Trace}{O O':Nat→Prop}
theorem Z7 (hZ:∀b,X.Z b↔Z b∨(O b∧¬Sh b))(eX:∀b,Sh b→O b)(h:Calm X.P Z aA gs W t O):Idle X 0 aA Sh (fun _=>False) gs W t (fun _ _=>False):=by
 have ap:=h.core.apart
 refine⟨⟨fun j x hj=>⟨(h.core.eg j x hj).1,fun h0=>let ⟨q,hq⟩:=(h.core.eg j x hj).2 h0;⟨_,1,.quit hq,.inl ⟨rfl,id⟩⟩⟩,h.core.above,
  h.core.tok.share (fun _ h=>h) (Nat.le_refl _) (fun b hb=>.inr (.inr ⟨rfl,eX b hb⟩)) (fun b hb=>((hZ b).1 hb).imp id fun x=>⟨rfl,x.1⟩) (fun _ _ h=>h.elim) fun _=>Iff.rfl,
  ⟨fun _ _ _ _ h=>h.elim,fun _ _ h=>h.elim,fun _ _ h=>h.elim,fun b hb hs=>?_,fun _ _ h=>h.elim,fun b hb=>?_,fun b hb=>ap.lo 0 b ⟨rfl,eX b hb⟩⟩⟩,fun⟨_,h⟩=>h.elim,fun⟨_,h⟩=>h.elim,fun _ h=>h.elim⟩
 ·rcases (hZ b).1 hb with h1|h1
  ·exact ap.shr 0 b ⟨rfl,eX b hs⟩ h1
  ·exact h1.2 hs
 ·rcases (hZ b).1 hb with h1|h1
  ·exact ap.mf b h1
  ·exact ap.lo 0 b ⟨rfl,h1.1⟩
omit [Payload] in
theorem fD.mem {l:Loc}{b:Nat}(h:fD l b):l.isMemory=true:=by
 unfold fD at h;split at h
 ·rfl
 ·rfl
 ·exact h.elim
theorem zqG (hZ:∀b,Z b→X.Z b)(h:Idle X 0 aA (fun _=>False) (fun _=>False) gs W t (fun g b=>g=0∧O b)):Calm X.P Z aA gs W t (fun b=>O b∨(X.Z b∧¬Z b)):=by
 have ap:=h.core.apart;have tk:=h.core.tok
 refine⟨⟨fun j x hj=>⟨(h.core.eg j x hj).1,fun h0=>?_⟩,h.core.above,⟨tk.clean,fun g b hg i a ha hl=>?_,fun g hg b hz i a ha hl hw=>tk.shr g hg b (hZ b hz) i a ha hl hw,fun _ h=>h.elim,tk.low,tk.known,tk.over,tk.norel,fun l b hl hb=>?_⟩,
  ⟨fun g k b rT hg hk=>?_,fun g b hg hz=>?_,fun _ _ _ h=>h,fun _ _ h=>h,fun g b hg=>?_,fun b hz=>ap.mf b (hZ b hz),fun _ h=>h.elim⟩⟩⟩
 ·obtain⟨r,st,hw,hc⟩:=(h.core.eg j x hj).2 h0;rcases hc with⟨rfl,_⟩|⟨_,hk⟩
  ·exact hw.quits
  ·exact hk.elim
 ·obtain⟨rfl,hb | ⟨hb,_⟩⟩:=hg
  ·exact tk.own 0 b ⟨rfl,hb⟩ i a ha hl
  ·rcases tk.known i a ha hl.mem with h1 | ⟨_,h1,_⟩|⟨h1,_⟩
   ·exact h1
   ·exact h1.elim
   ·exact absurd hb (tk.off _ b h1 hl).2.1
 ·obtain⟨h1,h2,h3⟩:=tk.off l b hl hb;exact⟨fun g hg=>hg.2.elim (fun x=>h1 0 ⟨rfl,x⟩) fun x=>h2 x.1,fun x=>h2 (hZ b x),h3⟩
 ·exact rT (hg.1.trans hk.1.symm)
 ·obtain⟨rfl,hb | ⟨_,hb⟩⟩:=hg
  ·exact ap.shr 0 b ⟨rfl,hb⟩ (hZ b hz)
  ·exact hb hz
 ·obtain⟨rfl,hb | ⟨hb,_⟩⟩:=hg
  ·exact ap.lo 0 b ⟨rfl,hb⟩
  ·exact ap.mf b hb
end
open Go.RowKit Go.Conc.Lib Go.ConcR.Gen Go.ConcN.Gen
def Fa (Wg:Nat)(e:Event):Prop:=uc Wg e∨∃x ww,e=mk (if ww=true then .write x else .read x)∧x.block=Wg
theorem zwd {O:Nat→Prop}  {es:Array Event}(y9:∀b,O b→b<W.heap.size)(eX:Sh X.Wg)(ha:Aside X.Wg W W')(pB:∀e∈es,Fa X.Wg e):gr Sh X.Z O O 0 W W' es:=by
 refine⟨ha.os,ha.tape,ha.output,by rw[ha.size];exact Nat.le_refl _,fun b _ _ hb=>ha.block b fun e=>hb (e ▸ eX),fun b hb=>⟨.inl hb,by rw[ha.size];exact y9 b hb⟩,fun e he=>?_⟩;rcases pB e he with h1 | ⟨x,w,rfl,hb⟩
 ·exact(uL (W:=W) (W':=W) (es:=#[e]) (j:=0) y9 eX ⟨rfl,rfl,rfl,rfl,fun _ _=>rfl⟩ (by simpa using h1)).evs e zi
 ·refine⟨fun b dk=>?_,?_⟩
  ·cases w<;>simp[mk,MemAct.ofEvent,MemAct.touch?]at dk;all_goals (subst dk;exact⟨X.Wg,hb,.inr (.inr ⟨eX,by simp,fun _=>rfl⟩)⟩)
  ·cases w<;>simp[mk,MemAct.ofEvent]
inductive dQ (P:Program) (ty:TypeId) (Wg:Nat) (Fin:Nat→Goroutine→World→Prop):Nat→Goroutine→World→Prop
 | fin {d:Nat} {g:Goroutine} {W:World}:(∀e,Fin d g (W.at e))→dQ P ty Wg Fin d g W
 | step {d:Nat} {g:Goroutine} {W:World}:g.status=.running →
   (∀e,∃g' W' es,stepG P true g (W.at e)=.go g' W' es∧Aside Wg (W.at e) W'∧(WgLive ty Wg (W.at e)→WgLive ty Wg W')∧∀x∈es,Fa Wg x) →
   (∀e g' W' es,stepG P true g (W.at e)=.go g' W' es→dQ P ty Wg Fin (deafBehind d es) g' W')→dQ P ty Wg Fin d g W
section
variable [Payload] {P:Program}{ty:TypeId}{Wg:Nat}{Fin:Nat→Goroutine→World→Prop}{d d':Nat}{g g':Goroutine}{w w1 W:World}{es:Array Event}
theorem dQ.f9:∀(m:Nat) (g:Goroutine) (w:World),Goes P true AtRel DC0 (dQ P ty Wg Fin d) m g w→dQ P ty Wg Fin d g w
 | 0,g,w,h=>h w ⟨w.drawn,rfl⟩
 | m+1,g,w,h=>by
  rcases h with h | ⟨hs,h⟩
  ·exact h w ⟨w.drawn,rfl⟩
  ·refine .step hs (fun e=>?_) fun e g' W' es aX=>?_
   ·obtain⟨g',w',es,aX,⟨rfl,rfl⟩,_⟩:=goes_elim (h (w.at e) ⟨e,rfl⟩);exact⟨g',_,_,aX,⟨rfl,rfl,rfl,rfl,fun _ _=>rfl⟩,id,by simp⟩
   ·obtain⟨g2,w2,Fu,km,⟨rfl,rfl⟩,hg⟩:=goes_elim (h (w.at e) ⟨e,rfl⟩);rw[aX]at km;injection km with e1 e2 e3
    subst e1 e2 e3;exact f9 m _ _ hg
theorem Ln (m:Mark)(ht:(MemAct.mark m).touch?=none)(hr:∀a,m≠.release a):Fa Wg (mk m):=.inl (.inr ⟨m,rfl,ht,hr⟩)
theorem dQ.mono {B9:Nat→Goroutine→World→Prop}(h:dQ P ty Wg Fin d g W)(hf:∀d g w,Fin d g w→B9 d g w):dQ P ty Wg B9 d g W:=by
 induction h with
 | fin h=>exact .fin fun e=>hf _ _ _ (h e)
 | step hs h _ ih=>exact .step hs h ih
theorem dQ.next {F:World→World}(hs:g.status=.running)(h:∀e,stepG P true g (W.at e)=.go g' (F (W.at e)) es∧Aside Wg (W.at e) (F (W.at e))∧(WgLive ty Wg (W.at e)→WgLive ty Wg (F (W.at e))))(pB:∀x∈es,Fa Wg x)(hd:deafBehind d es=d')(hk:∀e,dQ P ty Wg Fin d' g' (F (W.at e))):dQ P ty Wg Fin d g W :=
 .step hs (fun e=>⟨_,_,_,(h e).1,(h e).2.1,(h e).2.2,pB⟩) fun e g2 W2 Fu aX=>by
  rw[(h e).1]at aX;injection aX with e1 e2 e3
  subst e1 e2 e3;rw[hd];exact hk e
theorem dQ.mark (m:Mark)(hs:g.status=.running)(h:∀e,stepG P true g (W.at e)=.go g' (W.at e) #[mk m])(hm:Fa Wg (mk m))(hd:deafBehind d #[mk m]=d')(hk:∀e,dQ P ty Wg Fin d' g' (W.at e)):dQ P ty Wg Fin d g W :=
 .next (F:=id) hs (fun e=>⟨h e,⟨rfl,rfl,rfl,rfl,fun _ _=>rfl⟩,id⟩) (fun x hx=>by simp at hx;subst hx;exact hm) hd hk
omit [Payload] in
theorem Qk {a b c:World}(h:Aside Wg a b)(k:Aside Wg b c):Aside Wg a c:=⟨k.tape.trans h.tape,k.os.trans h.os,k.output.trans h.output,k.size.trans h.size,fun x hx=>(k.block x hx).trans (h.block x hx)⟩
omit [Payload] in
theorem zsz (e:Nat):Aside Wg W (W.at e):=⟨rfl,rfl,rfl,rfl,fun _ _=>rfl⟩
theorem ZP (ok:X.Ok)(eX:Sh X.Wg)(cj:X.ct≠X.Wg){a:Goroutine}(h:dQ X.P X.ty X.Wg Fin d a W):∀(gs:Array Goroutine) (t:Trace) (sl:Option (Nat × Nat)),Idle X d aA Sh K gs W t O→gs[0]?=some a →
  Comes X.P (crowd gs W sl) t fun m' t'=>∃gs' W' eI a' d',m'=crowd gs' W' eI∧Idle X d' aA Sh K gs' W' t' O∧gs'[0]?=some a'∧gs'.size=gs.size∧Aside X.Wg W W'∧∀e,Fin d' a' (W'.at e):=by
 induction h with
 | @fin d a W h=>exact fun gs t sl hI h0=>.done ⟨gs,W,sl,a,d,rfl,hI,h0,rfl,⟨rfl,rfl,rfl,rfl,fun _ _=>rfl⟩,h⟩
 | @step d a W hs aX hk ih =>
  intro gs t sl hI h0;refine(pick (sl:=sl) ok hI h0 hs).bind fun m' t' ⟨gs',W1,oC,iy,dr,hm,JY,gL,jW,hsz,e,he⟩=>?_
  subst hm;obtain⟨a',W',es,aw,has,hl,hev⟩:=aX e;have ih:=ih e a' W' es aw;rw[←he]at aw has hl;have gR:=runT_crowd_go (P:=X.P) (sl:=iy) (i:=0) jW (show stepG X.P (0 == 0) a (W1.at dr)=_ from aw)
  have uo:=gL.own (a':=a') ok jW (zwd (fun b hb=>gL.core.apart.lo 0 b hb) eX has hev) rfl (fun _=>hl) (fun hk=>by
   obtain⟨m,tm,x⟩:=gL.chan hk;exact⟨m,tm,(has.block _ cj).trans x⟩) a.frame.fn a.frame.place
  rw[vS]at uo;have aQ:0<gs'.size:=(Array.getElem?_eq_some_iff.1 jW).1;refine .step (JY.trans gR) ((ih _ _ iy uo (by simp[aQ])).mono fun m2 t2 ⟨lQ,W2,m3,a2,d2,x1,x2,x3,x4,x5,x6⟩=>⟨lQ,W2,m3,a2,d2,x1,x2,x3,x4.trans (by simpa using hsz),?_,x6⟩);rw[he]at has;exact Qk (Qk (zsz e) has) x5
end
open Go.ConcN (upd upd_same upd_ne WgLive st_flag st_waiters)
section
variable [Payload] {L:WgLink}
omit [Payload] in
theorem aJ (h:WgAt ty Wg w st sm)(r:AtRel w w1):WgAt ty Wg w1 st sm:=by
 obtain⟨d,rfl⟩:=r;exact h
set_option maxRecDepth 100000 in
set_option maxHeartbeats 8000000 in
theorem zx0 (H:WgLib P L){Wg v:Nat}(hv:v<2147483647){b₀:Frame}{a₀:Act}{ops₀:Array Oper}{i₀:Nat}{rest₀:List Nat}{k₀:List Item}{cs:List Frame}(w:World)(hF:WgAt L.tWg Wg w (v*KK) 0) :
  dQ P L.tWg Wg (fun d g w'=>d=0∧g=G (b₀.at (a₀.put ((ops₀[i₀]?).bind (·.dst)) (.tuple #[])) (.inRegion ops₀ rest₀::k₀)) cs∧WgAt L.tWg Wg w' ((v+1:Nat)*KK) 0) 0
   (G (Frame.enter P L.add #[.pointer (some ⟨Wg,0,none⟩),.int .i64 1] .normal) (b₀.at a₀ (.inRegion ops₀ (i₀::rest₀)::k₀)::cs)) w:=by
 lib_facts
 rw[enter_at (c:=body_add L) _ H.f_add rfl];simp only[body_add,addFn,Option.getD_some]
 walk_nrm
 refine dQ.f9 150 _ _ ?_
 u_c stepG_seq aJ hF
 u_cond true aJ hF
 u_c stepG_seq aJ hF
 u_c stepG_seq aJ hF
 u_reg aJ hF
 u_op aJ hF
 u_op aJ hF
 u_c stepG_region_end aJ hF
 u_cond false aJ hF
 u_c stepG_skip aJ hF
 u_c stepG_seq aJ hF
 u_reg aJ hF
 refine Goes.stop (fun w₁ h₁=>?_);replace hF:=aJ hF h₁;refine dQ.mark (d':=1) .disable rfl (fun e=>stepG_mark0 .disable zi rfl rfl (by k_ne) rfl H.f_disable (x_disable_n L) (x_disable_b L) (x_disable_x L) (x_disable_f L)) (Ln _ rfl zi) rfl (fun e=>?_);replace hF:=aJ hF ⟨e,rfl⟩;revert hF;generalize w₁.at e=w;intro hF;refine dQ.f9 150 _ _ ?_
 walk_nrm
 u_c stepG_region_end aJ hF
 u_reg aJ hF
 u_defer aJ hF
 u_c stepG_region_end aJ hF
 u_c stepG_seq aJ hF
 u_reg aJ hF
 u_op aJ hF
 u_c stepG_region_end aJ hF
 u_c stepG_seq aJ hF
 u_c stepG_seq aJ hF
 u_reg aJ hF
 u_bub aJ hF
 u_c stepG_region_end aJ hF
 u_cond false aJ hF
 u_c stepG_skip aJ hF
 u_c stepG_seq aJ hF
 u_reg aJ hF
 u_op aJ hF
 u_op aJ hF
 u_op aJ hF
 u_op aJ hF
 u_op aJ hF
 u_op aJ hF
 u_call H.f_uAdd (nm_uAdd L) uAddFn aJ hF
 u_c stepG_seq aJ hF
 u_reg aJ hF
 u_op aJ hF
 u_c stepG_region_end aJ hF
 u_c stepG_seq aJ hF
 u_reg aJ hF
 u_op aJ hF
 u_op aJ hF
 u_op aJ hF
 u_op aJ hF
 refine Goes.stop (fun w₁ h₁=>?_);replace hF:=aJ hF h₁;rcases Nat.eq_zero_or_pos v with rfl|Oz
 ·replace hF:WgAt L.tWg Wg w₁ 0 0:=by simpa using hF
  have e0:IntKind.u64.wrap (0+4294967296)=KK:=by decide
  refine dQ.next (d':=1) (F:=fun w=>w.setCell (stA Wg) (.int .u64 KK)) rfl (fun e=>⟨(stepG_add_atomic rfl rfl (by k_ne) rfl H.f_addU64 (x_addU64_n L) (x_addU64_b L) (x_addU64_x L) .u64 (x_addU64_f L) rfl rfl (aJ hF ⟨e,rfl⟩).cellSt ((aJ hF ⟨e,rfl⟩).thaw 0)).trans (by rw[e0]),aside_setCell _ (stA Wg) _,fun _=>⟨_,_,(aJ hF ⟨e,rfl⟩).setSt _⟩⟩) (fun x hx=>by
   simp at hx;rcases hx with rfl|rfl<;>exact .inl (.inl ⟨stA Wg,_,rfl,rfl⟩)) rfl (fun e=>?_)
  replace hF:=(aJ hF ⟨e,rfl⟩).setSt KK;revert hF;generalize (w₁.at e).setCell (stA Wg) (.int .u64 KK)=w;intro hF;refine dQ.f9 150 _ _ ?_;simp only[KK]at hF ⊢
  walk_nrm
  u_op aJ hF
  u_c stepG_region_end aJ hF
  u_c stepG_ret' aJ hF
  u_leave1 H.f_uAdd aJ hF
  u_op aJ hF
  u_c stepG_region_end aJ hF
  u_c stepG_seq aJ hF
  u_c stepG_seq aJ hF
  u_reg aJ hF
  u_op aJ hF
  u_op aJ hF
  u_op aJ hF
  u_op aJ hF
  u_skip aJ hF
  u_skip aJ hF
  u_op aJ hF
  u_c stepG_region_end aJ hF
  u_cond false aJ hF
  u_c stepG_skip aJ hF
  u_c stepG_seq aJ hF
  u_reg aJ hF
  u_op aJ hF
  u_op aJ hF
  u_op aJ hF
  u_op aJ hF
  u_c stepG_region_end aJ hF
  u_c stepG_seq aJ hF
  u_reg aJ hF
  u_op aJ hF
  u_op aJ hF
  u_op aJ hF
  u_op aJ hF
  u_c stepG_region_end aJ hF
  u_c stepG_seq aJ hF
  u_c stepG_seq aJ hF
  u_reg aJ hF
  u_op aJ hF
  u_op aJ hF
  u_op aJ hF
  u_op aJ hF
  u_op aJ hF
  u_op aJ hF
  u_op aJ hF
  u_op aJ hF
  u_op aJ hF
  u_op aJ hF
  u_c stepG_region_end aJ hF
  u_cond true aJ hF
  u_reg aJ hF
  u_op aJ hF
  u_op aJ hF
  u_op aJ hF
  u_conv H.underlying_tPU32 H.room_tU32 (show World.cell? _ ⟨Wg,1,none⟩=some _ from hF.cellSm) (aJ) hF
  refine Goes.stop (fun w₁ h₁=>?_);replace hF:=aJ hF h₁;refine dQ.mark (d':=1) (.read ⟨Wg,1,none⟩) rfl (fun e=>stepG_markAt .read zi rfl rfl (by k_ne) rfl H.f_raceRead (x_raceRead_n L) (x_raceRead_b L) (x_raceRead_x L) (x_raceRead_f L) (ad:=⟨Wg,1,none⟩) (by simp[Act.eval])) (.inr ⟨⟨Wg,1,none⟩,false,rfl,rfl⟩) rfl (fun e=>?_);replace hF:=aJ hF ⟨e,rfl⟩;revert hF;generalize w₁.at e=w;intro hF;refine dQ.f9 150 _ _ ?_
  walk_nrm
  u_c stepG_region_end aJ hF
  u_c stepG_seq aJ hF
  u_c stepG_seq aJ hF
  u_reg aJ hF
  u_op aJ hF
  u_op aJ hF
  u_c stepG_region_end aJ hF
  u_cond false aJ hF
  u_c stepG_skip aJ hF
  u_c stepG_seq aJ hF
  u_c stepG_seq aJ hF
  u_reg aJ hF
  u_op aJ hF
  u_op aJ hF
  u_op aJ hF
  u_skip aJ hF
  u_skip aJ hF
  u_op aJ hF
  u_op aJ hF
  u_skip aJ hF
  u_skip aJ hF
  u_skip aJ hF
  u_skip aJ hF
  u_op aJ hF
  u_c stepG_region_end aJ hF
  u_cond false aJ hF
  u_c stepG_skip aJ hF
  u_c stepG_seq aJ hF
  u_c stepG_seq aJ hF
  u_reg aJ hF
  u_op aJ hF
  u_op aJ hF
  u_op aJ hF
  u_skip aJ hF
  u_skip aJ hF
  u_op aJ hF
  u_c stepG_region_end aJ hF
  u_cond true aJ hF
  u_c stepG_ret' aJ hF
  refine Goes.stop (fun w₁ h₁=>?_);replace hF:=aJ hF h₁;refine dQ.mark (d':=0) .enable rfl (fun e=>stepG_unwind_entry (v:=.tuple #[]) (evs:=#[mk .enable]) rfl H.f_enable (x_enable_n L) (x_enable_b L) (x_enable_x L) (x_enable_f L) (by simp[Extern.Race.none_]) (by simp[mk]) (by simp[mk])) (Ln _ rfl zi) rfl (fun e=>?_);replace hF:=aJ hF ⟨e,rfl⟩;refine dQ.f9 150 _ _ ?_
  u_leave0 H.f_add (aJ) hF
  refine Goes.stop (fun w₁ h₁=>.fin fun e=>⟨rfl,rfl,?_⟩);exact aJ (aJ hF h₁) ⟨e,rfl⟩
 ·obtain⟨V,hV⟩:∃V:Int,V=(v:Int)+1:=⟨_,rfl⟩;obtain⟨S,hS⟩:∃S:Int,S=V*KK:=⟨_,rfl⟩;have eS:IntKind.u64.wrap ((v:Int)*KK+4294967296)=S:=by rw[IntKind.wrap_u64,hS,hV];simp only[KK];omega
  have NZ:((v+1:Nat):Int)*KK=S:=by rw[hS,hV];simp
  rw[NZ];have a1:S / 4294967296=V:=by rw[hS];simp only[KK];omega
  have b1:bits .and .u64 S 2147483648=0:=by rw[hS,hV];have:=st_flag (v+1) 0 zo zo;simpa[KK]using this
  have b2:bits .and .u64 S 2147483647=0:=by rw[hS,hV];have:=st_waiters (v+1) 0 zo zo;simpa[KK]using this
  have c1:IntKind.i32.wrap V=V:=by rw[IntKind.wrap_i32];omega
  have hV1:1<V:=by omega
  have hV2:V<2147483648:=by omega
  have q1:(V == 1)=false:=by simp;omega
  have q2:decide (V=1)=false:=decide_eq_false zo;have q3:decide (V<0)=false:=decide_eq_false zo;have q4:decide (0<V)=true:=decide_eq_true zo;have q5:(V == 0)=false:=by simp;omega
  have q6:decide (V=0)=false:=decide_eq_false zo
  refine dQ.next (d':=1) (F:=fun w=>w.setCell (stA Wg) (.int .u64 S)) rfl (fun e=>⟨(stepG_add_atomic rfl rfl (by k_ne) rfl H.f_addU64 (x_addU64_n L) (x_addU64_b L) (x_addU64_x L) .u64 (x_addU64_f L) rfl rfl (aJ hF ⟨e,rfl⟩).cellSt ((aJ hF ⟨e,rfl⟩).thaw 0)).trans (by rw[eS]),aside_setCell _ (stA Wg) _,fun _=>⟨_,_,(aJ hF ⟨e,rfl⟩).setSt _⟩⟩) (fun x hx=>by
   simp at hx;rcases hx with rfl|rfl<;>exact .inl (.inl ⟨stA Wg,_,rfl,rfl⟩)) rfl (fun e=>?_)
  replace hF:=(aJ hF ⟨e,rfl⟩).setSt S;revert hF;generalize (w₁.at e).setCell (stA Wg) (.int .u64 S)=w;intro hF;refine dQ.f9 150 _ _ ?_;clear hS hV eS NZ
  walk_nrm
  u_op aJ hF
  u_c stepG_region_end aJ hF
  u_c stepG_ret' aJ hF
  u_leave1 H.f_uAdd aJ hF
  u_op aJ hF
  u_c stepG_region_end aJ hF
  u_c stepG_seq aJ hF
  u_c stepG_seq aJ hF
  u_reg aJ hF
  u_op aJ hF
  u_op aJ hF
  u_op aJ hF
  u_op aJ hF
  u_skip aJ hF
  u_skip aJ hF
  u_op aJ hF
  u_c stepG_region_end aJ hF
  u_cnd false aJ hF
  u_c stepG_skip aJ hF
  u_c stepG_seq aJ hF
  u_reg aJ hF
  u_op aJ hF
  u_op aJ hF
  u_op aJ hF
  u_op aJ hF
  u_c stepG_region_end aJ hF
  u_c stepG_seq aJ hF
  u_reg aJ hF
  u_op aJ hF
  u_op aJ hF
  u_op aJ hF
  u_op aJ hF
  u_c stepG_region_end aJ hF
  u_c stepG_seq aJ hF
  u_c stepG_seq aJ hF
  u_reg aJ hF
  u_op aJ hF
  u_op aJ hF
  u_op aJ hF
  u_op aJ hF
  u_op aJ hF
  u_op aJ hF
  u_op aJ hF
  u_op aJ hF
  u_op aJ hF
  u_op aJ hF
  u_c stepG_region_end aJ hF
  u_cnd false aJ hF
  u_c stepG_skip aJ hF
  u_c stepG_seq aJ hF
  u_c stepG_seq aJ hF
  u_reg aJ hF
  u_op aJ hF
  u_op aJ hF
  u_c stepG_region_end aJ hF
  u_cnd false aJ hF
  u_c stepG_skip aJ hF
  u_c stepG_seq aJ hF
  u_c stepG_seq aJ hF
  u_reg aJ hF
  u_op aJ hF
  u_op aJ hF
  u_op aJ hF
  u_skip aJ hF
  u_skip aJ hF
  u_op aJ hF
  u_op aJ hF
  u_skip aJ hF
  u_skip aJ hF
  u_skip aJ hF
  u_skip aJ hF
  u_op aJ hF
  u_c stepG_region_end aJ hF
  u_cnd false aJ hF
  u_c stepG_skip aJ hF
  u_c stepG_seq aJ hF
  u_c stepG_seq aJ hF
  u_reg aJ hF
  u_op aJ hF
  u_op aJ hF
  u_op aJ hF
  u_skip aJ hF
  u_skip aJ hF
  u_op aJ hF
  u_c stepG_region_end aJ hF
  u_cnd true aJ hF
  u_c stepG_ret' aJ hF
  refine Goes.stop (fun w₁ h₁=>?_);replace hF:=aJ hF h₁;refine dQ.mark (d':=0) .enable rfl (fun e=>stepG_unwind_entry (v:=.tuple #[]) (evs:=#[mk .enable]) rfl H.f_enable (x_enable_n L) (x_enable_b L) (x_enable_x L) (x_enable_f L) (by simp[Extern.Race.none_]) (by simp[mk]) (by simp[mk])) (Ln _ rfl zi) rfl (fun e=>?_);replace hF:=aJ hF ⟨e,rfl⟩;refine dQ.f9 150 _ _ ?_
  u_leave0 H.f_add (aJ) hF
  refine Goes.stop (fun w₁ h₁=>.fin fun e=>⟨rfl,rfl,?_⟩);exact aJ (aJ hF h₁) ⟨e,rfl⟩
end
open Go.ConcN (upd upd_same upd_ne WgLive st_flag st_waiters RW AtK1 AtD1 AtD2 AtD3 AtD4)
section
variable [Payload] {L:WgLink}
def CR (P:Program)(ty:TypeId)(Wg C:Nat)(g:Goroutine)(w:World):Prop:=g.status=.running∧∃g',stepG P false g w=.go g' w #[mk (.releaseMerge (stA Wg))]∧∃m,Goes P false (RW ty Wg C 1 0 0) DC0 (AtK1 P ty Wg C 1 0 1) m g' w
theorem aS {C:Nat}(h:WgLive ty Wg w)(r:RW ty Wg C 1 0 0 w w1):WgLive ty Wg w1:=r.live h
set_option maxRecDepth 100000 in
set_option maxHeartbeats 8000000 in
theorem zvP (H:WgLib P L){Wg C qt:Nat}{b₀:Frame}{a₀:Act}{ops₀:Array Oper}{i₀:Nat}{rest₀:List Nat}{k₀:List Item}{cs:List Frame}
  (hT:QuitsD P qt 0 (G (b₀.at (a₀.put ((ops₀[i₀]?).bind (·.dst)) (.tuple #[])) (.inRegion ops₀ rest₀::k₀)) cs)) (w:World) (hF:WgLive L.tWg Wg w) :
  Goes P false (RW L.tWg Wg C 1 0 0) DC0 (CR P L.tWg Wg C) 20 (G (Frame.enter P L.add #[.pointer (some ⟨Wg,0,none⟩),.int .i64 (-1)] .normal) (b₀.at a₀ (.inRegion ops₀ (i₀::rest₀)::k₀)::cs)) w:=by
 lib_facts
 rw[enter_at (c:=body_add L) _ H.f_add rfl];simp only[body_add,addFn,Option.getD_some]
 walk_nrm
 u_c stepG_seq aS hF
 u_cond true aS hF
 u_c stepG_seq aS hF
 u_c stepG_seq aS hF
 u_reg aS hF
 u_op aS hF
 u_op aS hF
 u_c stepG_region_end aS hF
 u_cond true aS hF
 u_reg aS hF
 u_op aS hF
 u_conv H.underlying_tWgP H.room_tWg (WgLive.cell0 hF).choose_spec (aS) hF
 refine Goes.stop (fun w₁ h₁=>?_);replace hF:=aS hF h₁;refine⟨rfl,_,stepG_markAt .releaseMerge zi rfl rfl (by k_ne) rfl H.f_relMerge (x_relMerge_n L) (x_relMerge_b L) (x_relMerge_x L) (x_relMerge_f L) (by simp[Act.eval,stA]),10,?_⟩
 walk_nrm
 u_c stepG_region_end aS hF
 u_c stepG_seq aS hF
 u_reg aS hF
 refine Goes.stop (fun w₁ h₁=>?_);replace hF:=aS hF h₁;refine⟨rfl,_,stepG_mark0 .disable zi rfl rfl (by k_ne) rfl H.f_disable (x_disable_n L) (x_disable_b L) (x_disable_x L) (x_disable_f L),50,?_⟩
 walk_nrm
 u_c stepG_region_end aS hF
 u_reg aS hF
 u_defer aS hF
 u_c stepG_region_end aS hF
 u_c stepG_seq aS hF
 u_reg aS hF
 u_op aS hF
 u_c stepG_region_end aS hF
 u_c stepG_seq aS hF
 u_c stepG_seq aS hF
 u_reg aS hF
 u_bub aS hF
 u_c stepG_region_end aS hF
 u_cond false aS hF
 u_c stepG_skip aS hF
 u_c stepG_seq aS hF
 u_reg aS hF
 u_op aS hF
 u_op aS hF
 u_op aS hF
 u_op aS hF
 u_op aS hF
 u_op aS hF
 u_call H.f_uAdd (nm_uAdd L) uAddFn aS hF
 u_c stepG_seq aS hF
 u_reg aS hF
 u_op aS hF
 u_c stepG_region_end aS hF
 u_c stepG_seq aS hF
 u_reg aS hF
 u_op aS hF
 u_op aS hF
 u_op aS hF
 u_op aS hF
 refine Goes.stop (fun w₁ h₁=>?_);refine⟨rfl,fun v wt OB hv hw=>?_⟩;have e0:IntKind.u64.wrap (KK+18446744069414584320)=0:=by decide
 have e1:IntKind.u64.wrap (KK+1+18446744069414584320)=1:=by decide
 rcases Nat.eq_zero_or_pos v with rfl|Oz<;>(obtain rfl|rfl:wt=0∨wt=1:=by omega)
 ·replace hw:WgAt L.tWg Wg w₁ KK 0:=by simpa using hw
  have z:((0:Nat):Int)*KK+((0:Nat):Int)=0:=by simp
  rw[z];refine⟨_,(stepG_add_atomic rfl rfl (by k_ne) rfl H.f_addU64 (x_addU64_n L) (x_addU64_b L) (x_addU64_x L) .u64 (x_addU64_f L) rfl rfl hw.cellSt (hw.thaw 0)).trans (by rw[e0];rfl),fun hl=>absurd hl.2 zd,fun _=>⟨qt+89,?_⟩⟩
  walk_nrm
  q_val (.int .u64 0)
  q_c stepG_region_end
  q_c stepG_ret'
  q_leave1 H.f_uAdd
  q_val (.int .u64 0)
  q_c stepG_region_end
  q_c stepG_seq
  q_c stepG_seq
  q_reg
  q_val (.int .u64 0)
  q_val (.int .u64 0)
  q_val (.bool false)
  q_val (.bool false)
  q_skip
  q_skip
  q_val (.bool false)
  q_c stepG_region_end
  q_cond false
  q_c stepG_skip
  q_c stepG_seq
  q_reg
  q_val (.int .u64 0)
  q_val (.int .u64 0)
  q_val (.int .i32 0)
  q_val (.int .i32 0)
  q_c stepG_region_end
  q_c stepG_seq
  q_reg
  q_val (.int .u64 0)
  q_val (.int .u64 0)
  q_val (.int .u32 0)
  q_val (.int .u32 0)
  q_c stepG_region_end
  q_c stepG_seq
  q_c stepG_seq
  q_reg
  q_val (.bool true)
  q_val (.int .i64 (-1))
  q_val (.bool false)
  q_val (.bool false)
  q_val (.bool false)
  q_skip
  q_skip
  q_skip
  q_skip
  q_val (.bool false)
  q_c stepG_region_end
  q_cond false
  q_c stepG_skip
  q_c stepG_seq
  q_c stepG_seq
  q_reg
  q_val (.int .i32 0)
  q_val (.bool false)
  q_c stepG_region_end
  q_cond false
  q_c stepG_skip
  q_c stepG_seq
  q_c stepG_seq
  q_reg
  q_val (.int .u32 0)
  q_val (.bool false)
  q_val (.bool false)
  q_skip
  q_skip
  q_val (.bool false)
  q_val (.bool false)
  q_skip
  q_skip
  q_skip
  q_skip
  q_val (.bool false)
  q_c stepG_region_end
  q_cond false
  q_c stepG_skip
  q_c stepG_seq
  q_c stepG_seq
  q_reg
  q_val (.int .i32 0)
  q_val (.bool false)
  q_val (.bool false)
  q_val (.int .u32 0)
  q_val (.bool true)
  q_val (.bool true)
  q_c stepG_region_end
  q_cond true
  q_c stepG_ret'
  q_enable
  q_leave0 H.f_add
  exact hT
 ·replace hw:WgAt L.tWg Wg w₁ (KK+1) 0:=by simpa using hw
  have z:((0:Nat):Int)*KK+((1:Nat):Int)=1:=by simp
  rw[z];refine⟨_,(stepG_add_atomic rfl rfl (by k_ne) rfl H.f_addU64 (x_addU64_n L) (x_addU64_b L) (x_addU64_x L) .u64 (x_addU64_f L) rfl rfl hw.cellSt (hw.thaw 0)).trans (by rw[e1];rfl),fun _=>⟨120,?_⟩,fun hl=>absurd ⟨rfl,rfl⟩ hl⟩;have hF:WgLive L.tWg Wg (w₁.setCell (stA Wg) (.int .u64 1)):=⟨_,_,hw.setSt 1⟩
  walk_nrm
  u_op aS hF
  u_c stepG_region_end aS hF
  u_c stepG_ret' aS hF
  u_leave1 H.f_uAdd aS hF
  u_op aS hF
  u_c stepG_region_end aS hF
  u_c stepG_seq aS hF
  u_c stepG_seq aS hF
  u_reg aS hF
  u_op aS hF
  u_op aS hF
  u_op aS hF
  u_op aS hF
  u_skip aS hF
  u_skip aS hF
  u_op aS hF
  u_c stepG_region_end aS hF
  u_cond false aS hF
  u_c stepG_skip aS hF
  u_c stepG_seq aS hF
  u_reg aS hF
  u_op aS hF
  u_op aS hF
  u_op aS hF
  u_op aS hF
  u_c stepG_region_end aS hF
  u_c stepG_seq aS hF
  u_reg aS hF
  u_op aS hF
  u_op aS hF
  u_op aS hF
  u_op aS hF
  u_c stepG_region_end aS hF
  u_c stepG_seq aS hF
  u_c stepG_seq aS hF
  u_reg aS hF
  u_op aS hF
  u_op aS hF
  u_op aS hF
  u_op aS hF
  u_op aS hF
  u_skip aS hF
  u_skip aS hF
  u_skip aS hF
  u_skip aS hF
  u_op aS hF
  u_c stepG_region_end aS hF
  u_cond false aS hF
  u_c stepG_skip aS hF
  u_c stepG_seq aS hF
  u_c stepG_seq aS hF
  u_reg aS hF
  u_op aS hF
  u_op aS hF
  u_c stepG_region_end aS hF
  u_cond false aS hF
  u_c stepG_skip aS hF
  u_c stepG_seq aS hF
  u_c stepG_seq aS hF
  u_reg aS hF
  u_op aS hF
  u_op aS hF
  u_op aS hF
  u_op aS hF
  u_op aS hF
  u_op aS hF
  u_op aS hF
  u_skip aS hF
  u_skip aS hF
  u_skip aS hF
  u_skip aS hF
  u_op aS hF
  u_c stepG_region_end aS hF
  u_cond false aS hF
  u_c stepG_skip aS hF
  u_c stepG_seq aS hF
  u_c stepG_seq aS hF
  u_reg aS hF
  u_op aS hF
  u_op aS hF
  u_op aS hF
  u_op aS hF
  u_op aS hF
  u_op aS hF
  u_c stepG_region_end aS hF
  u_cond false aS hF
  u_c stepG_skip aS hF
  u_c stepG_seq aS hF
  u_c stepG_seq aS hF
  u_reg aS hF
  u_op aS hF
  u_op aS hF
  u_op aS hF
  u_call H.f_uLoad (nm_uLoad L) uLoadFn aS hF
  u_c stepG_seq aS hF
  u_reg aS hF
  u_op aS hF
  u_c stepG_region_end aS hF
  u_c stepG_seq aS hF
  u_reg aS hF
  u_op aS hF
  u_op aS hF
  u_op aS hF
  refine Goes.stop (fun w₂ h₂=>?_);refine⟨rfl,fun hw=>⟨_,stepG_load_atomic rfl rfl (by k_ne) rfl H.f_loadU64 (x_loadU64_n L) (x_loadU64_b L) (x_loadU64_x L) .u64 (x_loadU64_f L) rfl hw.cellSt,40,?_⟩⟩;have hF:WgLive L.tWg Wg w₂:=⟨_,_,hw⟩
  walk_nrm
  u_op aS hF
  u_c stepG_region_end aS hF
  u_c stepG_ret' aS hF
  u_leave1 H.f_uLoad aS hF
  u_op aS hF
  u_op aS hF
  u_c stepG_region_end aS hF
  u_cond false aS hF
  u_c stepG_skip aS hF
  u_c stepG_seq aS hF
  u_reg aS hF
  u_op aS hF
  u_op aS hF
  u_op aS hF
  u_call H.f_uStore (nm_uStore L) uStoreFn aS hF
  u_reg aS hF
  u_op aS hF
  u_op aS hF
  u_op aS hF
  u_op aS hF
  refine Goes.stop (fun w₃ h₃=>?_);refine⟨rfl,fun hw=>⟨_,stepG_store_atomic rfl rfl (by k_ne) rfl H.f_storeU64 (x_storeU64_n L) (x_storeU64_b L) (x_storeU64_x L) (x_storeU64_f L) rfl rfl hw.cellSt (hw.thaw 0),50,?_⟩⟩;have hF:WgLive L.tWg Wg (w₃.setCell (stA Wg) (.int .u64 0)):=⟨_,_,hw.setSt 0⟩
  walk_nrm
  u_c stepG_region_end aS hF
  u_c stepG_end aS hF
  u_leave0 H.f_uStore aS hF
  u_c stepG_region_end aS hF
  u_c stepG_seq aS hF
  u_c stepG_seq aS hF
  u_reg aS hF
  u_op aS hF
  u_c stepG_region_end aS hF
  u_cond false aS hF
  u_c stepG_skip aS hF
  u_c stepG_block aS hF
  u_c stepG_loop aS hF
  u_c stepG_seq aS hF
  u_c stepG_seq aS hF
  u_reg aS hF
  u_op aS hF
  u_op aS hF
  u_c stepG_region_end aS hF
  u_cond true aS hF
  u_c stepG_skip aS hF
  u_c stepG_seq aS hF
  u_c stepG_block aS hF
  u_reg aS hF
  u_op aS hF
  u_op aS hF
  u_op aS hF
  refine Goes.stop (fun w₄ h₄=>?_);refine⟨rfl,mayWake_entry rfl rfl H.f_semrelease (x_semrelease_b L),fun hw=>⟨_,(stepG_semrelease rfl rfl (by k_ne) rfl H.f_semrelease (x_semrelease_n L) (x_semrelease_b L) (x_semrelease_x L) (x_semrelease_f L) (by simp[Act.eval,smA]) hw.cellSm (hw.thaw 1)).trans (by rfl),qt+19,?_⟩⟩
  walk_nrm
  q_c stepG_region_end
  q_c stepG_inBlock
  q_reg
  q_val (.int .u32 1)
  q_val (.int .u32 0)
  q_val (.int .u32 0)
  q_c stepG_region_end
  q_c stepG_inLoop
  q_c stepG_seq
  q_c stepG_seq
  q_reg
  q_val (.int .u32 0)
  q_val (.bool false)
  q_c stepG_region_end
  q_cond false
  q_exit
  q_c stepG_end
  q_enable
  q_leave0 H.f_add
  exact hT
 ·replace hw:WgAt L.tWg Wg w₁ (((v:Nat)+1)*KK+0) 0:=by simpa using hw
  have z:((v:Nat):Int)*KK+((0:Nat):Int)=(v:Int)*KK+0:=by simp
  rw[z];have xn:0<v:=by omega
  have eS:IntKind.u64.wrap (((v:Nat)+1)*KK+0+18446744069414584320)=(v:Int)*KK+0:=by rw[IntKind.wrap_u64];simp only[KK];omega
  obtain⟨S,hS⟩:∃S:Int,S=(v:Int)*KK+0:=⟨_,rfl⟩;rw[←hS]at eS ⊢;have a1:S / 4294967296=(v:Int):=by rw[hS];simp only[KK];omega
  have a2:0≤S∧S<9223372036854775808:=by rw[hS];simp only[KK];omega
  have b1:bits .and .u64 S 2147483648=0:=by rw[hS];have:=st_flag v 0 zo zo;simpa[KK]using this
  have b2:bits .and .u64 S 2147483647=0:=by rw[hS];have:=st_waiters v 0 zo zo;simpa[KK]using this
  clear hS z;refine⟨_,(stepG_add_atomic rfl rfl (by k_ne) rfl H.f_addU64 (x_addU64_n L) (x_addU64_b L) (x_addU64_x L) .u64 (x_addU64_f L) rfl rfl hw.cellSt (hw.thaw 0)).trans (by rw[eS];rfl),fun hl=>absurd hl.1 zo,fun _=>⟨qt+89,?_⟩⟩;clear hw
  walk_nrm
  q_vn (.int .u64 S)
  q_c stepG_region_end
  q_c stepG_ret'
  q_leave1 H.f_uAdd
  q_vn (.int .u64 S)
  q_c stepG_region_end
  q_c stepG_seq
  q_c stepG_seq
  q_reg
  q_vn (.int .u64 S)
  q_vn (.int .u64 0)
  q_vn (.bool false)
  q_vn (.bool false)
  q_skip
  q_skip
  q_vn (.bool false)
  q_c stepG_region_end
  q_cond false
  q_c stepG_skip
  q_c stepG_seq
  q_reg
  q_vn (.int .u64 S)
  q_vn (.int .u64 (v:Int))
  q_vn (.int .i32 (v:Int))
  q_vn (.int .i32 (v:Int))
  q_c stepG_region_end
  q_c stepG_seq
  q_reg
  q_vn (.int .u64 S)
  q_vn (.int .u64 0)
  q_vn (.int .u32 0)
  q_vn (.int .u32 0)
  q_c stepG_region_end
  q_c stepG_seq
  q_c stepG_seq
  q_reg
  q_vn (.bool true)
  q_vn (.int .i64 (-1))
  q_vn (.bool false)
  q_vn (.bool false)
  q_vn (.bool false)
  q_skip
  q_skip
  q_skip
  q_skip
  q_vn (.bool false)
  q_c stepG_region_end
  q_cond false
  q_c stepG_skip
  q_c stepG_seq
  q_c stepG_seq
  q_reg
  q_vn (.int .i32 (v:Int))
  q_vn (.bool false)
  q_c stepG_region_end
  q_cond false
  q_c stepG_skip
  q_c stepG_seq
  q_c stepG_seq
  q_reg
  q_vn (.int .u32 0)
  q_vn (.bool false)
  q_vn (.bool false)
  q_skip
  q_skip
  q_vn (.bool false)
  q_vn (.bool false)
  q_skip
  q_skip
  q_skip
  q_skip
  q_vn (.bool false)
  q_c stepG_region_end
  q_cond false
  q_c stepG_skip
  q_c stepG_seq
  q_c stepG_seq
  q_reg
  q_vn (.int .i32 (v:Int))
  q_vn (.bool true)
  q_vn (.bool true)
  q_skip
  q_skip
  q_vn (.bool true)
  q_c stepG_region_end
  q_cond true
  q_c stepG_ret'
  q_enable
  q_leave0 H.f_add
  exact hT
 ·replace hw:WgAt L.tWg Wg w₁ (((v:Nat)+1)*KK+1) 0:=by simpa using hw
  have z:((v:Nat):Int)*KK+((1:Nat):Int)=(v:Int)*KK+1:=by simp
  rw[z];have xn:0<v:=by omega
  have eS:IntKind.u64.wrap (((v:Nat)+1)*KK+1+18446744069414584320)=(v:Int)*KK+1:=by rw[IntKind.wrap_u64];simp only[KK];omega
  obtain⟨S,hS⟩:∃S:Int,S=(v:Int)*KK+1:=⟨_,rfl⟩;rw[←hS]at eS ⊢;have a1:S / 4294967296=(v:Int):=by rw[hS];simp only[KK];omega
  have a2:0≤S∧S<9223372036854775808:=by rw[hS];simp only[KK];omega
  have b1:bits .and .u64 S 2147483648=0:=by rw[hS];have:=st_flag v 1 zo zo;simpa[KK]using this
  have b2:bits .and .u64 S 2147483647=1:=by rw[hS];have:=st_waiters v 1 zo zo;simpa[KK]using this
  clear hS z;refine⟨_,(stepG_add_atomic rfl rfl (by k_ne) rfl H.f_addU64 (x_addU64_n L) (x_addU64_b L) (x_addU64_x L) .u64 (x_addU64_f L) rfl rfl hw.cellSt (hw.thaw 0)).trans (by rw[eS];rfl),fun hl=>absurd hl.1 zo,fun _=>⟨qt+89,?_⟩⟩;clear hw
  walk_nrm
  q_vn (.int .u64 S)
  q_c stepG_region_end
  q_c stepG_ret'
  q_leave1 H.f_uAdd
  q_vn (.int .u64 S)
  q_c stepG_region_end
  q_c stepG_seq
  q_c stepG_seq
  q_reg
  q_vn (.int .u64 S)
  q_vn (.int .u64 0)
  q_vn (.bool false)
  q_vn (.bool false)
  q_skip
  q_skip
  q_vn (.bool false)
  q_c stepG_region_end
  q_cond false
  q_c stepG_skip
  q_c stepG_seq
  q_reg
  q_vn (.int .u64 S)
  q_vn (.int .u64 (v:Int))
  q_vn (.int .i32 (v:Int))
  q_vn (.int .i32 (v:Int))
  q_c stepG_region_end
  q_c stepG_seq
  q_reg
  q_vn (.int .u64 S)
  q_vn (.int .u64 1)
  q_vn (.int .u32 1)
  q_vn (.int .u32 1)
  q_c stepG_region_end
  q_c stepG_seq
  q_c stepG_seq
  q_reg
  q_vn (.bool true)
  q_vn (.int .i64 (-1))
  q_vn (.bool false)
  q_vn (.bool false)
  q_vn (.bool false)
  q_skip
  q_skip
  q_skip
  q_skip
  q_vn (.bool false)
  q_c stepG_region_end
  q_cond false
  q_c stepG_skip
  q_c stepG_seq
  q_c stepG_seq
  q_reg
  q_vn (.int .i32 (v:Int))
  q_vn (.bool false)
  q_c stepG_region_end
  q_cond false
  q_c stepG_skip
  q_c stepG_seq
  q_c stepG_seq
  q_reg
  q_vn (.int .u32 1)
  q_vn (.bool true)
  q_vn (.bool true)
  q_vn (.int .i64 (-1))
  q_vn (.bool false)
  q_vn (.bool false)
  q_vn (.bool false)
  q_skip
  q_skip
  q_skip
  q_skip
  q_vn (.bool false)
  q_c stepG_region_end
  q_cond false
  q_c stepG_skip
  q_c stepG_seq
  q_c stepG_seq
  q_reg
  q_vn (.int .i32 (v:Int))
  q_vn (.bool true)
  q_vn (.bool true)
  q_skip
  q_skip
  q_vn (.bool true)
  q_c stepG_region_end
  q_cond true
  q_c stepG_ret'
  q_enable
  q_leave0 H.f_add
  exact hT
theorem zyf (H:WgLib P L){Wg C qt:Nat}{b₀:Frame}{a₀:Act}{ops₀:Array Oper}{i₀:Nat}{rest₀:List Nat}{k₀:List Item}{cs:List Frame}
  (hT:QuitsD P qt 0 (G (b₀.at (a₀.put ((ops₀[i₀]?).bind (·.dst)) (.tuple #[])) (.inRegion ops₀ rest₀::k₀)) cs)) (w:World) (hF:WgLive L.tWg Wg w) :
  Goes P false (RW L.tWg Wg C 1 0 0) DC0 (CR P L.tWg Wg C) 23 (G (Frame.enter P L.done #[.pointer (some ⟨Wg,0,none⟩)] .normal) (b₀.at a₀ (.inRegion ops₀ (i₀::rest₀)::k₀)::cs)) w:=by
 lib_facts
 rw[enter_at (c:=body_done L) _ H.f_done rfl];simp only[body_done,doneFn,Option.getD_some]
 walk_nrm
 u_reg aS hF
 u_op aS hF
 u_in (aS) hF
 refine goes_call rfl rfl (by k_ne) rfl H.f_add (nm_add L) rfl ⟨by u_nil,?_⟩;rw[←enter_at _ H.f_add rfl]
 walk_nrm
 refine zvP (qt:=qt+3) H ?_ _ hF
 q_c stepG_region_end
 q_c stepG_end
 q_leave0 H.f_done
 exact hT
end
section
variable [Payload] {X:dT}{L:WgLink}
theorem aV (h:WgLive X.ty X.Wg w)(r:RL X w w1):WgLive X.ty X.Wg w1:=r h
def E1 (L:WgLink)(X:dT)(c:Frame)(cs:List Frame)(g:Goroutine)(w:World):Prop :=
 ∃T:Array Value,g=G ((base L.wait).at ⟨T,[]⟩ [.code (L7 L),.inLoop (L7 L),.inBlock 0]) (c::cs)∧T.size=84∧T[0]?=some (.pointer (some ⟨X.Wg,0,none⟩))∧WgLive X.ty X.Wg w
def U9 (P:Program)(Ve:Goroutine)(g:Goroutine):Prop:=∀w,∃m,Goes P true AtRel DC0 (fun g' _=>g'=Ve) m g w
theorem jC (h:True)(_:AtRel w w1):True:=h
variable {b₀:Frame}{a₀:Act}{ops₀:Array Oper}{i₀:Nat}{rest₀:List Nat}{k₀:List Item}{cs:List Frame}
set_option maxRecDepth 100000 in
set_option maxHeartbeats 8000000 in
theorem zr4 (H:WgLib X.P L)(g:Goroutine)(w:World)(h:E1 L X (b₀.at a₀ (.inRegion ops₀ (i₀::rest₀)::k₀)) cs g w) :
  ∃m,Goes X.P true (RL X) DC0 (S1 X (E1 L X (b₀.at a₀ (.inRegion ops₀ (i₀::rest₀)::k₀)) cs) (U9 X.P (G (b₀.at (a₀.put ((ops₀[i₀]?).bind (·.dst)) (.tuple #[])) (.inRegion ops₀ rest₀::k₀)) cs))) m g w:=by
 lib_facts
 obtain⟨T,rfl,IY,t0,hF⟩:=h;obtain⟨v0,v1,v2,v3,v4,v5,v6,v7,v8,v9,v10,v11,Aj,Ak,Al,Am,An,Ao,Ap,Aq,v20,v21,v22,v23,v24,v25,v26,v27,v28,v29,v30,v31,v32,v33,v34,v35,v36,v37,v38,v39,v40,v41,v42,v43,v44,v45,v46,v47,v48,v49,v50,v51,v52,v53,v54,v55,v56,v57,v58,v59,v60,v61,v62,v63,v64,v65,v66,v67,v68,v69,v70,v71,v72,v73,v74,v75,v76,v77,v78,v79,v80,v81,v82,v83,rfl⟩:=array84 T IY;simp only[List.getElem?_toArray,List.getElem?_cons_zero,Option.some.injEq]at t0;subst t0;refine⟨30,?_⟩;simp only[L7,body_wait,waitFn,Option.getD_some]
 u_c stepG_block aV hF
 u_c stepG_seq aV hF
 u_reg aV hF
 u_op aV hF
 u_op aV hF
 u_op aV hF
 u_call H.f_uLoad (nm_uLoad L) uLoadFn aV hF
 u_c stepG_seq aV hF
 u_reg aV hF
 u_op aV hF
 u_c stepG_region_end aV hF
 u_c stepG_seq aV hF
 u_reg aV hF
 u_op aV hF
 u_op aV hF
 u_op aV hF
 refine Goes.stop (fun w₁ h₁=>?_);replace hF:=aV hF h₁;refine⟨rfl,fun v hv hw=>?_⟩;rcases Nat.eq_zero_or_pos v with rfl|Oz
 ·replace hw:WgAt X.ty X.Wg w₁ 0 0:=by simpa using hw
  refine⟨_,stepG_load_atomic (v:=0) rfl rfl (by k_ne) rfl H.f_loadU64 (x_loadU64_n L) (x_loadU64_b L) (x_loadU64_x L) .u64 (x_loadU64_f L) rfl hw.cellSt,fun _=>⟨50,?_⟩,fun h=>absurd rfl h⟩
  walk_nrm
  u_op aV hF
  u_c stepG_region_end aV hF
  u_c stepG_ret' aV hF
  u_leave1 H.f_uLoad aV hF
  u_op aV hF
  u_c stepG_region_end aV hF
  u_c stepG_seq aV hF
  u_reg aV hF
  u_op aV hF
  u_op aV hF
  u_op aV hF
  u_op aV hF
  u_c stepG_region_end aV hF
  u_c stepG_seq aV hF
  u_reg aV hF
  u_op aV hF
  u_op aV hF
  u_op aV hF
  u_op aV hF
  u_c stepG_region_end aV hF
  u_c stepG_seq aV hF
  u_c stepG_seq aV hF
  u_reg aV hF
  u_op aV hF
  u_op aV hF
  u_c stepG_region_end aV hF
  u_cond true aV hF
  u_c stepG_seq aV hF
  u_cond true aV hF
  u_c stepG_seq aV hF
  u_reg aV hF
  refine Goes.stop (fun w₅ h₁=>?_);replace hF:=aV hF h₁;refine⟨rfl,_,stepG_mark0 .enable zi rfl rfl (by k_ne) rfl H.f_enable (x_enable_n L) (x_enable_b L) (x_enable_x L) (x_enable_f L),12,?_⟩
  walk_nrm
  u_c stepG_region_end aV hF
  u_reg aV hF
  u_op aV hF
  u_in (aV) hF
  refine goes_oper_k rfl rfl (by k_ne) (fun Kx Cp=>?_);have s9:=run_convert_to_unsafe (P:=X.P) H.underlying_tWgP H.underlying_tUP H.room_tWg (WgLive.cell0 hF).choose_spec;have sY:=fun es=>events_convert_to_unsafe (P:=X.P) H.underlying_tWgP H.underlying_tUP H.room_tWg (WgLive.cell0 hF).choose_spec es
  go_simp
  refine Cp _ _ ⟨?_,?_⟩
  ·u_none
   intro ex hex;have Df:=mem_listed hex;simp[go_sem,sY]at Df
  refine Goes.stop (fun w₆ h₁=>?_);replace hF:=aV hF h₁;refine⟨rfl,_,stepG_markAt .acquire zi rfl rfl (by k_ne) rfl H.f_acquire (x_acquire_n L) (x_acquire_b L) (x_acquire_x L) (x_acquire_f L) (by simp[Act.eval,stA]),fun w=>⟨40,?_⟩⟩;have hF:True:=trivial
  walk_nrm
  u_c stepG_region_end jC hF
  u_c stepG_seq jC hF
  u_c stepG_seq jC hF
  u_reg jC hF
  u_op jC hF
  u_op jC hF
  u_op jC hF
  u_op jC hF
  u_op jC hF
  u_op jC hF
  u_op jC hF
  u_op jC hF
  u_skip jC hF
  u_skip jC hF
  u_op jC hF
  u_c stepG_region_end jC hF
  u_cond false jC hF
  u_c stepG_skip jC hF
  u_c stepG_ret' jC hF
  u_leave0 H.f_wait jC hF
  exact Goes.stop fun _ _=>rfl
 ·obtain⟨S,hS⟩:∃S:Int,(v:Int)*KK=S:=⟨_,rfl⟩;have a1:S / 4294967296=(v:Int):=by rw[←hS];simp only[KK];omega
  have b1:bits .and .u64 S 2147483648=0:=by rw[←hS];have:=st_flag v 0 zo zo;simpa[KK]using this
  have b2:bits .and .u64 S 2147483647=0:=by rw[←hS];have:=st_waiters v 0 zo zo;simpa[KK]using this
  have c1:IntKind.i32.wrap (v:Int)=(v:Int):=by rw[IntKind.wrap_i32];omega
  have w1:IntKind.u64.wrap (S+1)=S+1:=by rw[IntKind.wrap_u64,←hS];simp only[KK];omega
  have q3:decide ((v:Int)<0)=false:=decide_eq_false zo;have q4:decide (0<(v:Int))=true:=decide_eq_true zo;have q5:((v:Int) == 0)=false:=by simp;omega
  have q6:decide ((v:Int)=0)=false:=decide_eq_false zo;rw[hS]at hw;refine⟨_,stepG_load_atomic (v:=S) rfl rfl (by k_ne) rfl H.f_loadU64 (x_loadU64_n L) (x_loadU64_b L) (x_loadU64_x L) .u64 (x_loadU64_f L) rfl hw.cellSt,fun h0=>absurd h0 zo,fun _=>⟨60,?_⟩⟩
  walk_nrm
  u_op aV hF
  u_c stepG_region_end aV hF
  u_c stepG_ret' aV hF
  u_leave1 H.f_uLoad aV hF
  u_op aV hF
  u_c stepG_region_end aV hF
  u_c stepG_seq aV hF
  u_reg aV hF
  u_op aV hF
  u_op aV hF
  u_op aV hF
  u_op aV hF
  u_c stepG_region_end aV hF
  u_c stepG_seq aV hF
  u_reg aV hF
  u_op aV hF
  u_op aV hF
  u_op aV hF
  u_op aV hF
  u_c stepG_region_end aV hF
  u_c stepG_seq aV hF
  u_c stepG_seq aV hF
  u_reg aV hF
  u_op aV hF
  u_op aV hF
  u_c stepG_region_end aV hF
  u_cnd false aV hF
  u_c stepG_skip aV hF
  u_c stepG_seq aV hF
  u_reg aV hF
  u_op aV hF
  u_op aV hF
  u_op aV hF
  u_op aV hF
  u_op aV hF
  u_op aV hF
  u_call H.f_uCas (nm_uCas L) uCasFn aV hF
  u_c stepG_seq aV hF
  u_reg aV hF
  u_op aV hF
  u_c stepG_region_end aV hF
  u_c stepG_seq aV hF
  u_reg aV hF
  u_op aV hF
  u_op aV hF
  u_op aV hF
  u_op aV hF
  u_op aV hF
  refine Goes.stop (fun w₂ h₁=>?_);replace hF:=aV hF h₁;refine⟨rfl,fun v' Oy hw=>⟨fun e=>?_,fun e=>?_⟩⟩
  ·subst e;rw[hS]at hw ⊢;refine⟨_,(stepG_cas_hit (v:=S) (n:=S+1) rfl rfl (by k_ne) rfl H.f_casU64 (x_casU64_n L) (x_casU64_b L) (x_casU64_x L) .u64 (x_casU64_f L) rfl rfl rfl hw.cellSt (hw.thaw 0)).trans (by rfl),70,?_⟩;replace hF:WgLive X.ty X.Wg (w₂.setCell (stA X.Wg) (.int .u64 (S+1))):=⟨_,_,hw.setSt _⟩
   walk_nrm
   u_op aV hF
   u_c stepG_region_end aV hF
   u_c stepG_ret' aV hF
   u_leave1 H.f_uCas aV hF
   u_c stepG_region_end aV hF
   u_cond true aV hF
   u_c stepG_seq aV hF
   u_c stepG_seq aV hF
   u_reg aV hF
   u_op aV hF
   u_op aV hF
   u_op aV hF
   u_op aV hF
   u_c stepG_region_end aV hF
   u_cond true aV hF
   u_reg aV hF
   u_op aV hF
   u_op aV hF
   u_op aV hF
   u_in (aV) hF
   refine goes_oper_k rfl rfl (by k_ne) (fun Kx Cp=>?_);have s9:=run_convert_to_unsafe (P:=X.P) H.underlying_tPU32 H.underlying_tUP H.room_tU32 (WgLive.cell1 hF).choose_spec;have sY:=fun es=>events_convert_to_unsafe (P:=X.P) H.underlying_tPU32 H.underlying_tUP H.room_tU32 (WgLive.cell1 hF).choose_spec es
   go_simp
   refine Cp _ _ ⟨?_,?_⟩
   ·u_none
    intro ex hex;have Df:=mem_listed hex;simp[go_sem,sY]at Df
   refine Goes.stop (fun w₇ h₁=>?_);replace hF:=aV hF h₁;refine⟨rfl,_,stepG_markAt .write zi rfl rfl (by k_ne) rfl H.f_raceWrite (x_raceWrite_n L) (x_raceWrite_b L) (x_raceWrite_x L) (x_raceWrite_f L) (ad:=⟨X.Wg,1,none⟩) (by simp[Act.eval]),60,?_⟩
   walk_nrm
   u_c stepG_region_end aV hF
   u_c stepG_seq aV hF
   u_reg aV hF
   u_op aV hF
   u_c stepG_region_end aV hF
   u_c stepG_seq aV hF
   u_c stepG_seq aV hF
   u_reg aV hF
   u_op aV hF
   u_op aV hF
   u_op aV hF
   u_op aV hF
   u_skip aV hF
   u_op aV hF
   u_c stepG_region_end aV hF
   u_cond false aV hF
   u_c stepG_skip aV hF
   u_c stepG_seq aV hF
   u_reg aV hF
   u_op aV hF
   u_op aV hF
   u_op aV hF
   u_op aV hF
   refine Goes.stop (fun w₃ h₁=>?_);replace hF:=aV hF h₁;refine⟨rfl,rfl,fun⟨st,hw⟩=>stepG_semacquire_wait rfl rfl rfl H.f_semacquire (x_semacquire_n L) (x_semacquire_b L) (x_semacquire_x L) (x_semacquire_f L) (by simp[Act.eval,smA]) hw.cellSm,fun hf=>?_⟩;refine⟨_,(stepG_semacquire (n:=1) rfl rfl (by k_ne) rfl H.f_semacquire (x_semacquire_n L) (x_semacquire_b L) (x_semacquire_x L) (x_semacquire_f L) (by simp[Act.eval,smA]) hf.cellSm (by k_ne) (hf.thaw 1)).trans (by rfl),30,?_⟩;replace hF:WgLive X.ty X.Wg (w₃.setCell (smA X.Wg) (.int .u32 0)):=⟨_,_,hf.setSm 0⟩
   walk_nrm
   u_c stepG_region_end aV hF
   u_c stepG_seq aV hF
   u_reg aV hF
   u_op aV hF
   u_op aV hF
   u_op aV hF
   u_call H.f_uLoad (nm_uLoad L) uLoadFn aV hF
   u_c stepG_seq aV hF
   u_reg aV hF
   u_op aV hF
   u_c stepG_region_end aV hF
   u_c stepG_seq aV hF
   u_reg aV hF
   u_op aV hF
   u_op aV hF
   u_op aV hF
   refine Goes.stop (fun w₄ h₁=>?_);replace hF:=aV hF h₁;refine⟨rfl,fun hw=>⟨_,stepG_load_atomic (v:=0) rfl rfl (by k_ne) rfl H.f_loadU64 (x_loadU64_n L) (x_loadU64_b L) (x_loadU64_x L) .u64 (x_loadU64_f L) rfl hw.cellSt,30,?_⟩⟩
   walk_nrm
   u_op aV hF
   u_c stepG_region_end aV hF
   u_c stepG_ret' aV hF
   u_leave1 H.f_uLoad aV hF
   u_op aV hF
   u_op aV hF
   u_c stepG_region_end aV hF
   u_c stepG_seq aV hF
   u_cond true aV hF
   u_c stepG_seq aV hF
   u_reg aV hF
   refine Goes.stop (fun w₅ h₁=>?_);replace hF:=aV hF h₁;refine⟨rfl,_,stepG_mark0 .enable zi rfl rfl (by k_ne) rfl H.f_enable (x_enable_n L) (x_enable_b L) (x_enable_x L) (x_enable_f L),12,?_⟩
   walk_nrm
   u_c stepG_region_end aV hF
   u_reg aV hF
   u_op aV hF
   u_in (aV) hF
   refine goes_oper_k rfl rfl (by k_ne) (fun Kx Cp=>?_);have s9:=run_convert_to_unsafe (P:=X.P) H.underlying_tWgP H.underlying_tUP H.room_tWg (WgLive.cell0 hF).choose_spec;have sY:=fun es=>events_convert_to_unsafe (P:=X.P) H.underlying_tWgP H.underlying_tUP H.room_tWg (WgLive.cell0 hF).choose_spec es
   go_simp
   refine Cp _ _ ⟨?_,?_⟩
   ·u_none
    intro ex hex;have Df:=mem_listed hex;simp[go_sem,sY]at Df
   refine Goes.stop (fun w₆ h₁=>?_);replace hF:=aV hF h₁;refine⟨rfl,_,stepG_markAt .acquire zi rfl rfl (by k_ne) rfl H.f_acquire (x_acquire_n L) (x_acquire_b L) (x_acquire_x L) (x_acquire_f L) (by simp[Act.eval,stA]),fun w=>⟨40,?_⟩⟩;have hF:True:=trivial
   walk_nrm
   u_c stepG_region_end jC hF
   u_c stepG_seq jC hF
   u_c stepG_seq jC hF
   u_reg jC hF
   u_op jC hF
   u_c stepG_region_end jC hF
   u_cond false jC hF
   u_c stepG_skip jC hF
   u_c stepG_ret' jC hF
   u_leave0 H.f_wait jC hF
   exact Goes.stop fun _ _=>rfl
  ·refine⟨_,stepG_cas_miss (v:=(v':Int)*KK) (old:=S) (n:=S+1) rfl rfl (by k_ne) rfl H.f_casU64 (x_casU64_n L) (x_casU64_b L) (x_casU64_x L) .u64 (x_casU64_f L) rfl rfl rfl hw.cellSt (hw.thaw 0) (by rw[←hS];simp only[KK];omega),20,?_⟩
   walk_nrm
   u_op aV hF
   u_c stepG_region_end aV hF
   u_c stepG_ret' aV hF
   u_leave1 H.f_uCas aV hF
   u_c stepG_region_end aV hF
   u_cond false aV hF
   u_c stepG_skip aV hF
   u_c stepG_inBlock aV hF
   u_c stepG_inLoop aV hF
   refine Goes.stop (fun w₃ h₁=>?_);replace hF:=aV hF h₁;exact⟨_,rfl,by simp,by simp,hF⟩
theorem zr5 (H:WgLib X.P L)(w:World)(hF:WgLive X.ty X.Wg w) :
  Goes X.P true (RL X) DC0 (Fo X (E1 L X (b₀.at a₀ (.inRegion ops₀ (i₀::rest₀)::k₀)) cs)) 3 (G (Frame.enter X.P L.wait #[.pointer (some ⟨X.Wg,0,none⟩)] .normal) (b₀.at a₀ (.inRegion ops₀ (i₀::rest₀)::k₀)::cs)) w:=by
 lib_facts
 rw[enter_at (c:=body_wait L) _ H.f_wait rfl];simp only[body_wait,waitFn,Option.getD_some]
 walk_nrm
 u_c stepG_seq aV hF
 u_cond true aV hF
 u_reg aV hF
 refine Goes.stop (fun w₁ h₁=>?_);replace hF:=aV hF h₁;refine⟨rfl,_,stepG_mark0 .disable zi rfl rfl (by k_ne) rfl H.f_disable (x_disable_n L) (x_disable_b L) (x_disable_x L) (x_disable_f L),3,?_⟩
 walk_nrm
 u_c stepG_region_end aV hF
 u_c stepG_block aV hF
 u_c stepG_loop aV hF
 exact Goes.stop (fun w₂ h₂=>⟨_,rfl,by simp,by simp,aV hF h₂⟩)
end
end Pool
namespace Pool
open Go.Conc Gap Go.Conc.Lib
open Go.ConcR (Payload)
variable {b:Nat}
abbrev Av:WgLink:={ add:=76,done:=79,wait:=38,relMerge:=131,disable:=80,enable:=82,inBubble:=88,associate:=132,fatal:=133,uOr:=134,uAdd:=135,raceRead:=136,uLoad:=81,uStore:=137,disassociate:=86,semrelease:=138,acquire:=83,isAssociated:=84,uCas:=85,raceWrite:=87,semacquire:=89,orU64:=190,addU64:=191,loadU64:=139,storeU64:=192,casU64:=140,tWgP:=193,tUP:=160,tAssoc:=263,tWg:=116,tAU:=113,tU64:=111,tUint:=196,tU32:=114,tPU32:=201,tPAU:=269,tPU64:=271,tNoCopy:=108,tANoCopy:=109,tAlign64:=110 }
theorem Ga:WgLib prog Av :=
 ⟨func76,func79,func38,func131,func80,func82,func88,func132,func133,func134,func135,func136,func81,func137,func86,func138,func83,func84,func85,func87,func89,func190,func191,func139,func192,func140,
  underlying193,Tryz.runUnderlying193,Tryz.sizeOf193,Tryz.isAgg193,Tryz.zeroValue193,
  underlying160,Tryz.runUnderlying160,Tryz.sizeOf160,Tryz.isAgg160,Tryz.zeroValue160,
  underlying263,Tryz.runUnderlying263,Tryz.sizeOf263,Tryz.isAgg263,Tryz.zeroValue263,
  underlying116,Tryz.runUnderlying116,Tryz.sizeOf116,Tryz.isAgg116,Tryz.zeroValue116,
  underlying113,Tryz.runUnderlying113,Tryz.sizeOf113,Tryz.isAgg113,Tryz.zeroValue113,
  underlying111,Tryz.runUnderlying111,Tryz.sizeOf111,Tryz.isAgg111,Tryz.zeroValue111,
  underlying196,Tryz.runUnderlying196,Tryz.sizeOf196,Tryz.isAgg196,Tryz.zeroValue196,
  underlying114,Tryz.runUnderlying114,Tryz.sizeOf114,Tryz.isAgg114,Tryz.zeroValue114,
  underlying201,Tryz.runUnderlying201,Tryz.sizeOf201,Tryz.isAgg201,Tryz.zeroValue201,
  underlying269,Tryz.runUnderlying269,Tryz.sizeOf269,Tryz.isAgg269,Tryz.zeroValue269,
  underlying271,Tryz.runUnderlying271,Tryz.sizeOf271,Tryz.isAgg271,Tryz.zeroValue271,
  underlying0,Tryz.runUnderlying0,Tryz.sizeOf0,Tryz.isAgg0,Tryz.zeroValue0,
  underlying3,Tryz.runUnderlying3,Tryz.sizeOf3,Tryz.isAgg3,Tryz.zeroValue3,
  underlying4,Tryz.runUnderlying4,Tryz.sizeOf4,Tryz.isAgg4,Tryz.zeroValue4,
  underlying9,Tryz.runUnderlying9,Tryz.sizeOf9,Tryz.isAgg9,Tryz.zeroValue9,
  underlying20,Tryz.runUnderlying20,Tryz.sizeOf20,Tryz.isAgg20,Tryz.zeroValue20,
  underlying21,Tryz.runUnderlying21,Tryz.sizeOf21,Tryz.isAgg21,Tryz.zeroValue21,zk,zk⟩
instance:Payload:=⟨193⟩
open Go.RowKit Go.ConcR.Gen Go.ConcN.Gen
open Go.ConcN (upd upd_same upd_ne WgLive RW AtK1)
open Go.ConcR (WgAt stA smA KK Payload DC0 mk rd wr)
def AQ:Code→Nat→Option (Array Oper)
 | .region i ops _,n=>if i=n then some ops else none
 | .seq a b,n=>(AQ a n).orElse fun _=>AQ b n
 | .cond _ a b,n=>(AQ a n).orElse fun _=>AQ b n
 | .block _ c,n=>AQ c n
 | .loop c,n=>AQ c n
 | _,_=>none
def cY (f:Func)(n:Nat):Array Oper:=(f.body.bind (AQ · n)).getD #[]
def xQ:Code→Nat→Option Code
 | .block i c,n=>if i=n then some c else xQ c n
 | .seq a b,n=>(xQ a n).orElse fun _=>xQ b n
 | .cond _ a b,n=>(xQ a n).orElse fun _=>xQ b n
 | .loop c,n=>xQ c n
 | _,_=>none
def jw (f:Func)(n:Nat):Code:=match f.body.bind (xQ · n) with
 | some (.loop c)=>c
 | some c=>c
 | none=>.skip
def vZ:Code→Code
 | .seq _ y=>y
 | c=>c
class Kd where
 b:Bool
variable [kd:Kd]
noncomputable def ej:Func:=match kd.b with
 | false=>Tryz.f28
 | true=>Tryz.f18
noncomputable def d9:Func:=match kd.b with
 | false=>Tryz.f58
 | true=>Tryz.f37
def iA:Nat:=match kd.b with
 | false=>28
 | true=>18
def uD:Nat:=match kd.b with
 | false=>58
 | true=>37
theorem zym:@d9 ⟨false⟩=Tryz.f58:=rfl
theorem zyn:@d9 ⟨true⟩=Tryz.f37:=rfl
theorem UX:prog.funcs[uD]?=some d9:=by
 obtain⟨_|_⟩:=kd
 ·exact func58
 ·exact func37
theorem Nz:prog.funcs[iA]?=some ej:=by
 obtain⟨_|_⟩:=kd
 ·exact func28
 ·exact func18
noncomputable abbrev jV:Func:=Tryz.f36
noncomputable abbrev u3:Func:=Tryz.f77
noncomputable abbrev Ci:Func:=Tryz.f78
abbrev z7:Nat:=77
abbrev NA:Nat:=78
def B8 (v:Value):Prop:=match kd.b with
 | false=>∃a n c,v=.slice a n c
 | true=>∃a n c a' n' c',v=.agg #[.slice a n c,.slice a' n' c']
structure iB where
 Z:Nat→Prop
 ct:Nat
 cb:Nat
 Wg:Nat
 bt:Nat
 bh:Nat
 bb:Nat
 many:Nat
 fh:FuncId
 c0:Value
 cs:List Value
 W0:World
def iB.how (J:iB):Value:=.func (.func J.fh) #[] (J.c0::J.cs).toArray
section
variable (J:iB)
def HT:Array Value:=#[.pointer (some ⟨J.bt,0,none⟩),.pointer (some ⟨J.bh,0,none⟩),.pointer (some ⟨J.bb,0,none⟩)]
noncomputable def bot:Frame:={ (default:Frame) with fn:=prog.funcs.size,defers:=[],mode:=.panicking [goexitEntry] }
def A4 (C:Nat):Deferred:={ target:=.fn (.func z7) #[.pointer (some ⟨C,0,none⟩),.pointer (some ⟨C+1,0,none⟩)],args:=#[] }
def X7 (C:Nat):Deferred:={ target:=.fn (.func NA) #[.pointer (some ⟨C,0,none⟩)],args:=#[] }
def XZ (C:Nat):Array Value:=#[.pointer (some ⟨C,0,none⟩),.pointer (some ⟨C+1,0,none⟩),.func (.func NA) #[] #[.pointer (some ⟨C,0,none⟩)],.func (.func uD) #[] (HT J),undef]
noncomputable def qc (C:Nat):Frame:=(baseD z7).at ⟨XZ J C,[X7 C]⟩ [.inRegion (cY u3 1) [1]]
noncomputable def gu (T:Array Value):Frame:=(base uD).at ⟨T,[]⟩ [.inRegion (cY d9 1) [0,1],.code (vZ (jw d9 0)),.inLoop (jw d9 0),.inBlock 0]
noncomputable def j3 (T:Array Value):Frame:=(base uD).at ⟨T,[]⟩ [.inRegion (cY d9 4) [5],.inBlock 1,.inLoop (jw d9 0),.inBlock 0]
def ER (w:World)(b:Nat):Prop:=∃c t,w.heap[b]?=some (.cells c t (0,0))
def E2 (w:World)(b:Nat):Prop:=∃o,w.heap[b]?=some o∧kv o=true
def l3 (w:World)(b:Nat):Prop:=∃o,w.heap[b]?=some o∧mI o=true
def yh (w:World):Prop:=∀b o v,J.Z b→J.W0.cell? ⟨b,o,none⟩=some v→w.cell? ⟨b,o,none⟩=some v
structure WM (C:Nat)(w:World):Prop where
 wg:w.cell? ⟨C,0,none⟩=some (.pointer (some ⟨J.Wg,0,none⟩))
 fn:w.cell? ⟨C+1,0,none⟩=some (.func (.func uD) #[] (HT J))
 seen:yh J w
 low:J.W0.heap.size≤C
 own:∀b,eA C b→l3 w b
 flat:∀b,J.Z b→ER J.W0 b→ER w b
structure WF (C:Nat)(w:World):Prop where
 m:WM J C w
 live:WgLive 116 J.Wg w
structure TF (T:Array Value):Prop where
 size:T.size=21
 t0:T[0]?=some (.pointer (some ⟨J.bt,0,none⟩))
 t1:T[1]?=some (.pointer (some ⟨J.bh,0,none⟩))
 t2:T[2]?=some (.pointer (some ⟨J.bb,0,none⟩))
 t6:T[6]?=some (.chan (some J.ct))
structure fX:Prop where
 zt:J.Z J.bt
 zh:J.Z J.bh
 zb:J.Z J.bb
 Ms:∀b,J.Z b→b<J.W0.heap.size
 todo:J.W0.cell? ⟨J.bt,0,none⟩=some (.chan (some J.ct))
 how:J.W0.cell? ⟨J.bh,0,none⟩=some J.how
 back:J.W0.cell? ⟨J.bb,0,none⟩=some (.chan (some J.cb))
end
def H8 (J:iB)(C:Nat)(w w1:World):Prop:=(∀b,eA C b∨J.Z b→w1.heap[b]?=w.heap[b]?)∧(WgLive 116 J.Wg w→WgLive 116 J.Wg w1)
def DJ (J:iB)(C:Nat)(w w':World)(es:Array Event):Prop:=w'=w∧∀e∈es,iU (eA C) J.Z e
section
variable {J:iB}{C n:Nat}{w w1:World}{R:World→World→Prop}{g:Goroutine}{Stop:Goroutine→World→Prop}
theorem ri {o:Nat}{v:Value}(h:w.cell? ⟨b,o,none⟩=some v)(hb:w1.heap[b]?=w.heap[b]?):w1.cell? ⟨b,o,none⟩=some v:=by
 rw[←h];simp[World.cell?,hb]
theorem l3.keep (h:l3 w b)(k:w1.heap[b]?=w.heap[b]?):l3 w1 b:=let ⟨o,e,x⟩:=h;⟨o,k.trans e,x⟩
theorem WM.keep (h:WM J C w)(r:∀b,eA C b∨J.Z b→w1.heap[b]?=w.heap[b]?):WM J C w1 :=
 ⟨ri h.wg (r _ (.inl (.inl rfl))),ri h.fn (r _ (.inl (.inr rfl))),fun b o v hb hv=>ri (h.seen b o v hb hv) (r b (.inr hb)),h.low,fun b hb=>(h.own b hb).keep (r b (.inl hb)),fun b hb hf=>let ⟨c,t,e⟩:=h.flat b hb hf;⟨c,t,(r b (.inr hb)).trans e⟩⟩
theorem WF.rely (h:WF J C w)(r:H8 J C w w1):WF J C w1:=⟨h.m.keep r.1,r.2 h.live⟩
theorem WF.todo (h:WF J C w)(ok:fX J):w.cell? ⟨J.bt,0,none⟩=some (.chan (some J.ct)):=h.m.seen _ _ _ ok.zt ok.todo
theorem gz (w:World):DJ J C w w #[]:=⟨rfl,by simp⟩
theorem MA {o:Nat}(hb:eA C b∨J.Z b){es:Array Event}(h:∀e∈es,e=⟨.cell ⟨b,o,none⟩,false,false⟩):DJ J C w w es:=⟨rfl,fun e he=>by
 rw[h e he];exact⟨rfl,hb.imp id fun x=>⟨x,rfl⟩⟩⟩
theorem Mz {es:Array Event}(h:∀e∈es,False):DJ J C w w es:=⟨rfl,fun e he=>(h e he).elim⟩
theorem zvT (T:Array Value)(h:T.size=21):∃v0 v1 v2 v3 v4 v5 v6 v7 v8 v9 v10 v11 Aj Ak Al Am An Ao Ap Aq v20:Value,T = #[v0,v1,v2,v3,v4,v5,v6,v7,v8,v9,v10,v11,Aj,Ak,Al,Am,An,Ao,Ap,Aq,v20]:=by
 obtain⟨l⟩:=T;simp only[List.size_toArray]at h
 iterate 21
  obtain _ | ⟨_,l⟩:=l
  ·simp at h
 obtain _ | ⟨_,l⟩:=l
 ·exact⟨_,_,_,_,_,_,_,_,_,_,_,_,_,_,_,_,_,_,_,_,_,rfl⟩
 ·simp at h
theorem zpP (C:Nat)(w:World):stepG prog false (Go.Conc.born prog (A4 C)) w =
  .go (G ((baseD z7).at ⟨#[.pointer (some ⟨C,0,none⟩),.pointer (some ⟨C+1,0,none⟩),undef,undef,undef],[]⟩ [.code (u3.body.getD .skip)]) [bot]) w #[]:=by
 simp[Go.Conc.born,A4,stepG,unwind,callDeferred,invoke,callFunc,func77,u3,Tryz.f77,seen,GStep.after,G,Frame.enter,Frame.at,baseD,bot]
theorem Y9 {P:Program}{main:Bool}{b:Frame}{a:Act}{k:List Item}{cs:List Frame}{ops:Array Oper}{i:Nat}{rest:List Nat}{o:Oper}{f:FuncId}{x:Operand}{cW:Array Value}{yp:Array TypeId}(ho:ops[i]?=some o)(hw:Region.wanted o (yielded ops a.tmps)=true)(hk:b.kind≠.early)
  (cN:o.op=.defer { callee:=.value x,args:=#[],argTypes:=yp }) (hx:a.eval x=.func (.func f) #[] cW) :
  stepG P main (G (b.at a (.inRegion ops (i::rest)::k)) cs) w=.go (G (b.at (Act.put ⟨a.tmps,{ target:=.fn (.func f) cW,args:=#[] }::a.defers⟩ o.dst undef) (.inRegion ops rest::k)) cs) w #[]:=by
 have hr:(execOp a.eval o).run P w=.ok (.defer { target:=.fn (.func f) cW,args:=#[] }) w:=by
  unfold execOp;simp[cN,resolve,Deferred.ofValue,hx]
 have he:(execOp a.eval o).events P w #[] = #[]:=by
  unfold execOp;simp[cN,resolve,Deferred.ofValue,hx]
 have cx:(b.at ⟨a.tmps,{ target:=.fn (.func f) cW,args:=#[] }::a.defers⟩ (.inRegion ops (i::rest)::k)).finish undef=b.at (Act.put ⟨a.tmps,{ target:=.fn (.func f) cW,args:=#[] }::a.defers⟩ o.dst undef) (.inRegion ops rest::k):=by rw[Frame.finish_at,ho];rfl
 have gO:(b.kind == CallKind.early)=false:=by simpa using hk
 rw[stepG_oper ho hw,←cx];simp[stepG.apply,hr,he,G,Frame.at,gO,GStep.after,seen_none]
theorem zoQ {P:Program}{main:Bool}{b:Frame}{a:Act}{k:List Item}{cs:List Frame}{ops:Array Oper}{i:Nat}{rest:List Nat}{o:Oper}{f:FuncId}{fn:Func}{c:Code}{x:Operand}{cW:Array Value}{yp:Array TypeId}{K:Goroutine→World→Array Event→Prop}(ho:ops[i]?=some o)(hw:Region.wanted o (yielded ops a.tmps)=true)(hk:b.kind≠.early)
  (cN : o.op = .call { callee := .value x, args := #[], argTypes := yp }) (hx : a.eval x = .func (.func f) #[] cW) (hf : P.funcs[f]? = some fn) (eG : (fn.name == "runtime.NumGoroutine") = false) (hb : fn.body = some c)
  (h:K (G ((base f).at { tmps:=cW++Array.replicate (fn.ntmps-cW.size) undef,defers:=[] } [.code c]) (b.at a (.inRegion ops (i::rest)::k)::cs)) w #[]) :
  (stepG P main (G (b.at a (.inRegion ops (i::rest)::k)) cs) w).goes K:=by
 have h1 : ¬ fn.name = "runtime.NumGoroutine" := by simpa using eG
 have h2:¬fn.body=none:=by simp[hb]
 have hr:(execOp a.eval o).run P w=.ok (.enter f cW) w:=by
  unfold execOp;simp[cN,resolve,Deferred.ofValue,invoke,callFunc,hx,hf,h1,h2]
 have he:listed P b.fn a o w = #[]:=by
  unfold listed execOp;simp[cN,resolve,Deferred.ofValue,invoke,callFunc,hx,hf,h1,h2,seen_none]
 rw[stepG_enter ho hw hk hr,enter_at _ hf hb,he];exact h
def H5 (J:iB)(C:Nat)(g:Goroutine)(w:World):Prop:=∃T:Array Value,TF J T∧g=G (gu T) [qc J C,bot]∧WF J C w
set_option maxRecDepth 100000 in
set_option maxHeartbeats 4000000 in
theorem zwp (ok:fX J)(hF:WF J C w):Goes prog false (H8 J C) (DJ J C) (H5 J C) 30 (Go.Conc.born prog (A4 C)) w:=by
 obtain⟨b⟩:=kd
 letI kd:Kd:=⟨b⟩
 cases b
 all_goals
  refine Goes.step rfl (fun _ h₁=>?_);replace hF:=hF.rely h₁;rw[zpP];simp only[goes_go];refine⟨gz _,?_⟩;simp only[u3,Tryz.f77,Option.getD_some];refine Goes.step rfl (fun _ h₁=>?_);replace hF:=hF.rely h₁;rw[stepG_seq];simp only[goes_go];refine⟨gz _,?_⟩;refine Goes.step rfl (fun _ h₁=>?_);replace hF:=hF.rely h₁;rw[stepG_region];simp only[goes_go,List.size_toArray,List.length_cons,List.length_nil,Nat.reduceAdd,Nat.zero_add,List.range,List.range.loop];refine⟨gz _,?_⟩;refine Goes.step rfl (fun _ h₁=>?_);replace hF:=hF.rely h₁;refine goes_oper_k rfl rfl (by k_ne) (fun K hK=>?_)
  go_simp
  refine hK _ _ ⟨?_,?_⟩
  ·refine Mz ?_;intro e he;have hm:=mem_listed he;simp[go_sem, *]at hm
  refine Goes.step rfl (fun _ h₁=>?_);replace hF:=hF.rely h₁;rw[Y9 rfl rfl (by k_ne) rfl (by rfl)];simp only[goes_go];refine⟨gz _,?_⟩;refine Goes.step rfl (fun _ h₁=>?_);replace hF:=hF.rely h₁;rw[stepG_region_end];simp only[goes_go];refine⟨gz _,?_⟩;refine Goes.step rfl (fun _ h₁=>?_);replace hF:=hF.rely h₁;rw[stepG_region];simp only[goes_go,List.size_toArray,List.length_cons,List.length_nil,Nat.reduceAdd,Nat.zero_add,List.range,List.range.loop];refine⟨gz _,?_⟩;refine Goes.step rfl (fun _ h₁=>?_);replace hF:=hF.rely h₁;refine goes_oper_k rfl rfl (by k_ne) (fun K hK=>?_);have Bl:=hF.m.fn
  go_simp
  refine hK _ _ ⟨?_,?_⟩
  ·refine MA (b:=C+1) (.inl (.inr rfl)) (o:=0) ?_;intro e he;have hm:=mem_listed he;simp[go_sem, *]at hm;exact hm
  refine Goes.step rfl (fun _ h₁=>?_);replace hF:=hF.rely h₁;refine zoQ rfl rfl (by k_ne) rfl (by rfl) UX zk rfl ⟨gz _,?_⟩;simp only[zym,zyn,Tryz.f58,Tryz.f37,HT]
  walk_nrm
  refine Goes.step rfl (fun _ h₁=>?_);replace hF:=hF.rely h₁;rw[stepG_seq];simp only[goes_go];refine⟨gz _,?_⟩;refine Goes.step rfl (fun _ h₁=>?_);replace hF:=hF.rely h₁;rw[stepG_region];simp only[goes_go,List.size_toArray,List.length_cons,List.length_nil,Nat.reduceAdd,Nat.zero_add,List.range,List.range.loop];refine⟨gz _,?_⟩;refine Goes.step rfl (fun _ h₁=>?_);replace hF:=hF.rely h₁;refine goes_oper_k rfl rfl (by k_ne) (fun K hK=>?_);have Bl:=hF.todo ok
  go_simp
  refine hK _ _ ⟨?_,?_⟩
  ·refine MA (b:=J.bt) (.inr ok.zt) (o:=0) ?_;intro e he;have hm:=mem_listed he;simp[go_sem, *]at hm;exact hm
  refine Goes.step rfl (fun _ h₁=>?_);replace hF:=hF.rely h₁;rw[stepG_region_end];simp only[goes_go];refine⟨gz _,?_⟩;refine Goes.step rfl (fun _ h₁=>?_);replace hF:=hF.rely h₁;rw[stepG_block];simp only[goes_go];refine⟨gz _,?_⟩;refine Goes.step rfl (fun _ h₁=>?_);replace hF:=hF.rely h₁;rw[stepG_loop];simp only[goes_go];refine⟨gz _,?_⟩;refine Goes.step rfl (fun _ h₁=>?_);replace hF:=hF.rely h₁;rw[stepG_seq];simp only[goes_go];refine⟨gz _,?_⟩;refine Goes.step rfl (fun _ h₁=>?_);replace hF:=hF.rely h₁;rw[stepG_region];simp only[goes_go,List.size_toArray,List.length_cons,List.length_nil,Nat.reduceAdd,Nat.zero_add,List.range,List.range.loop];refine⟨gz _,?_⟩;refine Goes.stop (fun w₁ h₁=>?_);refine⟨_,?_,rfl,hF.rely h₁⟩;exact⟨rfl,rfl,rfl,rfl,rfl⟩
end
end Pool
end Go.Proofs.YtggfpjldhglmeaaGreatDoor