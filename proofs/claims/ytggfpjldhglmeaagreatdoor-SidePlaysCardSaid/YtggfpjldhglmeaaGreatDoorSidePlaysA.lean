/-
  Texts of this claim, joined: ZM0, GapA, GapB, GapC, GapD, EvA, EvB, EvC.
-/
import Derived.KernelRfl
import Derived.Conc.CompanyDraw
import Derived.Conc.Listed
import Derived.OrdersHeld
import Derived.Laws.Sem
import Derived.Conc.Events
import Derived.Conc.Own4
import Derived.Conc.Own5
import Derived.Tactics
import Derived.Orders
import Derived.Laws.BitsLemmas
set_option linter.unusedSectionVars false
set_option linter.unusedSimpArgs false
set_option linter.unusedVariables false
set_option maxRecDepth 20000
namespace Go.Proofs.YtggfpjldhglmeaaGreatDoor
open Go
section
variable {p:Prop}
theorem zo (h:p:=by omega):p:=h
theorem zk (h:p:=by kernel_rfl):p:=h
theorem zd (h:p:=by decide):p:=h
theorem zi (h:p:=by simp):p:=h
theorem zl {a b:Nat}(h:Nat.ble a b=true:=by rfl):a≤b:=Nat.le_of_ble_eq_true h
theorem zs (h:p:=by repeat' first|exact trivial|refine⟨rfl,?_⟩):p:=h
theorem zE {q:Prop}(k:q)(h:q→p:=by intro k;repeat ((conv=>whnf);(first|apply aI.mk|refine ag.mk zo zo ?_|refine ao.mk zo zo ?_|refine bO.mk zd ?_));exact k):p:=h k
theorem zP {q:Prop}(k:q)(h:q→p:=by intro k;(conv=>whnf);first|apply aI.mk|refine ag.mk zo zo ?_|refine ao.mk zo zo ?_|refine bO.mk zd ?_;exact k):p:=h k
theorem zA (h:p:=by first|with_reducible exact eV _|with_reducible exact GK _|with_reducible exact Lr _|with_reducible exact js _|with_reducible exact La _|with_reducible exact YA _|with_reducible exact ZG _|with_reducible exact ZF _|with_reducible exact PC _|with_reducible exact PD _|with_reducible exact Gg _|with_reducible exact Zf _ _ _ _|with_reducible exact Gl _|with_reducible exact zpb _ _ _|with_reducible exact Pb _ _|with_reducible exact dK _ _ _|with_reducible exact KL _ _|with_reducible exact fM _ _ _|with_reducible exact PE _|with_reducible exact Pd _|with_reducible exact PL _ _|with_reducible exact dh _ _|with_reducible exact fB _|with_reducible exact dV _|with_reducible exact Qg _ _|with_reducible exact Zt _|with_reducible exact Yp _|with_reducible exact fL _):p:=h
theorem zC (h:p:=by repeat' first|exact zA|with_reducible refine af ?_ fun _=>?_|with_reducible refine nz ?_|with_reducible refine qD ?_ ?_|split|exact trivial|dsimp only):p:=h
end
namespace Gap
open Go.Conc
variable {α β:Type}{a:Addr}{O Z:Nat→Prop}{P:Program}{k:Sem α}{t:TypeId}{x:Value}{W W' W1 w w' w1 w2:World}{v:α}{f:α→Sem β}
def BS:Obj→Bool
 | .cells .. | .map .. | .mapIter .. | .stringIter .. | .chan ..=>true
 | _=>false
def mI:Obj→Bool
 | .cells c _ (_,m)=>!Nat.beq m (c.size+3)
 | o=>BS o
theorem Lm:∀{o:Obj},mI o=true→BS o=true
 | .cells ..,_=>rfl
 | .map ..,h | .mapIter ..,h | .stringIter ..,h | .chan ..,h=>h
theorem oA {c:Array Value}  {k m:Nat}(h:m≠c.size+3):mI (.cells c t (k,m))=true:=by
 show(!Nat.beq m (c.size+3))=true;cases hb:Nat.beq m (c.size+3) with
 | false=>rfl
 | true=>exact absurd (Nat.eq_of_beq_eq_true hb) h
def kv:Obj→Bool
 | .cells c _ (k,m)=>Nat.beq k 0&&(Nat.beq m 0||Nat.beq m (c.size+3))
 | _=>false
def fQ (O:Nat→Prop)(w w':World):Nat→Prop:=fun b=>O b∨(w.heap.size≤b∧b<w'.heap.size)
def iU (O Z:Nat→Prop)(e:Event):Prop :=
 match e.loc with
 | .cell a=>e.sync=false∧(O a.block∨(Z a.block∧e.write=false))
 | .obj r=>(e.sync=false∨e.write=false)∧O r
 | .mark .noRoom=>True
 | .mark (.extern _)=>True
 | _=>False
structure cv (O Z:Nat→Prop)(w w1:World):Prop where
 os:w1.os=w.os
 tape:w1.tape=w.tape
 output:w1.output=w.output
 size:w.heap.size≤w1.heap.size
 keep:∀b,O b∨Z b→w1.heap[b]?=w.heap[b]?
structure iW (O Z:Nat→Prop)(w w':World)(es:Array Event):Prop where
 os:w'.os=w.os
 tape:w'.tape=w.tape
 output:w'.output=w.output
 size:w.heap.size≤w'.heap.size
 keep:∀b,b<w.heap.size→¬O b→w'.heap[b]?=w.heap[b]?
 evs:∀e∈es,iU (fQ O w w') Z e
section
theorem cv.refl (w:World):cv O Z w w:=⟨rfl,rfl,rfl,Nat.le_refl _,fun _ _=>rfl⟩
theorem cv.trans (h:cv O Z w w1)(k:cv O Z w1 w2):cv O Z w w2:=⟨k.os.trans h.os,k.tape.trans h.tape,k.output.trans h.output,Nat.le_trans h.size k.size,fun b hb=>(k.keep b hb).trans (h.keep b hb)⟩
theorem GF (h1:w.heap.size≤w1.heap.size)(h2:w1.heap.size≤w2.heap.size):fQ (fQ O w w1) w1 w2=fQ O w w2:=by
 funext b
 simp only[fQ,eq_iff_iff];constructor
 ·rintro((h | ⟨h,h'⟩) | ⟨h,h'⟩)
  ·exact .inl h
  ·exact .inr ⟨h,by omega⟩
  ·exact .inr ⟨by omega,h'⟩
 ·rintro(h | ⟨h,h'⟩)
  ·exact .inl (.inl h)
  ·by_cases hb:b<w1.heap.size
   ·exact .inl (.inr ⟨h,hb⟩)
   ·exact .inr ⟨by omega,h'⟩
theorem Hg (h:w'.heap.size=w.heap.size):fQ O w w'=O:=by
 funext b
 simp only[fQ,eq_iff_iff,h];exact⟨fun x=>x.elim id fun x=>by omega,.inl⟩
theorem eM (w:World):fQ O w w=O:=Hg rfl
theorem iU.mono {O':Nat→Prop}{e:Event}(h:iU O Z e)(ho:∀b,O b→O' b):iU O' Z e:=by
 unfold iU at *;split at h
 ·exact⟨h.1,h.2.imp (ho _) id⟩
 ·exact⟨h.1,ho _ h.2⟩
 ·trivial
 ·trivial
 ·exact h.elim
theorem iW.refl (w:World):iW O Z w w #[]:=⟨rfl,rfl,rfl,Nat.le_refl _,fun _ _ _=>rfl,by simp⟩
end
class Leaps where
 me:Program→Bool→(Nat→Prop)→(Nat→Prop)→Goroutine→World→((Nat→Prop)→Goroutine→World→Prop)→Prop
@[reducible] def uH:Leaps:=⟨fun _ _ _ _ _ _ _=>False⟩
section
variable [Leaps] (P:Program) (main:Bool) (Z:Nat→Prop) (Stop:(Nat→Prop)→Goroutine→World→Prop)
inductive Way:(Nat→Prop)→Goroutine→World→Prop
 | stop {O:Nat→Prop} {g:Goroutine} {W:World}:(∀W1,cv O Z W W1→Stop O g W1)→Way O g W
 | step {O:Nat→Prop} {g:Goroutine} {W:World}:g.status=.running→(∀W1,cv O Z W W1→∃g' W' es,stepG P main g W1=.go g' W' es∧iW O Z W1 W' es) →
   (∀W1 g' W' es,cv O Z W W1→stepG P main g W1=.go g' W' es→Way (fQ O W1 W') g' W')→Way O g W
 | me {O:Nat→Prop} {g:Goroutine} {W:World} (T:(Nat→Prop)→Goroutine→World→Prop):g.status=.running→(∀W1,cv O Z W W1→Leaps.me P main Z O g W1 T)→(∀O' g' W',T O' g' W'→Way O' g' W')→Way O g W
end
section
variable [Leaps] {P:Program}{main:Bool}{Z:Nat→Prop}{Stop:(Nat→Prop)→Goroutine→World→Prop}{O:Nat→Prop}{g:Goroutine}{W W1:World}
theorem Way.rely (h:Way P main Z Stop O g W)(r:cv O Z W W1):Way P main Z Stop O g W1:=by
 cases h with
 | stop h=>exact .stop fun W2 h2=>h W2 (r.trans h2)
 | step hs h k=>exact .step hs (fun W2 h2=>h W2 (r.trans h2)) fun W2 g' W' es h2=>k W2 g' W' es (r.trans h2)
 | me T hs h k=>exact .me T hs (fun W2 h2=>h W2 (r.trans h2)) k
theorem Way.next (hs:g.status=.running)(h:∀W1,cv O Z W W1→∃g' W' es,stepG P main g W1=.go g' W' es∧iW O Z W1 W' es∧Way P main Z Stop (fQ O W1 W') g' W'):Way P main Z Stop O g W:=by
 refine .step hs (fun W1 h1=>?_) fun W1 g' W' es h1 he=>?_
 ·obtain⟨g',W',es,e,hg,_⟩:=h W1 h1;exact⟨g',W',es,e,hg⟩
 ·obtain⟨g2,W2,Fu,e,_,hw⟩:=h W1 h1;rw[he]at e;injection e with e1 e2 e3
  subst e1 e2;exact hw
theorem Way.ctl {g':Goroutine}(hs:g.status=.running)(h:∀w,stepG P main g w=.go g' w)(hw:Way P main Z Stop O g' W):Way P main Z Stop O g W :=
 .next hs fun W1 h1=>⟨g',W1,#[],h W1,.refl _,by rw[eM];exact hw.rely h1⟩
end
def we (c:Array Value)(t:TypeId)(f:Nat × Nat):Obj:=.cells c t (0,c.size+if f=(0,0) then 3 else 2)
theorem gJ {c c':Array Value}{t':TypeId}{f:Nat × Nat}(h:Obj.cells c t (0,0)=we c' t' f):False:=by
 unfold we at h;injection h with _ _ h
 injection h with _ h
 split at h<;>omega
def uS:Obj:=.cells #[] 0 (0,2)
structure dx (O Z:Nat→Prop)(w W:World):Prop where
 os:w.os=W.os
 tape:w.tape=W.tape
 output:w.output=W.output
 size:w.heap.size≤W.heap.size
 own:∀b,O b→∃o,w.heap[b]?=some o∧W.heap[b]?=some o∧mI o=true
 rest:∀b o,¬O b→w.heap[b]?=some o→o=uS∨(Z b∧∃c t f,W.heap[b]?=some (.cells c t f)∧o=we c t f)
section
theorem dx.rely (h:dx O Z w W)(r:cv O Z W W1):dx O Z w W1:=by
 refine⟨h.os.trans r.os.symm,h.tape.trans r.tape.symm,h.output.trans r.output.symm,Nat.le_trans h.size r.size,fun b hb=>?_,fun b o hb ho=>?_⟩
 ·obtain⟨o,h1,h2,h3⟩:=h.own b hb;exact⟨o,h1,(r.keep b (.inl hb)).trans h2,h3⟩
 ·rcases h.rest b o hb ho with h1 | ⟨hz,c,t,f,h1,h2⟩
  ·exact .inl h1
  ·exact .inr ⟨hz,c,t,f,(r.keep b (.inr hz)).trans h1,h2⟩
theorem dx.obj (h:dx O Z w W){b:Nat}{o:Obj}(ho:w.heap[b]?=some o):BS o=true:=by
 by_cases hb:O b
 ·obtain⟨o',h1,_,h3⟩:=h.own b hb;rw[h1]at ho;cases ho;exact Lm h3
 ·rcases h.rest b o hb ho with rfl | ⟨_,c,t,f,_,rfl⟩<;>rfl
theorem Hi (h:dx O Z w W){b:Nat}{o:Obj}(ho:w.heap[b]?=some o)(hf:kv o=true):∃c t,W.heap[b]?=some (.cells c t (0,0)):=by
 by_cases hb:O b
 ·obtain⟨o',h1,h2,h3⟩:=h.own b hb;rw[h1]at ho;cases ho;cases o<;>simp[kv]at hf;rename_i c t f;obtain⟨k,m⟩:=f;simp[mI]at h3;simp at hf;obtain⟨rfl,hf|hf⟩:=hf
  ·subst hf;exact⟨c,t,h2⟩
  ·exact absurd hf (Nat.ne_of_beq_eq_false h3)
 ·rcases h.rest b o hb ho with rfl | ⟨_,c,t,f,h1,rfl⟩
  ·cases hf
  ·by_cases e:f=(0,0)
   ·subst e;exact⟨c,t,h1⟩
   ·simp[we,kv,e]at hf
theorem dx.cell (h:dx O Z w W){a:Addr}{v:Value}(hc:w.cell? a=some v):W.cell? a=some v∧(O a.block∨Z a.block∧w.frozen? a=true):=by
 unfold World.cell? at hc ⊢;split at hc
 ·rename_i c t f ho;by_cases hb:O a.block
  ·obtain⟨o',h1,h2,_⟩:=h.own _ hb;rw[h1]at ho;cases ho;rw[h2];exact⟨hc,.inl hb⟩
  ·rcases h.rest _ _ hb ho with he | ⟨hz,c',t',f',h1,he⟩
   ·cases he;split at hc
    ·cases hc
    ·simp at hc
   ·unfold we at he;cases he;rw[h1];refine⟨hc,.inr ⟨hz,?_⟩⟩;split at hc
    ·cases hc
    ·have:a.off<c.size:=(Array.getElem?_eq_some_iff.1 hc).1;simp only[World.frozen?,ho,Bool.and_eq_true,decide_eq_true_eq];split<;>omega
 ·cases hc
end
def bD:Sem α→Prop
 | .pure _=>False
 | .load _ _ k=>∀v,bD (k v)
 | .store _ _ _ k=>bD k
 | .new _ k=>∀r,bD (k r)
 | .shape _ k=>∀s,bD (k s)
 | .freeze _ _ k=>bD k
 | .frozen _ k=>∀b,bD (k b)
 | .getObj _ k=>∀o,bD (k o)
 | .setObj _ _ k=>bD k
 | .choose _ k=>∀n,bD (k n)
 | .sys _ k=>∀r,bD (k r)
 | .program k=>∀p,bD (k p)
 | .mark _ k=>bD k
 | .halt _=>True
theorem bD.bind:∀{s:Sem α} {f:α→Sem β},bD s∨(∀a,bD (f a))→bD (s.bind f)
 | .pure a,f,h=>h.elim False.elim fun h=>h a
 | .load _ _ k,f,h=>fun v=>bD.bind (h.imp (fun h=>h v) id)
 | .store _ _ _ k,f,h=>bD.bind (s:=k) h
 | .new _ k,f,h=>fun v=>bD.bind (h.imp (fun h=>h v) id)
 | .shape _ k,f,h=>fun v=>bD.bind (h.imp (fun h=>h v) id)
 | .freeze _ _ k,f,h=>bD.bind (s:=k) h
 | .frozen _ k,f,h=>fun v=>bD.bind (h.imp (fun h=>h v) id)
 | .getObj _ k,f,h=>fun v=>bD.bind (h.imp (fun h=>h v) id)
 | .setObj _ _ k,f,h=>bD.bind (s:=k) h
 | .choose _ k,f,h=>fun v=>bD.bind (h.imp (fun h=>h v) id)
 | .sys _ k,f,h=>fun v=>bD.bind (h.imp (fun h=>h v) id)
 | .program k,f,h=>fun v=>bD.bind (h.imp (fun h=>h v) id)
 | .mark _ k,f,h=>bD.bind (s:=k) h
 | .halt _,f,_=>trivial
theorem mG:∀{s:Sem α} {w w':World} {v:α},bD s→s.run P w≠.ok v w'
 | .pure _,_,_,_,h=>h.elim
 | .load m a k,w,w',v,h=>by
  unfold Sem.run;split
  ·exact mG (h _)
  ·split
   ·exact mG (h _)
   ·simp
 | .store m a x k,w,w',v,h=>by
  have hk:∀w,k.run P w≠.ok v w':=fun w=>mG (s:=k) h
  cases x<;>unfold Sem.run<;>(repeat' split)<;>first|exact hk _|(intro e;cases e)
 | .new o k,w,w',v,h=>mG (s:=k w.heap.size) (h _)
 | .shape r k,w,w',v,h=>mG (s:=k (w.shape? r)) (h _)
 | .freeze a n k,w,w',v,h=>mG (s:=k) h
 | .frozen a k,w,w',v,h=>mG (s:=k (w.frozen? a)) (h _)
 | .getObj r k,w,w',v,h=>by
  unfold Sem.run;split
  ·simp
  ·exact mG (h _)
  ·simp
 | .setObj r o k,w,w',v,h=>by
  unfold Sem.run;split
  ·simp
  ·exact mG (s:=k) h
  ·simp
 | .choose q k,w,w',v,h=>by
  unfold Sem.run;split
  ·exact mG (h _)
  ·exact mG (h _)
 | .sys c k,w,w',v,h=>mG (s:=k (w.sys c).1) (h _)
 | .program k,w,w',v,h=>mG (s:=k P) (h _)
 | .mark m k,w,w',v,h=>mG (s:=k) h
 | .halt _,w,w',v,_=>by simp[Sem.run]
def Plain (P:Program){α:Type}:Sem α→Prop
 | .pure _=>True
 | .load m _ k=>m=.plain∧∀v,Plain P (k v)
 | .store m _ _ k=>m=.plain∧Plain P k
 | .new o k=>mI o=true∧∀r,Plain P (k r)
 | .shape _ k=>∀s,bD (k s)
 | .freeze _ _ k=>bD k
 | .frozen _ k=>∀b,bD (k b)
 | .getObj _ k=>∀o,BS o=true→Plain P (k o)
 | .setObj _ o k=>(mI o=true∧o.isChan=false)∧Plain P k
 | .choose _ k=>∀n,Plain P (k n)
 | .sys _ _=>False
 | .program k=>Plain P (k P)
 | .mark m k=>(m=.noRoom∨∃f,m=.extern f)∧Plain P k
 | .halt _=>True
theorem Plain.bind:∀{s:Sem α} {f:α→Sem β},Plain P s→(∀a,Plain P (f a))→Plain P (s.bind f)
 | .pure a,f,_,hf=>hf a
 | .load _ _ k,f,h,hf=>⟨h.1,fun v=>Plain.bind (h.2 v) hf⟩
 | .store _ _ _ k,f,h,hf=>⟨h.1,Plain.bind h.2 hf⟩
 | .new _ k,f,h,hf=>⟨h.1,fun v=>Plain.bind (h.2 v) hf⟩
 | .shape _ k,f,h,hf=>fun v=>bD.bind (.inl (h v))
 | .freeze _ _ k,f,h,hf=>bD.bind (s:=k) (.inl h)
 | .frozen _ k,f,h,hf=>fun v=>bD.bind (.inl (h v))
 | .getObj _ k,f,h,hf=>fun o ho=>Plain.bind (h o ho) hf
 | .setObj _ _ k,f,h,hf=>⟨h.1,Plain.bind h.2 hf⟩
 | .choose _ k,f,h,hf=>fun n=>Plain.bind (h n) hf
 | .sys _ _,f,h,hf=>h.elim
 | .program k,f,h,hf=>Plain.bind (s:=k P) h hf
 | .mark _ k,f,h,hf=>⟨h.1,Plain.bind h.2 hf⟩
 | .halt _,f,_,_=>trivial
section
theorem af {s:Sem α}(h:Plain P s)(hf:∀a,Plain P (f a)):Plain P (s >>= f):=Plain.bind h hf
theorem fL (a:α):Plain P (Pure.pure a:Sem α):=trivial
theorem nz {s:Sem α}{f:α→β}(h:Plain P s):Plain P (Functor.map f s):=Plain.bind h fun _=>trivial
theorem qD {c:Prop}[Decidable c]{x y:Sem α}(hx:Plain P x)(hy:Plain P y):Plain P (if c then x else y):=by split;exact hx;exact hy
theorem dV (a:Addr):Plain P (load a):=⟨rfl,fun _=>trivial⟩
theorem Qg (a:Addr)(v:Value):Plain P (store a v):=⟨rfl,trivial⟩
theorem G0 {o:Obj}(h:mI o=true):Plain P (newObj o):=⟨h,fun _=>trivial⟩
theorem PH (r:Nat){β:Type}{f:Obj→Sem β}(h:∀o,BS o=true→Plain P (f o)):Plain P (getObj r >>= f):=fun o ho=>h o ho
theorem PM (r:Nat){o:Obj}(h:mI o=true)(hc:o.isChan=false:=by rfl):Plain P (setObj r o):=⟨⟨h,hc⟩,trivial⟩
theorem PE (q:Question):Plain P (choose q):=fun _=>trivial
theorem Zt (s:String):Plain P (stuck s:Sem α):=trivial
theorem Yp (u:Unsupported):Plain P (unsupported u:Sem α):=trivial
theorem Pd (n:Nat):Plain P (askRoom n):=by unfold askRoom;split;exact⟨.inl rfl,trivial⟩;exact trivial
theorem eN {f:Program→Sem β}(h:Plain P (f P)):Plain P (program >>= f):=h
theorem La (t:TypeId):Plain P (typeInfo t):=by
 unfold typeInfo;refine eN ?_;split<;>trivial
theorem eV (t:TypeId):Plain P (underlying t):=by
 unfold underlying;refine eN ?_;split<;>trivial
theorem aO {d:TypeDesc}  {f:TypeDesc→Sem β}(h:P.underlying t=some d)(hf:Plain P (f d)):Plain P (underlying t >>= f):=by
 unfold underlying
 show Plain P ((match P.underlying t with | some d => pure d | none => stuck "no such type") >>= f)
 rw[h];exact hf
theorem GK (t:TypeId):Plain P (sizeOf t):=af (La t) fun _=>trivial
theorem Lr (t:TypeId):Plain P (isAgg t):=af (eV t) fun d=>by cases d<;>trivial
theorem js (t:TypeId):Plain P (zeroValue t):=af (La t) fun i=>by
 split<;>trivial
theorem OV (a:Addr):∀(n i:Nat) (acc:Array Value),Plain P (loadCellsFrom a i n acc)
 | 0,_,_=>trivial
 | n+1,i,acc=>af (dV _) fun v=>OV a n (i+1) (acc.push v)
theorem Pb (a:Addr)(n:Nat):Plain P (loadCells a n):=OV a n 0 #[]
theorem dK (a:Addr):∀(vs:List Value) (i:Nat),Plain P (storeCells a vs i)
 | [],_=>trivial
 | v::r,i=>af (Qg _ _) fun _=>dK a r (i+1)
theorem KL (t:TypeId)(a:Addr):Plain P (loadVar t a):=by
 unfold loadVar;refine af (Lr t) fun b=>?_
 split
 ·exact af (GK t) fun n=>nz (Pb a n)
 ·exact dV a
theorem fM (t:TypeId)(a:Addr)(v:Value):Plain P (storeVar t a v):=by
 unfold storeVar;refine af (GK t) fun n=>?_
 split
 ·trivial
 ·exact dK a _ 0
theorem PL (e:TypeId)(cs:Array Value):Plain P (newRow e cs):=af (G0 rfl) fun _=>trivial
theorem dh (t:TypeId)(v:Value):Plain P (newVar t v):=PL t _
theorem fB (t:TypeId):Plain P (elemOf t):=af (eV t) fun d=>by
 split<;>trivial
theorem zpb (t:TypeId)(cs:Array Value)(o:Nat):Plain P (part t cs o):=by
 unfold part;refine af (Lr t) fun b=>?_
 split
 ·exact af (GK t) fun _=>trivial
 ·split<;>trivial
theorem Gl (e:RuntimeError):Plain P (runtimePanic e:Sem α):=by
 unfold runtimePanic;refine eN ?_;split
 ·trivial
 ·trivial
 ·trivial
 ·trivial
 ·refine af (fB _) fun t=>af (dh _ _) fun r=>trivial
 ·refine af (fB _) fun t=>af (dh _ _) fun r=>trivial
 ·trivial
theorem Zf (k:IntKind)(x y:Int)(c:BoundsCode):Plain P (boundsPanic k x y c:Sem α):=by
 unfold boundsPanic;dsimp only;split
 ·exact af (nz (PE _)) fun _=>Gl _
 ·exact af trivial fun _=>Gl _
theorem PC (v:Value):Plain P (asAddr v):=by
 unfold asAddr;split
 ·trivial
 ·exact Gl _
 ·trivial
theorem ZG (v:Value):Plain P (asInt v):=by
 unfold asInt asIntOf;refine nz ?_;split<;>trivial
theorem PD (v:Value):Plain P (asBool v):=by
 unfold asBool;split<;>trivial
theorem Qe (h:∀a,Plain P (f a)):∀l:List α,Plain P (l.mapM f)
 | []=>trivial
 | x::l=>by
  rw[List.mapM_cons];exact af (h x) fun _=>af (Qe h l) fun _=>trivial
theorem QW (h:∀a,Plain P (f a))(l:Array α):Plain P (l.mapM f):=by
 rw[Array.mapM_eq_mapM_toList];exact nz (Qe h _)
theorem YE (fn:Func)(tmps:Array Value):Plain P (results fn tmps):=by
 unfold results;refine af (QW (fun r=>?_) _) fun vs=>trivial
 split
 ·trivial
 ·exact af (PC _) fun a=>KL _ _
end
section
def pV (w:World):Prop:=∀(b:Nat) (o:Obj),w.heap[b]?=some o→BS o=true
theorem dx.qa (h:dx O Z w W):pV w:=fun _ _ ho=>h.obj ho
theorem YW (h:pV w)(a:Addr)(hc:w.cell? a=none)(at_:Bool):∃e,w.farLoad P a at_=.error e:=by
 unfold World.farLoad;split
 ·rename_i ho;have:=h _ _ ho;cases this
 ·exact⟨_,rfl⟩
theorem YI (h:pV w)(a:Addr)(v:Value)(hc:w.cell? a=none)(at_:Bool):∃e,w.farStore P a v at_=.error e:=by
 unfold World.farStore;split
 ·rename_i ho;have:=h _ _ ho;cases this
 ·exact⟨_,rfl⟩
theorem YN (h:pV w)(a:Addr)(v:Value):pV (w.setCell a v):=by
 intro b o ho;simp only[World.setCell,Array.getElem?_modify]at ho;split at ho
 ·rename_i e;subst e;obtain⟨o',h1,h2⟩:=Option.map_eq_some_iff.1 ho;have:=h _ _ h1;subst h2;cases o'<;>first|rfl|exact this
 ·exact h b o ho
theorem QC (h:pV w){o:Obj}(ho:mI o=true):pV { w with heap:=w.heap.push o }:=by
 intro b o' hb;simp only[Array.getElem?_push]at hb;split at hb
 ·cases hb;exact Lm ho
 ·exact h b o' hb
theorem zpK (h:pV w){o:Obj}(r:Nat)(ho:mI o=true):pV { w with heap:=w.heap.setIfInBounds r o }:=by
 intro b o' hb;simp only[Array.getElem?_setIfInBounds]at hb;split at hb
 ·split at hb
  ·cases hb;exact Lm ho
  ·cases hb
 ·exact h b o' hb
def single:Value→Bool
 | .agg _ | .tuple _=>false
 | _=>true
theorem PQ {m:Mode}(hw:pV w)(h:(Sem.store m a x k).run P w=.ok v w') :
  single x=true∧(∃o,w.cell? a=some o)∧w.frozen? a=false∧k.run P (w.setCell a x)=.ok v w':=by
 have key:single x=true→(Sem.store m a x k).run P w=(match w.cell? a with
  | some _ => if w.frozen? a then .halt (.unsupported (.unsafePointer "a write to bytes that a string shares")) w else k.run P (w.setCell a x)
  | none=>match w.farStore P a x (m == .atomic) with
   | .ok (w,_)=>k.run P w
   | .error h=>.halt h w):=by
  intro hx;cases x<;>first|rfl|cases hx
 have hx:single x=true:=by
  cases x<;>first|rfl|cases h
 rw[key hx]at h;refine⟨hx,?_⟩;cases hc:w.cell? a with
 | none =>
  rw[hc]at h;obtain⟨e,he⟩:=YI (P:=P) hw a x hc (m == .atomic);simp only[he]at h;cases h
 | some o =>
  rw[hc]at h;simp only at h;split at h
  ·cases h
  ·rename_i hf;exact⟨⟨o,rfl⟩,by simpa using hf,h⟩
theorem Zk {m:Mode}(hx:single x=true){o:Value}(hc:w.cell? a=some o)(hf:w.frozen? a=false):(Sem.store m a x k).run P w=k.run P (w.setCell a x):=by
 have:(Sem.store m a x k).run P w=(match w.cell? a with
  | some _ => if w.frozen? a then .halt (.unsupported (.unsafePointer "a write to bytes that a string shares")) w else k.run P (w.setCell a x)
  | none=>match w.farStore P a x (m == .atomic) with
   | .ok (w,_)=>k.run P w
   | .error h=>.halt h w):=by cases x<;>first|rfl|cases hx
 rw[this,hc];simp[hf]
theorem Ys {m:Mode}(hx:single x=true){o:Value}(hc:w.cell? a=some o)(hf:w.frozen? a=false)(es:Array Event):(Sem.store m a x k).events P w es=k.events P (w.setCell a x) (es.push ⟨.cell a,true,m == .atomic⟩):=by
 have:(Sem.store m a x k).runT P w es=(match w.cell? a with
  | some _ => if w.frozen? a then (.halt (.unsupported (.unsafePointer "a write to bytes that a string shares")) w, es) else k.runT P (w.setCell a x) (es.push ⟨.cell a, true, m == .atomic⟩)
  | none=>match w.farStore P a x (m == .atomic) with
   | .ok (w,touched)=>k.runT P w (es++touched.toArray.map (⟨.cell ·,true,m == .atomic⟩))
   | .error h=>(.halt h w,es)):=by cases x<;>first|rfl|cases hx
 unfold Sem.events;rw[this,hc];simp[hf]
theorem P3 {m:Mode}  {k:Value→Sem α}(hw:pV w)(h:(Sem.load m a k).run P w=.ok v w'):∃x,w.cell? a=some x∧(k x).run P w=.ok v w':=by
 unfold Sem.run at h;cases hc:w.cell? a with
 | some x=>rw[hc]at h;exact⟨x,rfl,h⟩
 | none =>
  rw[hc]at h;obtain⟨e,he⟩:=YW (P:=P) hw a hc (m == .atomic);simp only[he]at h;cases h
theorem Pg {r:Nat}{k:Obj→Sem α}(h:(Sem.getObj r k).run P w=.ok v w'):∃o,w.heap[r]?=some o∧(∀c t f,o≠.cells c t f)∧(k o).run P w=.ok v w':=by
 unfold Sem.run at h;split at h
 ·cases h
 ·rename_i o hn ho;exact⟨o,ho,fun c t f e=>hn c t f e,h⟩
 ·cases h
theorem Ph {r:Nat}{o:Obj}(h:(Sem.setObj r o k).run P w=.ok v w'):∃o',w.heap[r]?=some o'∧(∀c t f,o'≠.cells c t f)∧k.run P { w with heap:=w.heap.setIfInBounds r o }=.ok v w':=by
 unfold Sem.run at h;split at h
 ·cases h
 ·rename_i o' hn ho;exact⟨o',ho,fun c t f e=>hn c t f e,h⟩
 ·cases h
theorem tZ:∀(s:Sem α) (w w':World) (v:α),Plain P s→pV w→s.run P w=.ok v w'→w.heap.size≤w'.heap.size∧w.drawn≤w'.drawn
 | .pure a,w,w',v,_,_,h=>by cases h;exact⟨Nat.le_refl _,Nat.le_refl _⟩
 | .load m a k,w,w',v,hp,hw,h=>by
  obtain⟨x,_,h1⟩:=P3 hw h;exact tZ _ w w' v (hp.2 _) hw h1
 | .store m a x k,w,w',v,hp,hw,h=>by
  obtain⟨_,_,_,h1⟩:=PQ hw h;have:=tZ k _ w' v hp.2 (YN hw a x) h1;simpa[World.setCell]using this
 | .new o k,w,w',v,hp,hw,h=>by
  have:=tZ (k w.heap.size) _ w' v (hp.2 _) (QC hw hp.1) h;simp at this;omega
 | .shape r k,w,_,_,hp,_,h=>absurd h (mG (s:=k (w.shape? r)) (hp _))
 | .freeze _ _ k,_,_,_,hp,_,h=>absurd h (mG (s:=k) hp)
 | .frozen a k,w,_,_,hp,_,h=>absurd h (mG (s:=k (w.frozen? a)) (hp _))
 | .getObj r k,w,w',v,hp,hw,h=>by
  obtain⟨o,ho,_,h1⟩:=Pg h;exact tZ (k o) w w' v (hp o (hw _ _ ho)) hw h1
 | .setObj r o k,w,w',v,hp,hw,h=>by
  obtain⟨o',ho,_,h1⟩:=Ph h;have:=tZ k _ w' v hp.2 (zpK hw r hp.1.1) h1;simpa using this
 | .choose q k,w,w',v,hp,hw,h=>by
  unfold Sem.run at h;split at h
  ·exact tZ _ w w' v (hp _) hw h
  ·have:=tZ _ { w with drawn:=w.drawn+1 } w' v (hp _) hw h;simp at this;omega
 | .sys _ _,_,_,_,hp,_,_=>hp.elim
 | .program k,w,w',v,hp,hw,h=>tZ (k P) w w' v hp hw h
 | .mark m k,w,w',v,hp,hw,h=>tZ k w w' v hp.2 hw h
 | .halt _,_,_,_,_,_,h=>by cases h
theorem ZA (h:dx O Z w W){a:Addr}{x y:Value}(hc:w.cell? a=some y)(hf:w.frozen? a=false):dx O Z (w.setCell a x) (W.setCell a x)∧W.cell? a=some y∧W.frozen? a=false∧O a.block:=by
 obtain⟨h1,h2⟩:=h.cell hc;have ho:O a.block:=h2.elim id fun h=>by rw[hf]at h;cases h.2
 obtain⟨o,e1,e2,e3⟩:=h.own _ ho
 have hm:∀(b:Nat),b≠a.block→(w.setCell a x).heap[b]?=w.heap[b]?∧(W.setCell a x).heap[b]?=W.heap[b]?:=fun b hb=>by
  simp only[World.setCell,Array.getElem?_modify,if_neg (Ne.symm hb)];exact⟨trivial,trivial⟩
 refine⟨⟨h.os,h.tape,h.output,by simpa[World.setCell]using h.size,fun b hb=>?_,fun b o' hb dk=>?_⟩,h1,?_,ho⟩
 ·by_cases Bc:b=a.block
  ·subst Bc;simp only[World.setCell,Array.getElem?_modify,if_true,e1,e2,Option.map_some];refine⟨_,rfl,rfl,?_⟩;cases o<;>first|exact e3|(simp only[mI]at e3 ⊢;split<;>simpa using e3)
  ·rw[(hm b Bc).1,(hm b Bc).2];exact h.own b hb
 ·have Bc:b≠a.block:=fun e=>hb (e ▸ ho)
  rw[(hm b Bc).1]at dk;rw[(hm b Bc).2];exact h.rest b o' hb dk
 ·unfold World.frozen? at hf ⊢;rw[e1]at hf;rw[e2];exact hf
theorem zta (h:dx O Z w W)(hs:w.heap.size=W.heap.size){o:Obj}(ho:mI o=true)(d:Nat):dx (fQ O W { W with heap:=W.heap.push o,drawn:=d }) Z { w with heap:=w.heap.push o,drawn:=d } { W with heap:=W.heap.push o,drawn:=d }:=by
 refine⟨h.os,h.tape,h.output,by simp[hs],fun b hb=>?_,fun b o' hb dk=>?_⟩;all_goals simp only[fQ,Array.size_push]at hb
 ·simp only[Array.getElem?_push,hs];by_cases dk:b=W.heap.size
  ·simp only[dk,if_true];exact⟨o,rfl,rfl,ho⟩
  ·simp only[dk,if_false];exact h.own b (hb.resolve_right zo)
 ·have yJ:b≠W.heap.size:=fun e=>hb (.inr ⟨by omega,by omega⟩)
  simp only[Array.getElem?_push,hs,yJ,if_false]at dk ⊢;exact h.rest b o' (fun x=>hb (.inl x)) dk
theorem Tt (h:dx O Z w W){r:Nat}{o o':Obj}(hr:w.heap[r]?=some o')(hn:∀c t f,o'≠.cells c t f)(ho:mI o=true) :
  dx O Z { w with heap:=w.heap.setIfInBounds r o } { W with heap:=W.heap.setIfInBounds r o }∧W.heap[r]?=some o'∧O r:=by
 have xi:O r:=by
  refine Classical.byContradiction fun hx=>?_
  rcases h.rest r o' hx hr with rfl | ⟨_,c,t,f,_,rfl⟩
  ·exact hn _ _ _ rfl
  ·exact hn _ _ _ rfl
 obtain⟨o2,e1,e2,e3⟩:=h.own r xi;rw[hr]at e1;cases e1;have l1:r<w.heap.size:=(Array.getElem?_eq_some_iff.1 hr).1;have l2:r<W.heap.size:=(Array.getElem?_eq_some_iff.1 e2).1;refine⟨⟨h.os,h.tape,h.output,by simpa using h.size,fun b hb=>?_,fun b o' hb dk=>?_⟩,e2,xi⟩
 ·by_cases lr:r=b
  ·subst lr;exact⟨o,by simp[l1],by simp[l2],ho⟩
  ·simp only[Array.getElem?_setIfInBounds_ne lr];exact h.own b hb
 ·have lr:r≠b:=fun e=>hb (e ▸ xi)
  simp only[Array.getElem?_setIfInBounds_ne lr]at dk ⊢;exact h.rest b o' hb dk
structure Does (P:Program){α:Type}(O Z:Nat→Prop)(s:Sem α)(W:World)(v:α)(W':World):Prop where
 run:s.run P W=.ok v W'
 os:W'.os=W.os
 tape:W'.tape=W.tape
 output:W'.output=W.output
 size:W.heap.size≤W'.heap.size
 keep:∀b,b<W.heap.size→¬O b→W'.heap[b]?=W.heap[b]?
 evs:∀e∈s.events P W #[],iU (fQ O W W') Z e
theorem dE (s:Sem α)(W:World)(es:Array Event){e:Event}(h:e∈s.events P W es):e∈es∨e∈s.events P W #[]:=by
 rw[Sem.events_acc]at h;exact Array.mem_append.1 h
theorem ru:∀(s:Sem α) (w W w':World) (O:Nat→Prop) (v:α),Plain P s→dx O Z w W→s.run P w=.ok v w' →
  (w.heap.size=W.heap.size∧w.drawn=W.drawn∨w'.heap.size=w.heap.size∧w'.drawn=w.drawn)→∃W',Does P O Z s W v W'∧dx (fQ O W W') Z w' W'∧W'.drawn+w.drawn=w'.drawn+W.drawn
 | .pure a,w,W,w',O,v,_,hl,h,_=>by
  cases h;exact⟨W,⟨rfl,rfl,rfl,rfl,Nat.le_refl _,fun _ _ _=>rfl,fun e he=>by simp[Sem.events,Sem.runT]at he⟩,by rw[eM];exact hl,Nat.add_comm _ _⟩
 | .load m a k,w,W,w',O,v,hp,hl,h,hd=>by
  obtain⟨x,hx,h1⟩:=P3 hl.qa h;obtain⟨c1,c2⟩:=hl.cell hx;obtain⟨W',hD,dm,hdr⟩:=ru (k x) w W w' O v (hp.2 x) hl h1 hd;obtain⟨rfl,_⟩:=hp;refine⟨W',⟨?_,hD.os,hD.tape,hD.output,hD.size,hD.keep,fun e he=>?_⟩,dm,by simpa[World.setCell]using hdr⟩
  ·rw[←hD.run];show(Sem.load .plain a k).run P W=_;simp only[Sem.run,c1]
  ·have:(Sem.load .plain a k).events P W #[]=(k x).events P W (#[].push ⟨.cell a,false,false⟩):=by
    unfold Sem.events;simp only[Sem.runT,c1];rfl
   rw[this]at he;rcases dE _ _ _ he with he|he
   ·simp at he;subst he;exact⟨rfl,c2.imp .inl fun x=>⟨x.1,rfl⟩⟩
   ·exact hD.evs e he
 | .store m a x k,w,W,w',O,v,hp,hl,h,hd=>by
  obtain⟨hx,⟨y,hy⟩,hf,h1⟩:=PQ hl.qa h;obtain⟨fy,c1,c2,ho⟩:=ZA (x:=x) hl hy hf;have hsz:(W.setCell a x).heap.size=W.heap.size:=by simp[World.setCell]
  obtain⟨W',hD,dm,hdr⟩:=ru k _ _ w' O v hp.2 fy h1 (by simpa[World.setCell]using hd);obtain⟨rfl,_⟩:=hp;have hg:fQ O (W.setCell a x) W'=fQ O W W':=by unfold fQ;rw[hsz]
  rw[hg]at dm;refine⟨W',⟨?_,hD.os,hD.tape,hD.output,hsz ▸ hD.size,fun b hb hn=>?_,fun e he=>?_⟩,dm,by simpa[World.setCell]using hdr⟩
  ·rw[Zk hx c1 c2];exact hD.run
  ·rw[hD.keep b (by rw[hsz];exact hb) hn];have:a.block≠b:=fun e=>hn (e ▸ ho)
   simp only[World.setCell,Array.getElem?_modify,if_neg this]
  ·rw[Ys hx c1 c2]at he;rcases dE _ _ _ he with he|he
   ·simp at he;subst he;exact⟨rfl,.inl (.inl ho)⟩
   ·rw[←hg];exact hD.evs e he
 | .new o k,w,W,w',O,v,hp,hl,h,hd=>by
  have hm:=tZ (k w.heap.size) _ w' v (hp.2 _) (QC hl.qa hp.1) h;simp at hm;have hs:w.heap.size=W.heap.size∧w.drawn=W.drawn:=hd.resolve_right fun x=>by omega
  have fy:=zta hl hs.1 hp.1 W.drawn;have e1:({ w with heap:=w.heap.push o,drawn:=W.drawn }:World)={ w with heap:=w.heap.push o }:=by rw[←hs.2]
  rw[e1]at fy;obtain⟨W',hD,dm,hdr⟩:=ru (k w.heap.size) _ { W with heap:=W.heap.push o } w' _ v (hp.2 _) fy h (.inl ⟨by simp[hs.1],hs.2⟩);have hsz:W.heap.size≤W'.heap.size:=by have:=hD.size;simp at this;omega
  have hg:fQ (fQ O W { W with heap:=W.heap.push o }) { W with heap:=W.heap.push o } W'=fQ O W W':=GF zi hD.size;rw[hg]at dm;rw[hs.1]at hD;refine⟨W',⟨?_,hD.os,hD.tape,hD.output,hsz,fun b hb hn=>?_,fun e he=>?_⟩,dm,by simpa[World.setCell]using hdr⟩
  ·exact hD.run
  ·rw[hD.keep b (by simp;omega) (by simp only[fQ,Array.size_push];rintro(x|x);exact hn x;omega)];simp only[Array.getElem?_push];rw[if_neg zo]
  ·rw[←hg];exact hD.evs e he
 | .shape r k,w,_,_,_,_,hp,_,h,_=>absurd h (mG (s:=k (w.shape? r)) (hp _))
 | .freeze _ _ k,_,_,_,_,_,hp,_,h,_=>absurd h (mG (s:=k) hp)
 | .frozen a k,w,_,_,_,_,hp,_,h,_=>absurd h (mG (s:=k (w.frozen? a)) (hp _))
 | .getObj r k,w,W,w',O,v,hp,hl,h,hd=>by
  obtain⟨o,ho,hn,h1⟩:=Pg h;have bR:=hl.obj ho;have pI:mI o=true:=by cases o<;>first|exact absurd rfl (hn _ _ _)|exact bR
  obtain⟨_,e2,xi⟩:=Tt hl ho hn pI;obtain⟨W',hD,dm,hdr⟩:=ru (k o) w W w' O v (hp o bR) hl h1 hd;refine⟨W',⟨?_,hD.os,hD.tape,hD.output,hD.size,hD.keep,fun e he=>?_⟩,dm,by simpa[World.setCell]using hdr⟩
  ·rw[←hD.run];cases o<;>first|exact absurd rfl (hn _ _ _)|simp only[Sem.run,e2]
  ·have:(Sem.getObj r k).events P W #[]=(k o).events P W (#[].push ⟨.obj r,false,o.isChan⟩):=by
    unfold Sem.events;cases o<;>first|exact absurd rfl (hn _ _ _)|simp only[Sem.runT,e2]
   rw[this]at he;rcases dE _ _ _ he with he|he
   ·simp at he;subst he;exact⟨.inr rfl,.inl xi⟩
   ·exact hD.evs e he
 | .setObj r o k,w,W,w',O,v,hp,hl,h,hd=>by
  obtain⟨o',ho,hn,h1⟩:=Ph h;obtain⟨fy,e2,xi⟩:=Tt hl ho hn hp.1.1;have hsz:({ W with heap:=W.heap.setIfInBounds r o }:World).heap.size=W.heap.size:=by simp
  obtain⟨W',hD,dm,hdr⟩:=ru k _ _ w' O v hp.2 fy h1 (by simpa using hd);have hg:fQ O { W with heap:=W.heap.setIfInBounds r o } W'=fQ O W W':=by unfold fQ;rw[hsz]
  rw[hg]at dm;refine⟨W',⟨?_,hD.os,hD.tape,hD.output,hsz ▸ hD.size,fun b hb f7=>?_,fun e he=>?_⟩,dm,by simpa[World.setCell]using hdr⟩
  ·rw[←hD.run];cases o'<;>first|exact absurd rfl (hn _ _ _)|simp only[Sem.run,e2]
  ·rw[hD.keep b (by rw[hsz];exact hb) f7];have:r≠b:=fun e=>f7 (e ▸ xi)
   simp only[Array.getElem?_setIfInBounds_ne this]
  ·have:(Sem.setObj r o k).events P W #[]=k.events P { W with heap:=W.heap.setIfInBounds r o } (#[].push ⟨.obj r,true,o.isChan⟩):=by
    unfold Sem.events;cases o'<;>first|exact absurd rfl (hn _ _ _)|simp only[Sem.runT,e2]
   rw[this]at he;rcases dE _ _ _ he with he|he
   ·simp at he;subst he;exact⟨.inl hp.1.2,.inl xi⟩
   ·rw[←hg];exact hD.evs e he
 | .choose q k,w,W,w',O,v,hp,hl,h,hd=>by
  unfold Sem.run at h;by_cases hq:q.forced=true
  ·rw[if_pos hq]at h;obtain⟨W',hD,dm,hdr⟩:=ru (k 0) w W w' O v (hp 0) hl h hd;refine⟨W',⟨?_,hD.os,hD.tape,hD.output,hD.size,hD.keep,fun e he=>?_⟩,dm,by simpa[World.setCell]using hdr⟩
   ·rw[←hD.run];simp only[Sem.run,hq,if_true]
   ·have:(Sem.choose q k).events P W #[]=(k 0).events P W #[]:=by
     unfold Sem.events;simp only[Sem.runT,hq,if_true]
    rw[this]at he;exact hD.evs e he
  ·rw[if_neg hq]at h;have hm:=tZ _ { w with drawn:=w.drawn+1 } w' v (hp _) hl.qa h;simp at hm;have hs:w.heap.size=W.heap.size∧w.drawn=W.drawn:=hd.resolve_right fun x=>by omega
   have fy:dx O Z { w with drawn:=w.drawn+1 } { W with drawn:=W.drawn+1 }:=⟨hl.os,hl.tape,hl.output,hl.size,hl.own,hl.rest⟩;obtain⟨W',hD,dm,hdr⟩:=ru _ _ { W with drawn:=W.drawn+1 } w' O v (hp _) fy h (.inl ⟨hs.1,by simp[hs.2]⟩);rw[hs.2,hl.tape]at hD;refine⟨W',⟨?_,hD.os,hD.tape,hD.output,hD.size,hD.keep,fun e he=>?_⟩,dm,by simp at hdr;omega⟩
   ·rw[←hD.run];simp only[Sem.run,hq,if_false,Bool.false_eq_true]
   ·have:(Sem.choose q k).events P W #[]=(k (q.cut (W.tape W.drawn q))).events P { W with drawn:=W.drawn+1 } #[]:=by
     unfold Sem.events;simp only[Sem.runT,hq,if_false,Bool.false_eq_true]
    rw[this]at he;exact hD.evs e he
 | .sys _ _,_,_,_,_,_,hp,_,_,_=>hp.elim
 | .program k,w,W,w',O,v,hp,hl,h,hd=>by
  obtain⟨W',hD,dm,hdr⟩:=ru (k P) w W w' O v hp hl h hd;exact⟨W',⟨hD.run,hD.os,hD.tape,hD.output,hD.size,hD.keep,hD.evs⟩,dm,hdr⟩
 | .mark m k,w,W,w',O,v,hp,hl,h,hd=>by
  obtain⟨W',hD,dm,hdr⟩:=ru k w W w' O v hp.2 hl h hd;refine⟨W',⟨hD.run,hD.os,hD.tape,hD.output,hD.size,hD.keep,fun e he=>?_⟩,dm,by simpa[World.setCell]using hdr⟩;have:(Sem.mark m k).events P W #[]=k.events P W (#[].push ⟨.mark m,false,true⟩):=rfl;rw[this]at he;rcases dE _ _ _ he with he|he
  ·simp at he;subst he;rcases hp.1 with rfl | ⟨f,rfl⟩<;>trivial
  ·exact hD.evs e he
 | .halt _,_,_,_,_,_,_,_,h,_=>by cases h
end
end Gap
namespace Gap
open Go.Conc
variable [Gap.Leaps]
variable {α β:Type}{K K':Act→World→Prop}{ops:Array Oper}{c y:Code}{rest:List Nat}{i id:Nat}{O Z:Nat→Prop}{o oi:Oper}{P:Program}{s:Sem α}{v:Value}{W W' w w':World}{S:World→Prop}{x:α}{f:α→Sem β}{r:β}
def wgap (w:World)(n d:Nat):World:={ w with heap:=w.heap++Array.replicate n uS,drawn:=d }
section
def Quiet (P:Program){α:Type}(s:Sem α)(w:World)(r:α)(w':World):Prop:=∀(O Z:Nat→Prop) (W:World),dx O Z w W→∃W',Does P O Z s W r W'∧dx (fQ O W W') Z w' W'∧W'.drawn=W.drawn
def jg (P:Program){α:Type}(s:Sem α)(w:World)(r:α)(w':World):Prop:=∀(O Z:Nat→Prop) (W:World),dx O Z w W→w.heap.size=W.heap.size→w.drawn=W.drawn→∃W',Does P O Z s W r W'∧dx (fQ O W W') Z w' W'
theorem Quiet.of {r:α}(hp:Plain P s)(h:s.run P w=.ok r w')(hs:w'.heap.size=w.heap.size)(hd:w'.drawn=w.drawn):Quiet P s w r w' :=
 fun O _ W hl=>let ⟨W',h1,h2,h3⟩:=ru s w W w' O r hp hl h (.inr ⟨hs,hd⟩);⟨W',h1,h2,by omega⟩
theorem jg.of {r:α}(hp:Plain P s)(h:s.run P w=.ok r w'):jg P s w r w' :=
 fun O _ W hl h1 h2=>let ⟨W',h3,h4,_⟩:=ru s w W w' O r hp hl h (.inl ⟨h1,h2⟩);⟨W',h3,h4⟩
variable {w1 w2 W1:World}
theorem dx.ed (h:dx O Z w W):dx O Z (wgap w (W.heap.size-w.heap.size) W.drawn) W:=by
 have key:∀(b:Nat) (o:Obj),(w.heap++Array.replicate (W.heap.size-w.heap.size) uS)[b]?=some o→w.heap[b]?=some o∨o=uS:=fun b o hb=>by
  rw[Array.getElem?_append]at hb;split at hb
  ·exact .inl hb
  ·rw[Array.getElem?_replicate]at hb;split at hb
   ·cases hb;exact .inr rfl
   ·cases hb
 refine⟨h.os,h.tape,h.output,?_,fun b hb=>?_,fun b o hb ho=>?_⟩
 ·have:=h.size;simp only[wgap,Array.size_append,Array.size_replicate];omega
 ·obtain⟨o,h1,h2,h3⟩:=h.own b hb;refine⟨o,?_,h2,h3⟩;have aQ:=(Array.getElem?_eq_some_iff.1 h1).1;simp only[wgap,Array.getElem?_append_left aQ];exact h1
 ·rcases key b o ho with ho|rfl
  ·exact h.rest b o hb ho
  ·exact .inl rfl
theorem zs2 (h:w.heap.size≤W.heap.size):(wgap w (W.heap.size-w.heap.size) W.drawn).heap.size=W.heap.size:=by
 simp only[wgap,Array.size_append,Array.size_replicate];omega
end
section
variable (P:Program)
def k5 (main:Bool)(Z:Nat→Prop)(Stop:(Nat→Prop)→Goroutine→World→Prop)(b:Frame)(k:List Item)(cs:List Frame):Exit→(Nat→Prop)→Act→World→Prop
 | .normal,O,a,W=>Way P main Z Stop O (G (b.at a k) cs) W
 | .exit id,O,a,W=>∃k',exitTo id k=some k'∧Way P main Z Stop O (G (b.at a k') cs) W
 | .ret,O,a,W=>∀todo,Way P main Z Stop O (G { b.at a todo with mode:=.returning } cs) W
 | _,_,_,_=>False
def iV (todo:Frame→List Item→List Item)(Q:Exit→Act→World→Prop)(a:Act)(w:World):Prop :=
 ∀(main:Bool) (Z:Nat→Prop) (Stop:(Nat→Prop)→Goroutine→World→Prop) (O:Nat→Prop) (W:World) (b:Frame) (k:List Item) (cs:List Frame),b.kind≠.early→dx O Z w W →
  (∀e a' w' O' W',(∀x,O x→O' x)→dx O' Z w' W'→Q e a' w'→k5 P main Z Stop b k cs e O' a' W')→Way P main Z Stop O (G (b.at a (todo b k)) cs) W
def kL (c:Code)(Q:Exit→Act→World→Prop)(a:Act)(w:World):Prop:=iV P (fun _ k=>.code c::k) Q a w
def su (ops:Array Oper)(l:List Nat)(Q:Exit→Act→World→Prop)(a:Act)(w:World):Prop:=iV P (fun _ k=>.inRegion ops l::k) Q a w
def UN (fn:Func)(R:Value→World→Prop):Exit→Act→World→Prop
 | .normal,a,w | .ret,a,w=>a.defers=[]∧∃v,Quiet P (results fn a.tmps) w v w∧R v w
 | _,_,_=>False
structure k6 (f:FuncId)(args:Array Value)(w:World)(R:Value→World→Prop):Prop where
 ex:(∃fn c,P.funcs[f]?=some fn∧fn.body=some c∧kL P c (UN P fn R) { tmps:=args++Array.replicate (fn.ntmps-args.size) undef,defers:=[] } w) ∨
  ∀(main:Bool) (Z:Nat→Prop) (Stop:(Nat→Prop)→Goroutine→World→Prop) (O:Nat→Prop) (W:World) (c:Frame) (cs:List Frame),c.mode=.run→dx O Z w W →
   (∀v w' O' W',(∀x,O x→O' x)→dx O' Z w' W'→R v w'→Way P main Z Stop O' (G (c.finish v) cs) W')→Way P main Z Stop O (G (Frame.enter P f args .normal) (c::cs)) W
def yf (o:Oper)(a:Act)(K:Act→World→Prop):Next→World→Prop
 | .value v,w=>K (a.put o.dst v) w
 | .skip,w=>K (a.put o.dst undef) w
 | _,_=>False
def pn (o:Oper)(a:Act)(w:World)(K:Act→World→Prop):Prop :=
 (∃r w',Quiet P (execOp a.eval o) w r w'∧yf o a K r w')∨(∀n d,∃r w',jg P (execOp a.eval o) (wgap w n d) r w'∧yf o a K r w') ∨
 (∃f args,Quiet P (execOp a.eval o) w (.enter f args) w∧k6 P f args w fun v w'=>K (a.put o.dst v) w')
end
section
variable {main:Bool}  {Stop:(Nat→Prop)→Goroutine→World→Prop}{b:Frame}{k:List Item}{cs:List Frame}{Q:Exit→Act→World→Prop}{a:Act}
theorem k5.push {x:Item}{e:Exit}(hx:x.plain=true)(he:e≠.normal)(h:k5 P main Z Stop b k cs e O a W):k5 P main Z Stop b (x::k) cs e O a W:=by
 cases e with
 | normal=>exact absurd rfl he
 | exit id=>obtain⟨k',hk,hg⟩:=h;exact⟨k',by cases x<;>simp_all[exitTo,Item.plain],hg⟩
 | ret=>exact h
 | goto l=>exact h
 | panic ch=>exact h
 | outgrown=>exact h
theorem iV.mono {todo:Frame→List Item→List Item}{Q':Exit→Act→World→Prop}(h:iV P todo Q a w)(hq:∀e a w,Q e a w→Q' e a w):iV P todo Q' a w :=
 fun main Z Stop O W b k cs hb hl hc=>h main Z Stop O W b k cs hb hl fun e a' w' O' W' ho dm q=>hc e a' w' O' W' ho dm (hq _ _ _ q)
theorem xM {Q':Exit→Act→World→Prop}(h:kL P c Q a w)(hq:∀e a w,Q e a w→Q' e a w):kL P c Q' a w:=iV.mono h hq
theorem iV.ctl {todo todo':Frame→List Item→List Item}{a':Act}(h:∀(main:Bool) (b:Frame) (k:List Item) (cs:List Frame) (W:World),stepG P main (G (b.at a (todo b k)) cs) W=.go (G (b.at a' (todo' b k)) cs) W)(hk:iV P todo' Q a' w):iV P todo Q a w :=
 fun main Z Stop O W b k cs hb hl hc=>.ctl rfl (fun W=>h main b k cs W) (hk main Z Stop O W b k cs hb hl hc)
theorem iV.done (h:Q .normal a w):iV P (fun _ k=>k) Q a w:=fun _ _ _ O W _ _ _ _ hl hc=>hc _ _ _ O W (fun _ h=>h) hl h
theorem zs5 (h:Q .normal a w):kL P .skip Q a w:=iV.ctl (todo':=fun _ k=>k) (fun _ _ _ _ _=>stepG_skip) (.done h)
theorem zwh (h:Q .ret a w):kL P .ret Q a w:=fun main Z Stop O W b k cs _ hl hc=>.ctl rfl (fun _=>stepG_ret') (hc _ _ _ O W (fun _ h=>h) hl h _)
theorem zs4 (h:Q (.exit id) a w):kL P (.exit id) Q a w:=fun main Z Stop O W b k cs _ hl hc=>by
 obtain⟨k',gO,hg⟩:=hc _ _ _ O W (fun _ h=>h) hl h;exact .ctl rfl (fun _=>stepG_exit gO) hg
theorem zwi {x:Code}(h:kL P x (Exit.then (kL P y Q) Q) a w):kL P (.seq x y) Q a w:=by
 intro main Z Stop O W b k cs hb hl hc;refine .ctl rfl (fun _=>stepG_seq) (h main Z Stop O W b (.code y::k) cs hb hl fun e a' w' O' W' ho dm q=>?_);cases e with
 | normal=>exact q main Z Stop O' W' b k cs hb dm fun e Cc kT sA sC iQ tA q'=>hc e Cc kT sA sC (fun x hx=>iQ x (ho x hx)) tA q'
 | exit id=>exact(hc _ _ _ _ _ ho dm q).push rfl zi
 | ret=>exact(hc _ _ _ _ _ ho dm q).push (x:=.code y) rfl zi
 | goto l=>exact(hc _ _ _ _ _ ho dm q).elim
 | panic ch=>exact(hc _ _ _ _ _ ho dm q).elim
 | outgrown=>exact(hc _ _ _ _ _ ho dm q).elim
theorem SA {c:Operand}{x:Code}{t:Bool}(hc:a.eval c=.bool t)(h:kL P (if t then x else y) Q a w):kL P (.cond c x y) Q a w :=
 iV.ctl (fun _ _ _ _ _=>stepG_cond hc) h
theorem Yw {c:Operand}{x:Code}{t:Bool}(hc:a.eval c=.bool t)(ht:t=true→kL P x Q a w)(hf:t=false→kL P y Q a w):kL P (.cond c x y) Q a w:=by
 cases t
 ·exact SA hc (hf rfl)
 ·exact SA hc (ht rfl)
theorem zqC (h:kL P c (Exit.inBlock id Q) a w):kL P (.block id c) Q a w:=by
 intro main Z Stop O W b k cs hb hl hc;refine .ctl rfl (fun _=>stepG_block) (h main Z Stop O W b (.inBlock id::k) cs hb hl fun e a' w' O' W' ho dm q=>?_);cases e with
 | normal=>exact .ctl rfl (fun _=>stepG_inBlock) (hc _ _ _ _ _ ho dm q)
 | exit OE =>
  by_cases hid:OE=id
  ·simp only[Exit.inBlock,hid,if_true]at q;exact⟨k,by simp[exitTo,hid],hc _ _ _ _ _ ho dm q⟩
  ·simp only[Exit.inBlock,hid,if_false]at q;obtain⟨k',gO,hg⟩:=hc _ _ _ _ _ ho dm q;have:(id == OE)=false:=by simp;exact fun h=>hid h.symm
   exact⟨k',by simp[exitTo,this,gO],hg⟩
 | ret=>exact hc _ _ _ _ _ ho dm q
 | goto l=>exact hc _ _ _ _ _ ho dm q
 | panic ch=>exact hc _ _ _ _ _ ho dm q
 | outgrown=>exact hc _ _ _ _ _ ho dm q
theorem SB (I:Nat→Act→World→Prop){n:Nat}(h₀:I n a w)(jw:∀n a w,I n a w→kL P c (Exit.then (fun a' w'=>∃m,m<n∧I m a' w') Q) a w):kL P (.loop c) Q a w:=by
 intro main Z Stop O W b k cs hb hl hc;refine .ctl rfl (fun _=>stepG_loop) ?_
 induction n using Nat.strongRecOn generalizing a w O W with
 | _ n ih =>
  refine jw n a w h₀ main Z Stop O W b (.inLoop c::k) cs hb hl fun e a' w' O' W' ho dm q=>?_
  cases e with
  | normal =>
   obtain⟨m,hm,hI⟩:=q;exact .ctl rfl (fun _=>stepG_inLoop) (ih m hm hI O' W' dm fun e Cc kT sA sC iQ tA q'=>hc e Cc kT sA sC (fun x hx=>iQ x (ho x hx)) tA q')
  | exit id=>exact(hc _ _ _ _ _ ho dm q).push rfl zi
  | ret=>exact(hc _ _ _ _ _ ho dm q).push (x:=.inLoop c) rfl zi
  | goto l=>exact(hc _ _ _ _ _ ho dm q).elim
  | panic ch=>exact(hc _ _ _ _ _ ho dm q).elim
  | outgrown=>exact(hc _ _ _ _ _ ho dm q).elim
theorem zoS (h:su P ops (List.range ops.size) Q a w):kL P (.region id ops false) Q a w:=iV.ctl (fun _ _ _ _ _=>stepG_region) h
theorem LN (h:Q .normal a w):su P ops [] Q a w:=iV.ctl (todo':=fun _ k=>k) (fun _ _ _ _ _=>stepG_region_end) (.done h)
theorem Pq (ho:ops[i]?=some o)(hw:Region.wanted o (yielded ops a.tmps)=false)(h:su P ops rest Q (a.put o.dst undef) w):su P ops (i::rest) Q a w :=
 iV.ctl (fun _ _ _ _ _=>stepG_unwanted ho hw) h
theorem Does.guar {v:α}(h:Does P O Z s W v W'){es:Array Event}(he:∀e∈es,e∈s.events P W #[]):iW O Z W W' es :=
 ⟨h.os,h.tape,h.output,h.size,h.keep,fun e x=>h.evs e (he e x)⟩
theorem AJ (x:Nat)(h:O x):fQ O W W' x:=.inl h
theorem Za {b:Frame}{fn:Func}{todo:List Item}{c:Frame}(hn:b.kind=.normal)(hd:a.defers=[])(hf:P.funcs[b.fn]?=some fn)(hr:(results fn a.tmps).run P W=.ok v W') :
  stepG P main (G { b.at a todo with mode:=.returning } (c::cs)) W=.go (G (c.finish v) cs) W' (seen P b.fn ((results fn a.tmps).events P W #[])):=by
 simp[G,stepG,unwind,doReturn,Frame.at,hn,hd,hf,hr,GStep.after]
theorem Hv (ho:ops[i]?=some o)(hw:Region.wanted o (yielded ops a.tmps)=true)(hb:b.kind≠.early)(hl:dx O Z w W)(h:pn P o a w K)
  (hk:∀a' w' O' W',(∀x,O x→O' x)→dx O' Z w' W'→K a' w'→Way P main Z Stop O' (G (b.at a' (.inRegion ops rest::k)) cs) W'):Way P main Z Stop O (G (b.at a (.inRegion ops (i::rest)::k)) cs) W:=by
 have key:∀(W1:World) (r:Next) (w' W':World),cv O Z W W1→Does P O Z (execOp a.eval o) W1 r W'→dx (fQ O W1 W') Z w' W'→yf o a K r w' →
   ∃g' W2 es,stepG P main (G (b.at a (.inRegion ops (i::rest)::k)) cs) W1=.go g' W2 es∧iW O Z W1 W2 es∧Way P main Z Stop (fQ O W1 W2) g' W2:=fun W1 r w' W' _ hD dm hu=>by
  cases r with
  | value v=>exact⟨_,W',_,stepG_value ho hw hb hD.run,hD.guar fun e he=>mem_listed he,hk _ _ _ W' (fun x hx=>AJ x hx) dm hu⟩
  | skip=>exact⟨_,W',_,stepG_none ho hw hb hD.run,hD.guar fun e he=>mem_listed he,hk _ _ _ W' (fun x hx=>AJ x hx) dm hu⟩
  | _=>exact hu.elim
 rcases h with⟨r,w',hq,hu⟩|h | ⟨f,args,hq,CL⟩
 ·refine .next rfl fun W1 h1=>?_
  obtain⟨W',hD,dm,_⟩:=hq O Z W1 (hl.rely h1);exact key W1 r w' W' h1 hD dm hu
 ·refine .next rfl fun W1 h1=>?_
  have fy:=hl.rely h1;obtain⟨r,w',hq,hu⟩:=h (W1.heap.size-w.heap.size) W1.drawn;obtain⟨W',hD,dm⟩:=hq O Z W1 fy.ed (zs2 fy.size) rfl;exact key W1 r w' W' h1 hD dm hu
 ·have cx:∀v,(b.at a (.inRegion ops (i::rest)::k)).finish v=b.at (a.put o.dst v) (.inRegion ops rest::k):=fun v=>by rw[Frame.finish_at,ho];rfl
  rcases CL.ex with⟨fn,c,hf,sW,J7⟩|hL
  rotate_left
  ·refine .next rfl fun W1 h1=>?_
   obtain⟨W',hD,dm,_⟩:=hq O Z W1 (hl.rely h1);refine⟨_,W',_,stepG_enter ho hw hb hD.run,hD.guar fun e he=>mem_listed he,?_⟩;refine hL main Z Stop _ W' _ cs rfl dm fun v w' O' W2 iQ ft hr=>?_
   rw[cx];exact hk _ _ _ W2 (fun x hx=>iQ x (AJ x hx)) ft hr
  refine .next rfl fun W1 h1=>?_
  obtain⟨W',hD,dm,_⟩:=hq O Z W1 (hl.rely h1);refine⟨_,W',_,stepG_enter ho hw hb hD.run,hD.guar fun e he=>mem_listed he,?_⟩;rw[enter_at args hf sW]
  have leave:∀(a':Act) (w':World) (O':Nat→Prop) (W2:World) (todo:List Item),(∀x,O x→O' x)→dx O' Z w' W2→(a'.defers=[]∧∃v,Quiet P (results fn a'.tmps) w' v w'∧K (a.put o.dst v) w') →
    Way P main Z Stop O' (G { (base f).at a' todo with mode:=.returning } (b.at a (.inRegion ops (i::rest)::k)::cs)) W2:=fun a' w' O' W2 todo iQ ft ⟨hd,v,hr,hp⟩=>by
   refine .next rfl fun W3 h3=>?_
   obtain⟨W4,Cn,kO,_⟩:=hr O' Z W3 (ft.rely h3);refine⟨_,W4,_,Za (b:=base f) rfl hd hf Cn.run,Cn.guar fun e he=>mem_seen he,?_⟩;rw[cx];exact hk _ _ _ W4 (fun x hx=>AJ x (iQ x hx)) kO hp
  refine J7 main Z Stop _ W' (base f) [] _ (by simp[base]) dm fun e a' w' O' W2 iQ ft q=>?_
  cases e with
  | normal=>exact .ctl rfl (fun _=>stepG_end) (leave a' w' O' W2 [] (fun x hx=>iQ x (AJ x hx)) ft q)
  | ret=>exact fun todo=>leave a' w' O' W2 todo (fun x hx=>iQ x (AJ x hx)) ft q
  | exit id=>exact q.elim
  | goto l=>exact q.elim
  | panic ch=>exact q.elim
  | outgrown=>exact q.elim
theorem RS (ho:ops[i]?=some o)(hw:Region.wanted o (yielded ops a.tmps)=true)(h:pn P o a w fun a' w'=>su P ops rest Q a' w'):su P ops (i::rest) Q a w :=
 fun main Z Stop O W b k cs hb hl hc=>Hv ho hw hb hl h fun a' w' O' W' iQ dm hg=>hg main Z Stop O' W' b k cs hb dm fun e Cc kT sA sC pH tA q'=>hc e Cc kT sA sC (fun x hx=>pH x (iQ x hx)) tA q'
theorem dx.drew (h:dx O Z w W):dx O Z { w with drawn:=w.drawn+1 } { W with drawn:=W.drawn+1 }:=⟨h.os,h.tape,h.output,h.size,h.own,h.rest⟩
theorem Yq (h:∀t,su P ops (Region.schedule (P.follows .mixedOrders) ops t) Q a { w with drawn:=w.drawn+1 }):kL P (.region id ops true) Q a w:=by
 intro main Z Stop O W b k cs hb hl hc;refine .next rfl fun W1 h1=>⟨_,_,_,stepG_region_draw,⟨rfl,rfl,rfl,Nat.le_refl _,fun _ _ _=>rfl,by simp⟩,?_⟩
 rw[Hg (by rfl)];exact h _ main Z Stop O _ b k cs hb (hl.rely h1).drew hc
def nG (P:Program)(ops:Array Oper)(i:Nat)(K:Act→World→Prop)(a:Act)(w:World):Prop :=
 match ops[i]? with
 | none=>False
 | some o=>if Region.wanted o (yielded ops a.tmps) then pn P o a w K else K (a.put o.dst undef) w
theorem Q9 (h:∀a w,K a w→K' a w){r:Next}(hh:yf o a K r w):yf o a K' r w:=by
 cases r<;>first|exact h _ _ hh|exact hh
theorem k6.mono {f:FuncId}{args:Array Value}{R R':Value→World→Prop}(h:k6 P f args w R)(hr:∀v w,R v w→R' v w):k6 P f args w R':=by
 rcases h.ex with⟨fn,c,hf,hb,hw⟩|hL
 rotate_left
 ·exact⟨.inr fun main Z Stop O W c cs hm hl hk=>hL main Z Stop O W c cs hm hl fun v w' O' W' ho dm q=>hk v w' O' W' ho dm (hr v w' q)⟩
 refine⟨.inl ⟨fn,c,hf,hb,xM hw fun e a w q=>?_⟩⟩;cases e<;>first|exact⟨q.1,q.2.choose,q.2.choose_spec.1,hr _ _ q.2.choose_spec.2⟩|exact q
theorem EL (h:∀a w,K a w→K' a w)(hh:pn P o a w K):pn P o a w K':=by
 rcases hh with⟨r,w',h1,h2⟩|hh | ⟨f,args,h1,h2⟩
 ·exact .inl ⟨r,w',h1,Q9 h h2⟩
 ·exact .inr (.inl fun n d=>let ⟨r,w',h1,h2⟩:=hh n d;⟨r,w',h1,Q9 h h2⟩)
 ·exact .inr (.inr ⟨f,args,h1,h2.mono fun v w'=>h _ _⟩)
theorem QN (h:∀a w,K a w→K' a w)(hh:nG P ops i K a w):nG P ops i K' a w:=by
 unfold nG at *;split
 ·simp_all
 ·rename_i o ho;simp only[ho]at hh;split
  ·rename_i hw;simp only[hw,if_true]at hh;exact EL h hh
  ·rename_i hw;simp only[hw]at hh;exact h _ _ hh
theorem zoR (h:nG P ops i (fun a' w'=>su P ops rest Q a' w') a w):su P ops (i::rest) Q a w:=by
 unfold nG at h;split at h
 ·exact h.elim
 ·rename_i o ho;split at h
  ·rename_i hw;exact RS ho hw h
  ·rename_i hw;exact Pq ho (by simpa using hw) h
def de (P:Program)(ops:Array Oper)(S:World→Prop)(o:Oper)(v:Value)(a:Act):Prop :=
 (Region.wanted o (yielded ops a.tmps)=true∧∀w,S w→Quiet P (execOp a.eval o) w (.value v) w)∨(Region.wanted o (yielded ops a.tmps)=false∧v=undef)
theorem de.of_same {a':Act}(hy:de P ops S o v a)(he:execOp a'.eval o=execOp a.eval o)(hw:Region.wanted o (yielded ops a'.tmps)=Region.wanted o (yielded ops a.tmps)):de P ops S o v a':=by
 unfold de at *;rw[he,hw];exact hy
theorem de.at_ (hi:ops[i]?=some o)(hy:de P ops S o v a){K:Act→World→Prop}(hS:S w)(h:K (a.put o.dst v) w):nG P ops i K a w:=by
 unfold nG;simp only[hi];rcases hy with⟨hw,hv⟩|⟨hw,rfl⟩
 ·simp only[hw,if_true];exact .inl ⟨_,w,hv w hS,h⟩
 ·simp only[hw,Bool.false_eq_true,if_false];exact h
def mm (P:Program)(ops:Array Oper)(Q:Exit→Act→World→Prop)(S:World→Prop):Nat→Array Bool→Act→World→Prop
 | 0,listed,a,w=>Region.ready .any ops listed=[]∧Q .normal a w
 | fuel+1,listed,a,w=>(Region.ready .any ops listed=[]→Q .normal a w)∧∀i∈Region.ready .any ops listed,nG P ops i (fun a' w'=>S w'∧mm P ops Q S fuel (listed.setIfInBounds i true) a' w') a w
theorem zou:∀(fuel t:Nat) (listed:Array Bool) (a:Act) (w:World),mm P ops Q S fuel listed a w→su P ops (Region.linearise.go .any ops fuel t listed []) Q a w:=by
 intro fuel
 induction fuel with
 | zero=>intro t listed a w h;simpa[Region.linearise.go]using LN h.2
 | succ fuel ih =>
  intro t listed a w h;obtain⟨h₀,h₁⟩:=h;simp only[Region.linearise.go]
  change su P ops (match (Region.ready .any ops listed)[t % (Region.ready .any ops listed).length]? with
   | some i=>Region.linearise.go .any ops fuel (t / (Region.ready .any ops listed).length) (listed.setIfInBounds i true) [i]
   | none=>[].reverse) Q a w
  cases hi:(Region.ready .any ops listed)[t % (Region.ready .any ops listed).length]? with
  | none =>
   have Di:Region.ready .any ops listed=[]:=by
    cases hr:Region.ready .any ops listed with
    | nil=>rfl
    | cons x xs =>
     rw[hr]at hi;have aQ:t % (x::xs).length<(x::xs).length:=Nat.mod_lt _ zi;simp at hi;simp at aQ;omega
   simpa using LN (h₀ Di)
  | some i =>
   simp only[];rw[linearise_go_acc,List.reverse_singleton,List.singleton_append];exact zoR (QN (fun a' w' x=>ih _ _ a' w' x.2) (h₁ i (List.mem_of_getElem? hi)))
theorem zqA {j:Nat}{oj:Oper}(hj:ops[j]?=some oj)(jY:oi.apart ops oj=true)(Dy:∀cs b,oi.op≠.select cs b)(Xf:∀cs b,oj.op≠.select cs b){K:Act→World→Prop}
  (hy:de P ops S oi v a) (h:nG P ops j K (a.put oi.dst v) w):nG P ops j (fun a' w'=>de P ops S oi v a'∧K (a'.put oi.dst v) w') a w:=by
 obtain⟨h1,h2,h3⟩:=Oper.apart_spec jY;have keep:∀(a:Act),de P ops S oi v a→∀u,de P ops S oi v (a.put oj.dst u):=fun a hy u=>hy.of_same (execOp_put oi Dy a oj.dst u h3) (wanted_put oi a oj.dst u h3)
 have up:∀(r:Next) (w:World),yf oj (a.put oi.dst v) K r w→yf oj a (fun a' w'=>de P ops S oi v a'∧K (a'.put oi.dst v) w') r w:=fun r w h=>by
  cases r<;>simp only[yf]at h ⊢
  ·exact⟨keep a hy _,by rw[←Act.put_comm a v _ h2];exact h⟩
  ·exact⟨keep a hy _,by rw[←Act.put_comm a v _ h2];exact h⟩
 unfold nG at *;simp only[hj]at *;rw[wanted_put oj a oi.dst v h1]at h;split
 ·rename_i hw;simp only[hw,if_true]at h;unfold pn at *;rw[execOp_put oj Xf a oi.dst v h1]at h;rcases h with⟨r,w',g1,g2⟩|h | ⟨f,args,g1,g2⟩
  ·exact .inl ⟨r,w',g1,up _ _ g2⟩
  ·exact .inr (.inl fun n d=>let ⟨r,w',g1,g2⟩:=h n d;⟨r,w',g1,up _ _ g2⟩)
  ·exact .inr (.inr ⟨f,args,g1,g2.mono fun u w' h=>⟨keep a hy _,by rw[←Act.put_comm a v _ h2];exact h⟩⟩)
 ·rename_i hw;simp only[hw]at h;exact⟨keep a hy _,by rw[←Act.put_comm a v undef h2];exact h⟩
theorem zot (hi:ops[i]?=some oi)(ff:∀(j:Nat) (o:Oper) cs b,ops[j]?=some o→o.op≠.select cs b) :
  ∀(fuel:Nat) (listed:Array Bool) (a:Act) (w:World),(∀j oj,ops[j]?=some oj→j≠i→listed.getD j true=false→(∀e∈oj.after,Region.binds .any e=true→e.on≠i)→oi.apart ops oj=true) →
   i∈Region.ready .any ops listed→de P ops S oi v a→S w→mm P ops Q S fuel (listed.setIfInBounds i true) (a.put oi.dst v) w→mm P ops Q S (fuel+1) listed a w:=by
 intro fuel
 induction fuel with
 | zero =>
  intro listed a w _ hr hy hS H;refine⟨fun h=>(by rw[h]at hr;cases hr),fun j hj=>?_⟩;by_cases eQ:j=i
  ·subst eQ;exact hy.at_ hi hS ⟨hS,H⟩
  ·have:=ready_mono hj eQ;rw[H.1]at this;cases this
 | succ fuel ih =>
  intro listed a w wW hr hy hS H;refine⟨fun h=>(by rw[h]at hr;cases hr),fun j hj=>?_⟩;by_cases eQ:j=i
  ·subst eQ;exact hy.at_ hi hS ⟨hS,H⟩
  ·have h1:=H.2 j (ready_mono hj eQ);obtain⟨C6,oj,JI,hall⟩:=mem_ready.1 hj
   have JE:∀e∈oj.after,Region.binds .any e=true→e.on≠i:=fun e he hb heq=>by
    have h1:=hall e he hb;have h0:=(mem_ready.1 hr).1;rw[heq]at h1;rcases Nat.lt_or_ge i listed.size with h'|h'
    ·simp[h']at h0 h1;rw[h0]at h1;cases h1
    ·simp[Array.getElem?_eq_none h']at h1
   have h2:=zqA JI (wW j oj JI eQ C6 JE) (fun cs b=>ff i oi cs b hi) (fun cs b=>ff j oj cs b JI) hy h1
   have yY:∀k ok,ops[k]?=some ok→k≠i→(listed.setIfInBounds j true).getD k true=false →
     (∀e∈ok.after,Region.binds .any e=true→e.on≠i)→oi.apart ops ok=true:=fun k ok hk vf Bn uy=>by
    refine wW k ok hk vf ?_ uy;by_cases Oh:j=k
    ·subst Oh;exact C6
    ·rw[getD_set_ne true Oh]at Bn;exact Bn
   refine QN (fun a' w' h3=>⟨h3.2.1,ih (listed.setIfInBounds j true) a' w' yY (ready_mono hr (Ne.symm eQ)) h3.1 h3.2.1 ?_⟩) h2;rw[Array.setIfInBounds_comm _ _ eQ];exact h3.2.2
theorem Rh {fuel:Nat}{listed:Array Bool}(hi:ops[i]?=some oi)(hs:Region.noSelect ops=true)(hf:Region.free .any ops listed i=true)(hr:(Region.ready .any ops listed).contains i=true)
  (hy:de P ops S oi v a) (hS:S w) (h:mm P ops Q S fuel (listed.setIfInBounds i true) (a.put oi.dst v) w):mm P ops Q S (fuel+1) listed a w :=
 zot hi (Region.noSelect_spec hs) fuel listed a w (Region.free_spec hi hf) (by simpa using hr) hy hS h
theorem L0 {rs:List Nat}{fuel:Nat}{listed:Array Bool}(hr:Region.ready .any ops listed=rs)(cj:rs≠[])(h:∀i∈rs,nG P ops i (fun a' w'=>S w'∧mm P ops Q S fuel (listed.setIfInBounds i true) a' w') a w):mm P ops Q S (fuel+1) listed a w :=
 ⟨fun h0=>absurd (hr ▸ h0) cj,hr ▸ h⟩
theorem O9 (hm:P.follows .mixedOrders=true)(h:mm P ops Q S ops.size (Array.replicate ops.size false) a { w with drawn:=w.drawn+1 }):kL P (.region id ops true) Q a w :=
 Yq fun t=>by
  simp only[Region.schedule,hm,Bool.true_or,if_true];exact zou ops.size t _ a _ h
end
section
theorem KM {t:TypeId}  {f:Nat→Sem β}(h:(P.info? t).isSome=true)(hf:Plain P (f (P.cellsOf t))):Plain P (sizeOf t >>= f):=by
 obtain⟨i,hi⟩:=Option.isSome_iff_exists.1 h;have e:P.cellsOf t=i.size:=by simp[Program.cellsOf,hi]
 rw[e]at hf;show Plain P ((do pure (←typeInfo t).size:Sem Nat) >>= f);unfold typeInfo
 show Plain P (((match P.info? t with | some i => pure i | none => stuck "no such type") >>= fun i => pure i.size) >>= f)
 rw[hi];exact hf
theorem YA (v:Value):Plain P (asIntOf v):=by
 unfold asIntOf;split<;>trivial
theorem Gg (v:Value):Plain P (Instr.sureAddr v):=by
 unfold Instr.sureAddr;split<;>trivial
theorem ZF (v:Value):Plain P (asAgg v):=by
 unfold asAgg;split<;>trivial
theorem KU (t:TypeId)(v:Value):Plain P (Instr.loadAt t v):=af (Gg v) fun a=>KL t a
theorem YF (t:TypeId)(a v:Value):Plain P (Instr.storeAt t a v):=af (Gg a) fun a=>fM t a v
theorem YD (t:TypeId)(x i:Value):Plain P (Instr.indexAt t x i):=by
 unfold Instr.indexAt;exact zC
theorem kC (t:TypeId)(x i:Value):Plain P (Instr.index t x i):=by
 unfold Instr.index;exact zC
theorem Yo (x:Value)(y:Nat)(c:BoundsCode):Plain P (Instr.sliceBound x y c):=by
 unfold Instr.sliceBound;exact zC
theorem OY (b:Bool)(l c:Nat)(x y z:Option Value):Plain P (Instr.sliceBounds b l c x y z):=by
 unfold Instr.sliceBounds
 (repeat' first|with_reducible exact Yo _ _ _|exact zA|with_reducible refine af ?_ fun _=>?_|with_reducible refine nz ?_|with_reducible refine qD ?_ ?_|split|exact trivial|dsimp only)
theorem Zs (t:TypeId)(x:Value)(l h m:Option Value):Plain P (Instr.slice t x l h m):=by
 unfold Instr.slice
 (repeat' first|with_reducible exact OY _ _ _ _ _ _|exact zA|with_reducible refine af ?_ fun _=>?_|with_reducible refine nz ?_|with_reducible refine qD ?_ ?_|split|exact trivial|dsimp only)
theorem gy (t:TypeId)(x:Value)(l h m:Option Value):Plain P (Instr.sliceAt t x l h m):=by
 unfold Instr.sliceAt
 (repeat' first|with_reducible exact OY _ _ _ _ _ _|with_reducible exact Zs _ _ _ _ _|exact zA|with_reducible refine af ?_ fun _=>?_|with_reducible refine nz ?_|with_reducible refine qD ?_ ?_|split|exact trivial|dsimp only)
theorem ZI (t:TypeId)(x:Value)(f:Nat):Plain P (Instr.field t x f):=by
 unfold Instr.field;exact zC
theorem Ym (t:TypeId)(x:Value):Plain P (Instr.makeInterface t x):=by
 unfold Instr.makeInterface;exact zC
theorem kB (t:TypeId)(ps:Array (Nat × Value)):Plain P (Instr.build t ps):=by
 unfold Instr.build
 (repeat' first|with_reducible refine QW (fun _=>?_) _|exact zA|with_reducible refine af ?_ fun _=>?_|with_reducible refine nz ?_|with_reducible refine qD ?_ ?_|split|exact trivial|dsimp only)
theorem OW (t:TypeId)(n:Nat)(ps:Array (Nat × Value)):Plain P (Instr.buildSlice t n ps):=by
 unfold Instr.buildSlice;exact zC
theorem kS (t:TypeId)(l c:Value):Plain P (Instr.makeSlice t l c):=by
 unfold Instr.makeSlice;exact zC
theorem YB (x:Value)(i:Nat):Plain P (Instr.extract x i):=by
 unfold Instr.extract;exact zC
theorem KP (t:TypeId)(h:Bool)(v:Value):Plain P (Instr.alloc t h v):=by
 unfold Instr.alloc;exact zC
theorem Rx (t:TypeId)(v:Value):Plain P (Instr.box t v):=af (dh _ _) fun _=>trivial
theorem zrm (ts:Array TypeId)(t:TypeId)(av:Array Value):Plain P (Builtin.len_ ts t av):=by
 unfold Builtin.len_
 (repeat' first|refine PH _ fun _ _=>?_|exact zA|with_reducible refine af ?_ fun _=>?_|with_reducible refine nz ?_|with_reducible refine qD ?_ ?_|split|exact trivial|dsimp only)
theorem zrl (ts:Array TypeId)(t:TypeId)(av:Array Value):Plain P (Builtin.cap_ ts t av):=by
 unfold Builtin.cap_
 (repeat' first|refine PH _ fun _ _=>?_|exact zA|with_reducible refine af ?_ fun _=>?_|with_reducible refine nz ?_|with_reducible refine qD ?_ ?_|split|exact trivial|dsimp only)
theorem Yy (op:BinOp)(x y:ByteArray):Plain P (Op.stringOp op x y):=by
 unfold Op.stringOp;exact zC
theorem Qf (op:BinOp)(k:IntKind)(x:Int)(k':IntKind)(y:Int):Plain P (Op.shift op k x k' y):=by
 unfold Op.shift;exact zC
theorem Gf (op:BinOp)(k:IntKind)(x y:Int):Plain P (Op.intArith op k x y):=by
 unfold Op.intArith;exact zC
theorem PI (op:BinOp)(k:IntKind)(x y:Int):Plain P (Op.intDiv op k x y):=by
 unfold Op.intDiv;exact zC
theorem Ee (op:BinOp)(k:IntKind)(x y:Int):Plain P (Op.intBits op k x y):=by
 unfold Op.intBits;cases op<;>trivial
theorem Zh (op:BinOp)(x y:Int):Plain P (Op.intCmp op x y):=by
 unfold Op.intCmp;exact zC
theorem jK (op:BinOp)(t:TypeId)(k k':IntKind)(x y:Int):Plain P (Go.binOp op t (.int k x) (.int k' y)):=by
 have key : ∀ s : Sem Value, Plain P s → Plain P (if k ≠ k' then stuck "BinOp: operands of different kinds" else s) := fun s hs => by
  split
  ·trivial
  ·exact hs
 cases op
 case shl=>exact Qf .shl k x k' y
 case shr=>exact Qf .shr k x k' y
 case add=>exact key _ (Gf .add k x y)
 case sub=>exact key _ (Gf .sub k x y)
 case mul=>exact key _ (Gf .mul k x y)
 case quo=>exact key _ (PI .quo k x y)
 case rem=>exact key _ (PI .rem k x y)
 case and=>exact key _ (Ee .and k x y)
 case or=>exact key _ (Ee .or k x y)
 case xor=>exact key _ (Ee .xor k x y)
 case andNot=>exact key _ (Ee .andNot k x y)
 all_goals exact key _ (Zh _ x y)
theorem mZ (op:BinOp)(t:TypeId)(x y:ByteArray):Plain P (Go.binOp op t (.string x) (.string y)):=by
 have e:Go.binOp op t (.string x) (.string y)=Op.stringOp op x y:=by cases op<;>rfl
 rw[e];exact Yy op x y
theorem ga (op:UnOp)(x:Value):Plain P (Op.unary op x):=by
 unfold Op.unary
 (repeat' first|with_reducible exact Gf _ _ _ _|with_reducible exact Ee _ _ _ _|exact zA|with_reducible refine af ?_ fun _=>?_|with_reducible refine nz ?_|with_reducible refine qD ?_ ?_|split|exact trivial|dsimp only)
theorem zpa (k k':IntKind)(x y:Int):Plain P (Builtin.min2 (.int k x) (.int k' y)):=trivial
theorem Z5 (k k':IntKind)(x y:Int):Plain P (Builtin.max2 (.int k x) (.int k' y)):=trivial
theorem YC {s:TypeId}{F:Array Field}{x:Value}  {f:Field}(hu:P.underlying s=some (.struct F))(hf:F[i]?=some f)(hi:(P.info? f.type).isSome=true)(h0:P.cellsOf f.type≠0):Plain P (Instr.fieldAt s x i):=by
 unfold Instr.fieldAt;refine aO hu ?_;simp only[hf];refine af (Gg x) fun a=>?_
 refine af ?_ fun _=>trivial
 unfold fieldPlace;refine KM hi ?_;rw[if_neg h0];trivial
theorem zqd (h:∀a,bD (f a)):bD (s >>= f):=bD.bind (.inr h)
theorem ZK (size Ky n:Nat)(base:Option Addr)(x:Value)(g:Bool→Sem β)(hg:∀b,Plain P (g b))(h:∀b,bD (g b)):Plain P (Builtin.mayShare size Ky n base x >>= g):=by
 unfold Builtin.mayShare
 have two:∀iq:Bool,Plain P ((if (!iq)=true then pure true else match x with
   | .slice (some b) _ _=>do pure (!(←Builtin.holdsCells b (n*size))||base.any (·.block == b.block))
   | _=>pure false:Sem Bool) >>= g):=fun iq=>by
  split
  ·exact hg _
  ·split
   ·intro s;exact bD.bind (.inr h)
   ·exact hg _
 cases base with
 | none=>exact two true
 | some a =>
  intro s;exact bD.bind (.inr h)
theorem zoL {c:Prop}[Decidable c]{x y:Sem α}(hx:bD x)(hy:bD y):bD (if c then x else y):=by split;exact hx;exact hy
theorem Zi:Plain P (mark .noRoom):=⟨.inl rfl,trivial⟩
theorem Qd (v:Value):Plain P (Builtin.lenOf v):=by
 unfold Builtin.lenOf;split<;>trivial
theorem OX (size n:Nat)(v:Value):Plain P (Builtin.firstCells size n v):=by
 unfold Builtin.firstCells;exact zC
set_option maxHeartbeats 4000000 in
theorem fA (ts:Array TypeId)(t:TypeId)(av:Array Value):Plain P (Builtin.append_ ts t av):=by
 unfold Builtin.append_
 (repeat' first|with_reducible exact Qd _|with_reducible exact Zi|with_reducible exact OX _ _ _|(with_reducible refine ZK _ _ _ _ _ _ (fun _=>?_) (fun _=>?_))|(with_reducible refine zoL ?_ ?_)|exact zqd fun _=>trivial|exact zA|with_reducible refine af ?_ fun _=>?_|with_reducible refine nz ?_|with_reducible refine qD ?_ ?_|split|exact trivial|dsimp only)
theorem lL (ts:Array TypeId)(t:TypeId)(av:Array Value):Plain P (Builtin.copy_ ts t av):=by
 unfold Builtin.copy_
 (repeat' first|with_reducible exact Qd _|with_reducible exact OX _ _ _|exact zA|with_reducible refine af ?_ fun _=>?_|with_reducible refine nz ?_|with_reducible refine qD ?_ ?_|split|exact trivial|dsimp only)
theorem jd (t:TypeId)(r:Option Value):Plain P (Instr.makeMap t r):=by
 unfold Instr.makeMap
 (repeat' first|with_reducible exact G0 rfl|exact zA|with_reducible refine af ?_ fun _=>?_|with_reducible refine nz ?_|with_reducible refine qD ?_ ?_|split|exact trivial|dsimp only)
theorem Yx (t:TypeId)(n:Value):Plain P (Instr.makeChan t n):=by
 unfold Instr.makeChan
 (repeat' first|with_reducible exact G0 rfl|exact zA|with_reducible refine af ?_ fun _=>?_|with_reducible refine nz ?_|with_reducible refine qD ?_ ?_|split|exact trivial|dsimp only)
theorem bI (x:Value)(t u:TypeId)(ok:Bool):Plain P (Instr.typeAssert x t u ok):=by
 unfold Instr.typeAssert;exact zC
theorem PG {f:α→β→Sem (ForInStep β)}(h:∀a b,Plain P (f a b)):∀(l:List α) (b:β),Plain P (forIn l b f)
 | [],b=>trivial
 | x::l,b=>by
  rw[List.forIn_cons];refine af (h x b) fun s=>?_
  cases s
  ·trivial
  ·exact PG h l _
theorem ZJ {f:α→β→Sem (ForInStep β)}(h:∀a b,Plain P (f a b))(l:Array α)(b:β):Plain P (forIn l b f):=by
 rw[←Array.forIn_toList];exact PG h _ _
theorem i0 (v:Value):Plain P (Conv.bytesToString v):=by
 unfold Conv.bytesToString
 (repeat' first|(with_reducible refine ZJ (fun _ _=>?_) _ _)|exact zA|with_reducible refine af ?_ fun _=>?_|with_reducible refine nz ?_|with_reducible refine qD ?_ ?_|split|exact trivial|dsimp only)
variable {w1 w2 W1 W2:World}
theorem Lz (h1:Does P O Z s W x W1)(h2:Does P (fQ O W W1) Z (f x) W1 r W2):Does P O Z (s >>= f) W r W2:=by
 have hg:fQ (fQ O W W1) W1 W2=fQ O W W2:=GF h1.size h2.size;refine⟨by rw[Sem.run_bind,h1.run];exact h2.run,h2.os.trans h1.os,h2.tape.trans h1.tape,h2.output.trans h1.output,Nat.le_trans h1.size h2.size,fun b hb hn=>?_,fun e he=>?_⟩
 ·rw[h2.keep b (Nat.lt_of_lt_of_le hb h1.size) (fun x=>x.elim hn fun y=>by omega),h1.keep b hb hn]
 ·rw[Sem.events_bind,h1.run,Result.evThen_ok]at he;rcases dE _ _ _ he with he|he
  ·exact(h1.evs e he).mono fun b hb=>by
    rcases hb with hb | ⟨hb,dk⟩
    ·exact .inl hb
    ·exact .inr ⟨hb,Nat.lt_of_lt_of_le dk h2.size⟩
  ·rw[←hg];exact h2.evs e he
theorem Quiet.bind (h1:Quiet P s w x w1)(h2:Quiet P (f x) w1 r w2):Quiet P (s >>= f) w r w2:=fun O Z W hl=>by
 obtain⟨W1,d1,l1,e1⟩:=h1 O Z W hl;obtain⟨W2,d2,l2,e2⟩:=h2 _ Z W1 l1;exact⟨W2,Lz d1 d2,by rw[←GF d1.size d2.size];exact l2,e2.trans e1⟩
theorem Quiet.kR (h1:Quiet P s w x w)(h2:jg P (f x) w r w2):jg P (s >>= f) w r w2:=fun O Z W hl hs hd=>by
 obtain⟨W1,d1,l1,e1⟩:=h1 O Z W hl
 have hsz:W1.heap.size=W.heap.size:=by
  rcases Nat.eq_or_lt_of_le d1.size with h|h
  ·exact h.symm
  ·exfalso;obtain⟨o,ho,_⟩:=l1.own W.heap.size (.inr ⟨Nat.le_refl _,h⟩);have:=(Array.getElem?_eq_some_iff.1 ho).1;omega
 obtain⟨W2,d2,l2⟩:=h2 _ Z W1 l1 (hs.trans hsz.symm) (hd.trans e1.symm);exact⟨W2,Lz d1 d2,by rw[←GF d1.size d2.size];exact l2⟩
theorem Does.pure (x:α):Does P O Z (Pure.pure x:Sem α) W x W:=⟨rfl,rfl,rfl,rfl,Nat.le_refl _,fun _ _ _=>rfl,fun e he=>by simp at he⟩
theorem Quiet.pure (x:α):Quiet P (Pure.pure x:Sem α) w x w:=fun O Z W hl=>⟨W,.pure x,by rw[eM];exact hl,rfl⟩
theorem Quiet.map {g:α→β}(h:Quiet P s w x w1):Quiet P (s >>= fun a=>Pure.pure (g a)) w (g x) w1:=h.bind (.pure _)
theorem jg.map {g:α→β}(h:jg P s w x w1):jg P (s >>= fun a=>Pure.pure (g a)) w (g x) w1:=fun O Z W hl h1 h2=>by
 obtain⟨W1,d1,l1⟩:=h O Z W hl h1 h2;refine⟨W1,Lz d1 (.pure _),l1⟩
end
end Gap
namespace Ev
open Gap
variable [Gap.Leaps]
variable {a:Act}{op:BinOp}{b:Bool}{fs:List (Nat×Nat×Bool)}{N n:Nat}{P:Program}{p q:Prop}{s:Sem Value}{t:TypeId}{v x y:Value}
abbrev cr:=List (Nat × Value)
def look:cr→Nat→Option Value
 | [],_=>none
 | (n,v)::r,t=>match Nat.beq n t with|true=>some v|false=>look r t
structure Fits (N:Nat)(σ:cr)(a:Act):Prop where
 size:a.tmps.size=N
 defers:a.defers=[]
 iM:∀n v,look σ n=some v→a.tmps[n]?=some v
def ro (σ:cr):Operand→Option Value
 | .tmp t=>look σ t
 | .const v=>some v
 | .global g=>some (.pointer (some ⟨g,0,none⟩))
 | .func f=>some (.func (.func f) #[] #[])
theorem dt {σ:cr}(h:Fits N σ a){x:Operand}{v:Value}(hx:ro σ x=some v):a.eval x=v:=by
 cases x with
 | tmp t =>
  have:=h.iM t v hx;simp[Act.eval,this]
 | const u=>simpa[ro,Act.eval]using hx
 | global g=>simpa[ro,Act.eval]using hx
 | func f=>simpa[ro,Act.eval]using hx
theorem Fits.put {σ:cr}(h:Fits N σ a){d:Nat}(hd:d<N)(v:Value):Fits N ((d,v)::σ) (a.put (some d) v):=by
 refine⟨by simp[Act.put,h.size],h.defers,fun n u hn=>?_⟩;unfold look at hn;cases hb:Nat.beq d n with
 | true =>
  rw[hb]at hn;have:=Nat.eq_of_beq_eq_true hb;subst this;simp only[Option.some.injEq]at hn;subst hn;simp[Act.put,h.size,hd]
 | false =>
  rw[hb]at hn;have cj:d≠n:=Nat.ne_of_beq_eq_false hb;simp only at hn;have:=h.iM n u hn;simpa[Act.put,Array.getElem?_setIfInBounds_ne cj]using this
theorem Fits.weaken {σ σ':cr}(h:Fits N σ a)(hs:∀n v,look σ' n=some v→look σ n=some v):Fits N σ' a :=
 ⟨h.size,h.defers,fun n v hn=>h.iM n v (hs n v hn)⟩
inductive TK where
 | int|bool|str|ptr|iface|other
 | struct (fs:List (Nat × Nat × Bool))
 | arr (n e pk:Nat) (Ip:Bool)
 | slice (e pk:Nat) (Ip:Bool)
 deriving DecidableEq
structure TI where
 size:Nat
 kind:TK
 zero:List Value
abbrev Tab:=List (Nat × TI)
def tl:Tab→Nat→Option TI
 | [],_=>none
 | (n,i)::r,t=>match Nat.beq n t with|true=>some i|false=>tl r t
def iv (P:Program)(t:TypeId):Bool :=
 match P.underlying t with
 | some (.struct _)|some (.array _ _)=>true
 | _=>false
def TK.agg:TK→Bool
 | .struct _ | .arr ..=>true
 | _=>false
def fieldsOf (P:Program)(F:Array Field):List (Nat × Nat × Bool):=F.toList.map fun f=>(f.offset,P.cellsOf f.type,iv P f.type)
def lP (P:Program)(t:TypeId):TK→Bool
 | .int=>match P.underlying t with|some (.int .i64)=>true|_=>false
 | .bool=>match P.underlying t with|some .bool=>true|_=>false
 | .str=>match P.underlying t with|some .string=>true|_=>false
 | .ptr=>match P.underlying t with|some (.pointer _)=>true|_=>false
 | .iface=>match P.underlying t with|some (.interface _)=>true|_=>false
 | .other=>match P.underlying t with|some (.struct _)|some (.array _ _)|some (.interface _)|none=>false|_=>true
 | .struct fs=>match P.underlying t with|some (.struct F)=>fieldsOf P F == fs&&F.toList.all fun f=>(P.info? f.type).isSome&&(P.underlying f.type).isSome&&P.cellsOf f.type != 0|_=>false
 | .arr n e pk g=>match P.underlying t with|some (.array n' e')=>n' == n&&e' == e&&P.cellsOf e == pk&&iv P e == g&&(P.info? e).isSome&&(P.underlying e).isSome|_=>false
 | .slice e pk g=>match P.underlying t with|some (.slice e')=>e' == e&&P.cellsOf e == pk&&iv P e == g&&(P.info? e).isSome&&(P.underlying e).isSome|_=>false
structure aK (P:Program)(t:TypeId)(i:TI):Prop where
 info:(P.info? t).map (·.size)=some i.size
 kind:lP P t i.kind=true
 zero:i.zero=[]∨(P.info? t).bind (·.zero)=some (match i.kind.agg with|true=>.agg i.zero.toArray|false=>i.zero.headD undef)
def cO (P:Program)(τ:Tab):Prop:=∀t i,tl τ t=some i→aK P t i
def pV (P:Program):Tab→Prop
 | []=>True
 | (t,i)::r=>aK P t i∧pV P r
theorem cO.Ab {τ:Tab}(h:pV P τ):cO P τ:=by
 induction τ with
 | nil=>intro t i hi;cases hi
 | cons x r ih =>
  obtain⟨n,j⟩:=x;intro t i hi;unfold tl at hi;cases hb:Nat.beq n t with
  | true =>
   rw[hb]at hi;have:=Nat.eq_of_beq_eq_true hb;subst this;simp only[Option.some.injEq]at hi;subst hi;exact h.1
  | false =>
   rw[hb]at hi;exact ih h.2 t i hi
section
variable {i:TI}
theorem aK.lM (h:aK P t i)(w:World):(sizeOf t).run P w=.ok i.size w:=by
 obtain⟨inf,h1,h2⟩:=Option.map_eq_some_iff.1 h.info;simp[sizeOf,typeInfo,h1,h2]
theorem Zd (h:lP P t i.kind=true):∃d,P.underlying t=some d:=by
 cases hu:P.underlying t with
 | some d=>exact⟨d,rfl⟩
 | none=>cases hk:i.kind<;>simp[lP,hu,hk]at h
theorem LZ (w:World)(h:∃d,P.underlying t=some d):(isAgg t).run P w=.ok (iv P t) w:=by
 obtain⟨d,hd⟩:=h;cases d<;>simp[isAgg,underlying,hd,iv]
theorem aK.uW (h:aK P t i)(w:World):(isAgg t).run P w=.ok i.kind.agg w:=by
 rw[LZ w (Zd h.kind)];congr 1;have hk:=h.kind;cases hi:i.kind<;>simp only[hi,lP]at hk<;>(unfold iv;split at hk<;>simp_all[TK.agg])
theorem ny {u:TypeId}(h:(P.info? u).isSome=true)(w:World):(sizeOf u).run P w=.ok (P.cellsOf u) w:=by
 obtain⟨inf,h1⟩:=Option.isSome_iff_exists.1 h;simp[sizeOf,typeInfo,h1,Program.cellsOf]
end
structure ag (n:Int)(p:Prop):Prop where
 lo : -9223372036854775808≤n
 hi:n≤9223372036854775807
 go:p
structure ao (i:Int)(n:Nat)(p:Prop):Prop where
 lo:0≤i
 hi:i<(n:Int)
 go:p
structure bO (n:Int)(p:Prop):Prop where
 ne:n≠0
 go:p
structure aB (P:Program)(s:Sem Value)(k:Value→Prop):Prop where
 ex:∃v,(∀w,s.run P w=.ok v w)∧k v
 plain:Plain P s
theorem aB.of {k:Value→Prop}(h:∀w,s.run P w=.ok v w)(hk:k v)
  (hp:Plain P s:=by first|exact Go.Proofs.YtggfpjldhglmeaaGreatDoor.Gap.kC _ _ _|exact Go.Proofs.YtggfpjldhglmeaaGreatDoor.Gap.gy _ _ _ _ _|exact Go.Proofs.YtggfpjldhglmeaaGreatDoor.Gap.mZ _ _ _ _|exact Go.Proofs.YtggfpjldhglmeaaGreatDoor.Gap.jK _ _ _ _ _ _|exact Go.Proofs.YtggfpjldhglmeaaGreatDoor.Gap.ga _ _|exact Go.Proofs.YtggfpjldhglmeaaGreatDoor.Gap.kB _ _):aB P s k:=⟨⟨v,h,hk⟩,hp⟩
def br (b:Bool)(p q:Prop):Prop:=match b with|true=>p|false=>q
theorem cD (h1:b=true→p)(h2:b=false→q):br b p q:=by cases b;exact h2 rfl;exact h1 rfl
theorem aM {c:Prop}[Decidable c]{p q:Prop}(h1:c→p)(h2:¬c→q):br (decide c) p q:=by
 by_cases h:c
 ·rw[decide_eq_true h];exact h1 h
 ·rw[decide_eq_false h];exact h2 h
theorem ca {c:Prop}[Decidable c]{p q:Prop}(h1:¬c→p)(h2:c→q):br (!(decide c)) p q:=by
 by_cases h:c
 ·rw[decide_eq_true h];exact h2 h
 ·rw[decide_eq_false h];exact h1 h
theorem cE (h1:b=false→p)(h2:b=true→q):br (!b) p q:=by cases b;exact h1 rfl;exact h2 rfl
class BT (b:Bool)(P Q:outParam Prop):Prop where
 t:b=true→P
 f:b=false→Q
instance (priority:=low) BT.i1 (b:Bool):BT b (b=true) (b=false):=⟨id,id⟩
instance (priority:=mid) BT.i2 (b:Bool):BT (!b) (b=false) (b=true):=⟨by cases b<;>simp,by cases b<;>simp⟩
instance BT.i3 {c:Prop}[Decidable c]:BT (decide c) c (¬c):=⟨of_decide_eq_true,of_decide_eq_false⟩
instance (priority:=high) BT.i4 {c:Prop}[Decidable c]:BT (!decide c) (¬c) c:=⟨fun h=>of_decide_eq_false (by simpa using h),fun h=>of_decide_eq_true (by simpa using h)⟩
theorem aR {P Q:Prop}[t:BT b P Q](h1:P→p)(h2:Q→q):br b p q:=cD (fun h=>h1 (t.t h)) (fun h=>h2 (t.f h))
theorem Vm (h:b=false)(h1:q):br b p q:=by subst h;exact h1
theorem ML (h:br b p q):(b=true∧p)∨(b=false∧q):=by cases b;exact .inr ⟨rfl,h⟩;exact .inl ⟨rfl,h⟩
def nth:List Value→Nat→Option Value
 | [],_=>none
 | v::_,0=>some v
 | _::r,n+1=>nth r n
theorem UH (l:List Value)(n:Nat):nth l n=l[n]?:=by
 induction l generalizing n with
 | nil=>rfl
 | cons x r ih=>cases n with
  | zero=>rfl
  | succ n=>simpa[nth]using ih n
def over (cs:List Value)(o:Nat)(vs:List Value):List Value:=cs.take o++vs++cs.drop (o+vs.length)
def E7:List Value→Nat→List Value→(List Value→Prop)→Prop
 | cs,0,[],k=>k cs
 | [],0,_::_,_=>False
 | _::cs,0,v::vs,k=>E7 cs 0 vs fun l=>k (v::l)
 | c::cs,n+1,vs,k=>E7 cs n vs fun l=>k (c::l)
 | [],_+1,_,_=>False
theorem K7:∀(cs:List Value) (o:Nat) (vs:List Value) (k:List Value→Prop),E7 cs o vs k→o+vs.length≤cs.length∧k (over cs o vs)
 | cs,0,[],k,h=>by simpa[over,E7]using h
 | [],0,_::_,_,h=>h.elim
 | _::cs,0,v::vs,k,h=>by
  have:=K7 cs 0 vs _ h;refine⟨by simpa using this.1,?_⟩;simpa[over]using this.2
 | c::cs,n+1,vs,k,h=>by
  have:=K7 cs n vs _ h;refine⟨by have:=this.1;simp;omega,?_⟩;have h2:=this.2;simp only[over,List.take_succ_cons,List.cons_append]at h2 ⊢;have e:n+1+vs.length=(n+vs.length)+1:=by omega
  rw[e,List.drop_succ_cons];exact h2
 | [],_+1,_,_,h=>h.elim
def H3:List Value→Nat→Nat→(List Value→Prop)→Prop
 | _,0,0,k=>k []
 | [],0,_+1,_=>False
 | c::cs,0,n+1,k=>H3 cs 0 n fun l=>k (c::l)
 | _::cs,o+1,n,k=>H3 cs o n k
 | [],_+1,_,_=>False
theorem Lh:∀(cs:List Value) (o n:Nat) (k:List Value→Prop),H3 cs o n k→o+n≤cs.length∧k ((cs.drop o).take n)
 | [],0,0,k,h=>⟨by simp,h⟩
 | c::cs,0,0,k,h=>⟨by simp,h⟩
 | [],0,_+1,_,h=>h.elim
 | c::cs,0,n+1,k,h=>by
  have:=Lh cs 0 n _ h;exact⟨by have:=this.1;simp;omega,by simpa using this.2⟩
 | _::cs,o+1,n,k,h=>by
  have:=Lh cs o n _ h;exact⟨by have:=this.1;simp;omega,by simpa using this.2⟩
 | [],_+1,_,_,h=>h.elim
def cM:Value→List Value
 | .agg cs=>cs.toList
 | v=>[v]
theorem uG (v:Value):cM v=v.cells.toList:=by cases v<;>rfl
def pc (σ:cr):List Operand→(List Value→Prop)→Prop
 | [],k=>k []
 | x::xs,k=>match ro σ x with
  | some v=>pc σ xs fun vs=>k (v::vs)
  | none=>False
theorem oX {σ:cr}(hf:Fits N σ a):∀(xs:List Operand) (k:List Value→Prop),pc σ xs k→k (xs.map a.eval)
 | [],k,h=>h
 | x::xs,k,h=>by
  unfold pc at h;cases hx:ro σ x with
  | none=>rw[hx]at h;exact h.elim
  | some v =>
   rw[hx]at h;have:=oX hf xs _ h;simpa[dt hf hx]using this
def ud (x y:Int):Int:=IntKind.i64.wrap ((BitVec.ofInt 64 x &&& BitVec.ofInt 64 y).toNat:Int)
def UL (P:Program)(op:BinOp)(x y:Int)(k:Value→Prop):Prop :=
 match op with
 | .add=>ag (x+y) (k (.int .i64 (x+y)))
 | .sub=>ag (x-y) (k (.int .i64 (x-y)))
 | .mul=>ag (x*y) (k (.int .i64 (x*y)))
 | .eql=>k (.bool (x == y))
 | .neq=>k (.bool (x != y))
 | .lss=>k (.bool (x<y))
 | .leq=>k (.bool (x≤y))
 | .gtr=>k (.bool (x>y))
 | .geq=>k (.bool (x≥y))
 | .and=>k (.int .i64 (ud x y))
 | .rem=>bO y (k (.int .i64 (x.tmod y)))
 | .quo=>bO y (ag (x.tdiv y) (k (.int .i64 (x.tdiv y))))
 | op=>aB P (Go.binOp op 0 (.int .i64 x) (.int .i64 y)) k
def Ff (P:Program)(τ:Tab)(op:BinOp)(t:TypeId)(cy:Bool)(x y:Value)(k:Value→Prop):Prop :=
 match x,y with
 | .int .i64 a,.int .i64 b=>UL P op a b k
 | .bool a,.bool b=>match tl τ t with
  | some ⟨_,.bool,_⟩=>(match op with
   | .eql=>k (.bool (a == b))
   | .neq=>k (.bool (!(a == b)))
   | _=>False)
  | _=>False
 | .nilIface,.nilIface=>match tl τ t,cy with
  | some ⟨_,.iface,_⟩,true=>(match op with
   | .eql=>k (.bool true)
   | .neq=>k (.bool false)
   | _=>False)
  | _,_=>False
 | .iface _ _,.nilIface=>match tl τ t with
  | some ⟨_,.iface,_⟩=>(match op with
   | .eql=>k (.bool false)
   | .neq=>k (.bool true)
   | _=>False)
  | _=>False
 | .pointer a,.pointer none=>match tl τ t with
  | some ⟨_,.ptr,_⟩=>(match op with
   | .eql=>k (.bool a.isNone)
   | .neq=>k (.bool (!a.isNone))
   | _=>False)
  | _=>False
 | .slice a _ _,.slice none _ _=>match tl τ t with
  | some ⟨_,.slice _ _ _,_⟩=>(match op with
   | .eql=>k (.bool a.isNone)
   | .neq=>k (.bool (!a.isNone))
   | _=>False)
  | _=>False
 | .agg a,.agg b=>aB P (do eqGuard op t (.tmp 0) (.tmp 0) (.agg a) (.agg b);Go.binOp op t (.agg a) (.agg b)) k
 | .string a,.string b=>aB P (Go.binOp op t (.string a) (.string b)) k
 | .int q a,.int q' b=>aB P (Go.binOp op t (.int q a) (.int q' b)) k
 | .pointer (some a),.pointer (some b)=>aB P (Go.binOp op t (.pointer (some a)) (.pointer (some b))) k
 | _,_=>False
def EM:Operand→Bool
 | .const _=>true
 | _=>false
def HR (fs:List (Nat × Nat × Bool))(zero:List Value):List (Nat × Value)→(List Value→Prop)→Prop
 | [],k=>k zero
 | (i,v)::r,k=>match fs[i]? with
  | some (off,size,_)=>(match Nat.beq (cM v).length size with
   | true=>E7 zero off (cM v) fun z=>HR fs z r k
   | false=>False)
  | none=>False
def BM (σ:cr):List (Nat × Operand)→(List (Nat × Value)→Prop)→Prop
 | [],k=>k []
 | (i,x)::xs,k=>match ro σ x with
  | some v=>BM σ xs fun vs=>k ((i,v)::vs)
  | none=>False
theorem KV {σ:cr}(hf:Fits N σ a):∀(xs:List (Nat × Operand)) (k:List (Nat × Value)→Prop),BM σ xs k→k (xs.map fun p=>(p.1,a.eval p.2))
 | [],k,h=>h
 | (i,x)::xs,k,h=>by
  unfold BM at h;cases hx:ro σ x with
  | none=>rw[hx]at h;exact h.elim
  | some v =>
   rw[hx]at h;have:=KV hf xs _ h;simpa[dt hf hx]using this
def rB (P:Program)(τ:Tab)(σ:cr)(op:Op)(k:Value→Prop):Prop :=
 match op with
 | .move x | .assign x=>match ro σ x with
  | some v=>k v
  | none=>False
 | .pick c x y=>match ro σ c with
  | some (.bool b)=>br b (match ro σ x with|some v=>k v|none=>False) (match ro σ y with|some v=>k v|none=>False)
  | _=>False
 | .unOp .not _ x=>match ro σ x with
  | some (.bool b)=>k (.bool (!b))
  | _=>False
 | .unOp .neg _ x=>match ro σ x with
  | some (.int q n)=>aB P (Op.unary .neg (.int q n)) k
  | _=>False
 | .unOp .xor _ x=>match ro σ x with
  | some (.int q n)=>aB P (Op.unary .xor (.int q n)) k
  | _=>False
 | .binOp op t x y _=>match ro σ x,ro σ y with
  | some vx,some vy=>Ff P τ op t (EM y) vx vy k
  | _,_=>False
 | .extract x i=>match ro σ x with
  | some (.tuple vs)=>(match nth vs.toList i with
   | some v=>k v
   | none=>False)
  | _=>False
 | .nilCheck x=>match ro σ x with
  | some (.pointer (some a))=>k (.pointer (some a))
  | some (.func (.func f) fs cs)=>k (.func (.func f) fs cs)
  | _=>False
 | .fieldAddr s x f=>match ro σ x,tl τ s with
  | some (.pointer (some ⟨b,o,none⟩)),some ⟨_,.struct fs,_⟩=>(match fs[f]? with
   | some (off,_,_)=>k (.pointer (some ⟨b,o+off,none⟩))
   | none=>False)
  | _,_=>False
 | .indexAddr t x i=>match ro σ x,ro σ i,tl τ t with
  | some (.pointer (some ⟨b,o,none⟩)),some (.int _ j),some ⟨_,.arr n _ pk _,_⟩=>ao j n (k (.pointer (some ⟨b,o+j.toNat*pk,none⟩)))
  | some (.slice (some ⟨b,o,none⟩) n _),some (.int _ j),some ⟨_,.slice _ pk _,_⟩=>ao j n (k (.pointer (some ⟨b,o+j.toNat*pk,none⟩)))
  | _,_,_=>False
 | .index t x i=>match ro σ x,ro σ i with
  | some vx,some vi=>aB P (Instr.index t vx vi) k
  | _,_=>False
 | .field t x f=>match ro σ x,tl τ t with
  | some (.agg cs),some ⟨_,.struct fs,_⟩=>(match fs[f]? with
   | some (off,size,true)=>H3 cs.toList off size fun l=>k (.agg l.toArray)
   | some (off,_,false)=>(match nth cs.toList off with
    | some v=>k v
    | none=>False)
   | none=>False)
  | _,_=>False
 | .makeInterface t x=>match ro σ x,tl τ t with
  | some v,some ⟨_,kd,_⟩=>(match kd with
   | .iface=>False
   | _=>k (.iface t v))
  | _,_=>False
 | .makeFunc fn first cs=>pc σ first.toList fun f=>pc σ cs.toList fun c=>k (.func fn f.toArray c.toArray)
 | .build t parts=>BM σ parts.toList fun ps=>match tl τ t with
  | some ⟨_,.struct fs,z::zs⟩=>HR fs (z::zs) ps fun l=>k (.agg l.toArray)
  | _=>aB P (Instr.build t ps.toArray) k
 | .call { callee:=.builtin .len,args:=av,argTypes:=ts }=>pc σ av.toList fun vs=>match vs,ts.toList with
  | [.slice _ n _],[t]=>(match tl τ t with
   | some ⟨_,.slice _ _ _,_⟩=>k (.int .i64 n)
   | _=>False)
  | [.string s],[t]=>(match tl τ t with
   | some ⟨_,.str,_⟩=>k (.int .i64 s.size)
   | _=>False)
  | [_],[t]=>(match tl τ t with
   | some ⟨_,.arr n _ _ _,_⟩=>k (.int .i64 n)
   | _=>False)
  | _,_=>False
 | .call { callee:=.builtin .cap,args:=av,argTypes:=ts }=>pc σ av.toList fun vs=>match vs,ts.toList with
  | [.slice _ _ c],[t]=>(match tl τ t with
   | some ⟨_,.slice _ _ _,_⟩=>k (.int .i64 c)
   | _=>False)
  | _,_=>False
 | .call { callee:=.builtin .min,args:=av,argTypes:=_ }=>pc σ av.toList fun vs=>match vs with
  | [.int .i64 x,.int .i64 y]=>k (.int .i64 (if y<x then y else x))
  | _=>False
 | .call { callee:=.builtin .max,args:=av,argTypes:=_ }=>pc σ av.toList fun vs=>match vs with
  | [.int .i64 x,.int .i64 y]=>k (.int .i64 (if y>x then y else x))
  | _=>False
 | .convert s d x=>match ro σ x with
  | some (.int q n)=>aB P (Go.convert s d (.int q n)) k
  | some (.string v)=>aB P (Go.convert s d (.string v)) k
  | _=>False
 | .slice t x none none none=>match ro σ x,tl τ t with
  | some (.pointer (some ⟨b,o,none⟩)),some ⟨_,.arr n _ _ _,_⟩=>(match Nat.beq n 0 with
   | true=>False
   | false=>k (.slice (some ⟨b,o,none⟩) n n))
  | _,_=>False
 | .slice t x lo hi mx=>match ro σ x,(lo.elim (some none) fun y=>(ro σ y).map some),(hi.elim (some none) fun y=>(ro σ y).map some),(mx.elim (some none) fun y=>(ro σ y).map some) with
  | some vx,some vl,some vh,some vm=>aB P (Instr.sliceAt t vx vl vh vm) k
  | _,_,_,_=>False
 | _=>False
theorem DT {i:Int}(g : p)(a : 0 ≤ i := by omega)(b : i<(n : Int) := by omega) : ao i n p := ⟨a, b, g⟩
theorem Kw {n:Int}(g : p)(a : -9223372036854775808 ≤ n := by omega)(b : n ≤ 9223372036854775807 := by omega) : ag n p := ⟨a, b, g⟩
theorem nzO {n:Int}(g : p)(a : n ≠ 0 := by decide) : bO n p := ⟨a, g⟩
theorem X1 {i:TI}(a : (P.info? t).map (·.size)=some i.size := by kernel_rfl)(b : lP P t i.kind=true := by kernel_rfl)(c : (P.info? t).bind (·.zero)=some (match i.kind.agg with | true => .agg i.zero.toArray | false => i.zero.headD undef) := by kernel_rfl) : aK P t i := ⟨a, b, .inr c⟩
theorem XD {a b:Nat}(h : Nat.ble a b=true) : a ≤ b := Nat.le_of_ble_eq_true h
def Yv (P:Program)(o:Oper)(a:Act)(v:Value):Prop:=∀w,(execOp a.eval o).run P w=.ok (.value v) w
section
variable {τ:Tab}  {σ:cr}
theorem pd (h:∀w,s.run P w=.ok v w)(w:World):(do pure (Next.value (←s)):Sem Next).run P w=.ok (.value v) w:=by
 simp[h w,Result.andThen]
theorem HF {n:Int}(h1 : -9223372036854775808≤n)(h2:n≤9223372036854775807):IntKind.i64.wrap n=n:=by
 rw[IntKind.wrap_i64];omega
theorem YG (op:BinOp)(t:TypeId)(x y:Operand)(u v:Value)(h:∀cs,u≠.agg cs)(h':u≠.nilIface)(w:World):(eqGuard op t x y u v).run P w=.ok () w:=by
 unfold eqGuard;cases op<;>first|rfl|(cases u<;>first|rfl|exact absurd rfl h'|exact absurd rfl (h _))
theorem r9 {x y:Operand}{u r:Value}(h:∀cs,u≠.agg cs)(h':u≠.nilIface)(hr:∀w,(Go.binOp op t u v).run P w=.ok r w)(w:World) :
  (do eqGuard op t x y u v;Go.binOp op t u v:Sem Value).run P w=.ok r w:=by
 rw[Sem.run_bind,YG op t x y u v h h' w];exact hr w
theorem ZQ {x y:Int}{k:Value→Prop}(t:TypeId)(h:UL P op x y k):∃v,(∀w,(Go.binOp op t (.int .i64 x) (.int .i64 y)).run P w=.ok v w)∧k v:=by
 cases op
 case add=>exact⟨_,fun w=>by simp[Go.binOp,Op.intArith,HF h.lo h.hi],h.go⟩
 case sub=>exact⟨_,fun w=>by simp[Go.binOp,Op.intArith,HF h.lo h.hi],h.go⟩
 case mul=>exact⟨_,fun w=>by simp[Go.binOp,Op.intArith,HF h.lo h.hi],h.go⟩
 case eql=>exact⟨_,fun w=>rfl,h⟩
 case neq=>exact⟨_,fun w=>rfl,h⟩
 case lss=>exact⟨_,fun w=>rfl,h⟩
 case leq=>exact⟨_,fun w=>rfl,h⟩
 case gtr=>exact⟨_,fun w=>rfl,h⟩
 case geq=>exact⟨_,fun w=>rfl,h⟩
 case and=>exact⟨_,fun w=>rfl,h⟩
 case rem=>exact⟨_,fun w=>by simp[Go.binOp,Op.intDiv,h.ne],h.go⟩
 case quo=>exact⟨_,fun w=>by simp[Go.binOp,Op.intDiv,h.ne,HF h.go.lo h.go.hi],h.go.go⟩
 all_goals
  obtain⟨v,hv,hk⟩:=h.ex;exact⟨v,fun w=>by rw[←hv w];rfl,hk⟩
theorem mh {i:TI}(hτ:cO P τ)(h:tl τ t=some i):lP P t i.kind=true:=(hτ t i h).kind
theorem Q8 (h:lP P t .bool=true):P.underlying t=some .bool:=by
 simp only[lP]at h;split at h<;>simp_all
theorem Gw (h:lP P t .iface=true):∃ms,P.underlying t=some (.interface ms):=by
 simp only[lP]at h;split at h<;>simp_all
theorem R8 (h:lP P t .ptr=true):∃e,P.underlying t=some (.pointer e):=by
 simp only[lP]at h;split at h<;>simp_all
theorem Ei {t e pk:Nat}{g:Bool}(h:lP P t (.slice e pk g)=true):P.underlying t=some (.slice e)∧P.cellsOf e=pk∧iv P e=g∧(P.info? e).isSome=true∧∃d,P.underlying e=some d:=by
 simp only[lP]at h;split at h
 ·rename_i e' hu;simp only[Bool.and_eq_true,beq_iff_eq]at h;obtain⟨⟨⟨⟨rfl,h2⟩,h3⟩,h4⟩,h5⟩:=h;exact⟨hu,h2,h3,h4,Option.isSome_iff_exists.1 h5⟩
 ·cases h
theorem LH {t e pk:Nat}{g:Bool}(h:lP P t (.arr n e pk g)=true):P.underlying t=some (.array n e)∧P.cellsOf e=pk∧iv P e=g∧(P.info? e).isSome=true∧∃d,P.underlying e=some d:=by
 simp only[lP]at h;split at h
 ·rename_i n' e' hu;simp only[Bool.and_eq_true,beq_iff_eq]at h;obtain⟨⟨⟨⟨⟨rfl,rfl⟩,h2⟩,h3⟩,h4⟩,h5⟩:=h;exact⟨hu,h2,h3,h4,Option.isSome_iff_exists.1 h5⟩
 ·cases h
theorem zrY (h:lP P t .str=true):P.underlying t=some .string:=by
 simp only[lP]at h;split at h<;>simp_all
theorem Gz (h:lP P t (.struct fs)=true) :
  ∃F,P.underlying t=some (.struct F)∧F.size=fs.length∧∀(i off sz:Nat) (g:Bool),fs[i]?=some (off,sz,g)→∃f:Field,F[i]?=some f∧f.offset=off∧P.cellsOf f.type=sz∧iv P f.type=g∧(P.info? f.type).isSome=true∧(∃d,P.underlying f.type=some d)∧sz≠0:=by
 simp only[lP]at h;split at h
 ·rename_i F hu;simp only[Bool.and_eq_true,beq_iff_eq,List.all_eq_true]at h;obtain⟨h1,h2⟩:=h;refine⟨F,hu,by rw[←h1];simp[fieldsOf],fun i off sz g hi=>?_⟩;rw[←h1]at hi;simp only[fieldsOf,List.getElem?_map,Option.map_eq_some_iff,Prod.mk.injEq]at hi;obtain⟨f,hf,rfl,rfl,rfl⟩:=hi;have dH:F[i]?=some f:=by simpa using hf
  have hm:f∈F.toList:=List.mem_of_getElem? hf;have:=h2 f hm;simp only[bne_iff_ne,ne_eq]at this;exact⟨f,dH,rfl,rfl,rfl,this.1.1,Option.isSome_iff_exists.1 this.1.2,this.2⟩
 ·cases h
section eqs
variable {w:World}
theorem Rp (d:Nat)(hu:P.underlying t=some .bool)(a b:Bool):(Op.equalIn (d+1) t (.bool a) (.bool b)).run P w=.ok (a == b) w:=by
 simp[Op.equalIn,underlying,hu]
theorem TD (d:Nat){ms:Array (String × TypeId)}(hu:P.underlying t=some (.interface ms)):(Op.equalIn (d+1) t .nilIface .nilIface).run P w=.ok true w:=by
 simp[Op.equalIn,underlying,hu]
theorem TC (d:Nat){ms:Array (String × TypeId)}(hu:P.underlying t=some (.interface ms))(u:TypeId)(v:Value):(Op.equalIn (d+1) t (.iface u v) .nilIface).run P w=.ok false w:=by
 simp[Op.equalIn,underlying,hu]
theorem TE (d:Nat){e:TypeId}(hu:P.underlying t=some (.pointer e))(p:Option Addr):(Op.equalIn (d+1) t (.pointer p) (.pointer none)).run P w=.ok p.isNone w:=by
 cases p<;>simp[Op.equalIn,underlying,hu]
theorem TG (d:Nat){e:TypeId}(hu:P.underlying t=some (.slice e))(p:Option Addr)(n c n' c':Nat):(Op.equalIn (d+1) t (.slice p n c) (.slice none n' c')).run P w=.ok p.isNone w:=by
 cases p<;>simp[Op.equalIn,underlying,hu]
theorem EU (h:∀w,(Op.equalIn (9999+1) t x y).run P w=.ok b w)(w:World):(do pure (.bool (←Op.equal t x y)):Sem Value).run P w=.ok (.bool b) w:=by
 have:∀w,(Op.equal t x y).run P w=.ok b w:=h;simp[this w]
theorem EZ (h:∀w,(Op.equalIn (9999+1) t x y).run P w=.ok b w)(w:World):(do pure (.bool (!(←Op.equal t x y))):Sem Value).run P w=.ok (.bool (!b)) w:=by
 have:∀w,(Op.equal t x y).run P w=.ok b w:=h;simp[this w]
end eqs
theorem Z3 (hτ:cO P τ){op:BinOp}{t:TypeId}{x y:Operand}{u v:Value}{k:Value→Prop}(h:Ff P τ op t (EM y) u v k) :
  ∃r,(∀w,(do eqGuard op t x y u v;Go.binOp op t u v:Sem Value).run P w=.ok r w)∧k r:=by
 unfold Ff at h;split at h
 ·obtain⟨r,hr,hk⟩:=ZQ t h;exact⟨r,r9 zi zi hr,hk⟩
 ·split at h
  ·rename_i hi;have hu:=Q8 (mh hτ hi);split at h
   ·exact⟨_,r9 zi zi (EU fun w=>Rp 9999 hu _ _),h⟩
   ·exact⟨_,r9 zi zi (EZ fun w=>Rp 9999 hu _ _),h⟩
   ·exact h.elim
  ·exact h.elim
 ·split at h
  ·rename_i hi hc;obtain⟨ms,hu⟩:=Gw (mh hτ hi)
   have td:∃z,y=.const z:=by
    cases y<;>simp[EM]at hc;exact⟨_,rfl⟩
   obtain⟨z,rfl⟩:=td;split at h
   ·refine⟨_,fun w=>?_,h⟩;have e:(eqGuard .eql t x (.const z) .nilIface .nilIface).run P w=.ok () w:=by simp[eqGuard]
    rw[Sem.run_bind,e];exact EU (fun w=>TD 9999 hu) w
   ·refine⟨_,fun w=>?_,h⟩;have e:(eqGuard .neq t x (.const z) .nilIface .nilIface).run P w=.ok () w:=by simp[eqGuard]
    rw[Sem.run_bind,e];exact EZ (b:=true) (fun w=>TD 9999 hu) w
   ·exact h.elim
  ·exact h.elim
 ·split at h
  ·rename_i hi;obtain⟨ms,hu⟩:=Gw (mh hτ hi);split at h
   ·exact⟨_,r9 zi zi (EU fun w=>TC 9999 hu _ _),h⟩
   ·exact⟨_,r9 zi zi (EZ (b:=false) fun w=>TC 9999 hu _ _),h⟩
   ·exact h.elim
  ·exact h.elim
 ·rename_i p;split at h
  ·rename_i hi;obtain⟨e,hu⟩:=R8 (mh hτ hi);split at h
   ·exact⟨_,r9 zi zi (EU fun w=>TE 9999 hu _),h⟩
   ·exact⟨_,r9 zi zi (EZ fun w=>TE 9999 hu _),h⟩
   ·exact h.elim
  ·exact h.elim
 ·rename_i p _ _ _ _;split at h
  ·rename_i hi;obtain⟨hu,_⟩:=Ei (mh hτ hi);split at h
   ·exact⟨_,r9 zi zi (EU fun w=>TG 9999 hu _ _ _ _ _),h⟩
   ·exact⟨_,r9 zi zi (EZ fun w=>TG 9999 hu _ _ _ _ _),h⟩
   ·exact h.elim
  ·exact h.elim
 ·obtain⟨r,hr,hk⟩:=h.ex;exact⟨r,fun w=>by rw[←hr w];unfold eqGuard;rfl,hk⟩
 ·obtain⟨r,hr,hk⟩:=h.ex;exact⟨r,r9 zi zi hr,hk⟩
 ·obtain⟨r,hr,hk⟩:=h.ex;exact⟨r,r9 zi zi hr,hk⟩
 ·obtain⟨r,hr,hk⟩:=h.ex;exact⟨r,r9 zi zi hr,hk⟩
 ·exact h.elim
theorem lV (h:Plain P s):Plain P (do pure (Next.value (←s)):Sem Next):=af h fun _=>trivial
theorem rZ {x y:Operand}{u:Value}(h:∀cs,u≠.agg cs)(h':u≠.nilIface){s:Sem Value}(hs:Plain P s):Plain P (do eqGuard op t x y u v;s:Sem Value):=by
 have e:∀op,eqGuard op t x y u v=(pure ():Sem Unit):=fun op=>by
  unfold eqGuard;cases op<;>first|rfl|(cases u<;>first|rfl|exact absurd rfl h'|exact absurd rfl (h _))
 rw[e];exact hs
theorem xR (h:Plain P (Op.equalIn (9999+1) t x y)):Plain P (do pure (.bool (←Op.equal t x y)):Sem Value):=af (s:=Op.equal t x y) h fun _=>trivial
theorem AM (h:Plain P (Op.equalIn (9999+1) t x y)):Plain P (do pure (.bool (!(←Op.equal t x y))):Sem Value):=af (s:=Op.equal t x y) h fun _=>trivial
section eqs
theorem PF (hu:P.underlying t=some .bool)(a b:Bool):Plain P (Op.equalIn (9999+1) t (.bool a) (.bool b)):=by
 unfold Op.equalIn;exact aO hu trivial
theorem Qt {ms:Array (String × TypeId)}(hu:P.underlying t=some (.interface ms)):Plain P (Op.equalIn (9999+1) t .nilIface .nilIface):=by
 unfold Op.equalIn;exact aO hu trivial
theorem Qs {ms:Array (String × TypeId)}(hu:P.underlying t=some (.interface ms))(u:TypeId)(v:Value):Plain P (Op.equalIn (9999+1) t (.iface u v) .nilIface):=by
 unfold Op.equalIn;exact aO hu trivial
theorem Qu {e:TypeId}(hu:P.underlying t=some (.pointer e))(p:Option Addr):Plain P (Op.equalIn (9999+1) t (.pointer p) (.pointer none)):=by
 unfold Op.equalIn;cases p<;>exact aO hu trivial
theorem Qv {e:TypeId}(hu:P.underlying t=some (.slice e))(p:Option Addr)(n c n' c':Nat):Plain P (Op.equalIn (9999+1) t (.slice p n c) (.slice none n' c')):=by
 unfold Op.equalIn;cases p<;>exact aO hu trivial
end eqs
theorem Z2 (hτ:cO P τ){op:BinOp}{t:TypeId}{x y:Operand}{u v:Value}{k:Value→Prop}(h:Ff P τ op t (EM y) u v k):Plain P (do eqGuard op t x y u v;Go.binOp op t u v:Sem Value):=by
 unfold Ff at h;split at h
 ·exact rZ zi zi (jK _ _ _ _ _ _)
 ·split at h
  ·rename_i hi;have hu:=Q8 (mh hτ hi);split at h
   ·exact rZ zi zi (xR (PF hu _ _))
   ·exact rZ zi zi (AM (PF hu _ _))
   ·exact h.elim
  ·exact h.elim
 ·split at h
  ·rename_i hi hc;obtain⟨ms,hu⟩:=Gw (mh hτ hi)
   have td:∃z,y=.const z:=by
    cases y<;>simp[EM]at hc;exact⟨_,rfl⟩
   obtain⟨z,rfl⟩:=td
   have hg:∀op,Plain P (eqGuard op t x (.const z) .nilIface .nilIface):=fun op=>by
    unfold eqGuard;cases op<;>first|trivial|(cases x<;>trivial)
   split at h
   ·exact af (hg _) fun _=>xR (Qt hu)
   ·exact af (hg _) fun _=>AM (Qt hu)
   ·exact h.elim
  ·exact h.elim
 ·split at h
  ·rename_i hi;obtain⟨ms,hu⟩:=Gw (mh hτ hi);split at h
   ·exact rZ zi zi (xR (Qs hu _ _))
   ·exact rZ zi zi (AM (Qs hu _ _))
   ·exact h.elim
  ·exact h.elim
 ·split at h
  ·rename_i hi;obtain⟨e,hu⟩:=R8 (mh hτ hi);split at h
   ·exact rZ zi zi (xR (Qu hu _))
   ·exact rZ zi zi (AM (Qu hu _))
   ·exact h.elim
  ·exact h.elim
 ·split at h
  ·rename_i hi;obtain⟨hu,_⟩:=Ei (mh hτ hi);split at h
   ·exact rZ zi zi (xR (Qv hu _ _ _ _ _))
   ·exact rZ zi zi (AM (Qv hu _ _ _ _ _))
   ·exact h.elim
  ·exact h.elim
 ·exact h.plain
 ·exact rZ zi zi h.plain
 ·exact rZ zi zi h.plain
 ·exact rZ zi zi h.plain
 ·exact h.elim
end
theorem oZ (b o n:Nat):(⟨b,o,none⟩:Addr).add n=⟨b,o+n,none⟩:=by
 unfold Addr.add;split
 ·subst_vars;rfl
 ·rfl
section
variable {τ:Tab}  {σ:cr}
theorem LK {cs:List Value}{off sz:Nat}(hi:(P.info? t).isSome=true)(hd:∃d,P.underlying t=some d)(hs:P.cellsOf t=sz)(hle:off+sz≤cs.length)(h:iv P t=true)(w:World) :
  (part t cs.toArray off).run P w=.ok (.agg ((cs.drop off).take sz).toArray) w:=by
 have h1:=LZ w hd;rw[h]at h1;have h2:=ny hi w;simp[part,h1,h2,hs,List.extract_eq_take_drop]
theorem Lp {cs:List Value}{off:Nat}(hd:∃d,P.underlying t=some d)(hv:cs[off]?=some v)(h:iv P t=false)(w:World) :
  (part t cs.toArray off).run P w=.ok v w:=by
 have h1:=LZ w hd;rw[h]at h1;simp[part,h1,hv]
theorem SN (vs:List Value):∀(cs:List Value) (o j:Nat),o+j+vs.length≤cs.length →
  ((vs.zipIdx j).foldl (fun(cs:Array Value) (x:Value × Nat)=>cs.setIfInBounds (o+x.2) x.1) cs.toArray)=(over cs (o+j) vs).toArray:=by
 induction vs with
 | nil=>intro cs o j h;simp[over]
 | cons v vs ih =>
  intro cs o j h;simp only[List.zipIdx_cons,List.foldl_cons,List.setIfInBounds_toArray];rw[ih _ o (j+1) (by simp at h ⊢;omega)];congr 1;unfold over;simp only[List.length_cons]at h ⊢;rw[List.take_set,List.drop_set_of_lt zo];have e1:o+(j+1)=(o+j)+1:=by omega
  have e2:o+j+1+vs.length=o+j+(vs.length+1):=by omega
  rw[e1,e2,List.take_succ_eq_append_getElem zo];rw[List.set_append_right (o+j) v (by simp;omega)];simp[Nat.min_eq_left (show o+j≤cs.length by omega)]
theorem Pk:
  ∀(parts:List (Nat × Value)) (z:List Value) (k:List Value→Prop),HR fs z parts k →
   ∃l,(∀places:Array (Nat × Nat),(∀(i off sz:Nat) (g:Bool),fs[i]?=some (off,sz,g)→places[i]?=some (off,sz))→Instr.fill (places[·]?) z.toArray parts=some l.toArray)∧k l
 | [],z,k,h=>⟨z,fun _ _=>rfl,h⟩
 | (i,v)::r,z,k,h=>by
  unfold HR at h;cases hi:fs[i]? with
  | none=>rw[hi]at h;exact h.elim
  | some x =>
   obtain⟨off,sz,g⟩:=x;rw[hi]at h;simp only at h;cases hb:Nat.beq (cM v).length sz with
   | false=>rw[hb]at h;exact h.elim
   | true =>
    rw[hb]at h;simp only at h;have hsz:=Nat.eq_of_beq_eq_true hb;obtain⟨hle,h⟩:=K7 _ _ _ _ h;obtain⟨l,hl,hk⟩:=Pk r _ k h;refine⟨l,fun places hp=>?_,hk⟩;unfold Instr.fill;have e1:v.cells.size=sz:=by rw[←hsz,uG];simp
    have e2:v.cells.size=(cM v).length:=by rw[uG];simp
    simp only[hp i off sz g hi];rw[if_neg (by simp only[List.size_toArray];rw[e2]at e1;rw[e2];simp;omega)]
    have e3:v.cells.zipIdx.foldl (fun(cs:Array Value) (x:Value × Nat)=>cs.setIfInBounds (off+x.2) x.1) z.toArray=(over z off (cM v)).toArray:=by
     have:=SN (cM v) z off 0 zo;rw[←Array.foldl_toList];simpa[uG]using this
    rw[←hl places hp];congr 1
theorem zq1 {kd:TK}(h:lP P t kd=true)(cj:kd≠.iface):∃d,P.underlying t=some d∧∀ms,d≠.interface ms:=by
 cases hu:P.underlying t with
 | none=>cases kd<;>simp[lP,hu]at h
 | some d =>
  refine⟨d,rfl,fun ms hd=>?_⟩;subst hd;cases kd<;>simp[lP,hu]at h;exact cj rfl
theorem zpS {z:Value}{zs:List Value}(bR:aK P t ⟨n,.struct fs,z::zs⟩){parts:List (Nat × Value)}{l:List Value}
  (hl:∀places:Array (Nat × Nat),(∀(i off sz:Nat) (g:Bool),fs[i]?=some (off,sz,g)→places[i]?=some (off,sz))→Instr.fill (places[·]?) (z::zs).toArray parts=some l.toArray) (w:World) :
  (Instr.build t parts.toArray).run P w=.ok (.agg l.toArray) w:=by
 obtain⟨F,hu,_,hF⟩:=Gz (t:=t) bR.kind;have hz:=bR.zero.resolve_left zi;simp only[TK.agg]at hz;obtain⟨inf,h1,h2⟩:=Option.bind_eq_some_iff.1 hz
 have et:∀(L:List Field) (w:World),(∀f∈L,(P.info? f.type).isSome=true)→(L.mapM (fun f=>(do pure (f.offset,←sizeOf f.type):Sem (Nat × Nat)))).run P w=.ok (L.map fun f=>(f.offset,P.cellsOf f.type)) w:=by
  intro L
  induction L with
  | nil=>intro w _;rfl
  | cons f L ih =>
   intro w hL;rw[List.mapM_cons,Sem.run_bind]
   have e1:(do pure (f.offset,←sizeOf f.type):Sem (Nat × Nat)).run P w=.ok (f.offset,P.cellsOf f.type) w:=by
    simp[ny (hL f zi) w]
   rw[e1,Result.andThen_ok,Sem.run_bind,ih w (fun g hg=>hL g (by simp[hg]))];rfl
 have hall:∀f∈F.toList,(P.info? f.type).isSome=true:=by
  intro f hf;obtain⟨i,hi,rfl⟩:=List.mem_iff_getElem.1 hf;have mD:i<fs.length:=by rw[← ‹F.size=fs.length›];simpa using hi
  obtain⟨g,hg,_,_,_,y6,_⟩:=hF i (fs[i]).1 (fs[i]).2.1 (fs[i]).2.2 (by simp[List.getElem?_eq_getElem mD])
  have:F.toList[i]=g:=by
   have:=(Array.getElem?_eq_some_iff.1 hg).2;simpa using this
  rw[this];exact y6
 have hm:=et F.toList w hall
 have vr:(F.mapM (fun f=>(do pure (f.offset,←sizeOf f.type):Sem (Nat × Nat)))).run P w=.ok (F.toList.map fun f=>(f.offset,P.cellsOf f.type)).toArray w:=by
  rw[Array.mapM_eq_mapM_toList,Sem.run_map,hm];rfl
 have CV:=hl (F.toList.map fun f=>(f.offset,P.cellsOf f.type)).toArray (by
  intro i off sz g hi;obtain⟨f,hf,rfl,rfl,_⟩:=hF i off sz g hi;simp[hf])
 have z1:(zeroValue t).run P w=.ok (.agg (z::zs).toArray) w:=by simp[zeroValue,typeInfo,h1,h2]
 have u1:(underlying t).run P w=.ok (.struct F) w:=by simp[underlying,hu]
 rw[Instr.build,Sem.run_bind,z1,Result.andThen_ok,Sem.run_bind,u1,Result.andThen_ok];simp only[];rw[Sem.run_bind,vr,Result.andThen_ok];simp only[Value.cells,CV];rfl
theorem GM (hτ:cO P τ)(hf:Fits N σ a){o:Oper}{k:Value→Prop}(h:rB P τ σ o.op k):∃v,Yv P o a v∧k v:=by
 obtain⟨dst,op,ty,pos,after,guard⟩:=o;unfold Yv;simp only at h;unfold rB at h;split at h
 ·split at h
  ·rename_i hx;exact⟨_,fun w=>by simp[execOp,dt hf hx],h⟩
  ·exact h.elim
 ·split at h
  ·rename_i hx;exact⟨_,fun w=>by simp[execOp,dt hf hx],h⟩
  ·exact h.elim
 ·split at h
  ·rename_i b hc;rcases ML h with⟨rfl,h2⟩|⟨rfl,h2⟩
   ·split at h2
    ·rename_i hx;exact⟨_,fun w=>by simp[execOp,dt hf hx,dt hf hc,asBool],h2⟩
    ·exact h2.elim
   ·split at h2
    ·rename_i hx;exact⟨_,fun w=>by simp[execOp,dt hf hx,dt hf hc,asBool],h2⟩
    ·exact h2.elim
  ·exact h.elim
 ·split at h
  ·rename_i hx;exact⟨_,fun w=>by simp[execOp,dt hf hx,Op.unary],h⟩
  ·exact h.elim
 ·split at h
  ·rename_i hx;obtain⟨r,hr,hk⟩:=h.ex;refine⟨r,fun w=>?_,hk⟩;simp only[execOp,dt hf hx];exact pd hr w
  ·exact h.elim
 ·split at h
  ·rename_i hx;obtain⟨r,hr,hk⟩:=h.ex;refine⟨r,fun w=>?_,hk⟩;simp only[execOp,dt hf hx];exact pd hr w
  ·exact h.elim
 ·split at h
  ·rename_i hx hy;obtain⟨r,hr,hk⟩:=Z3 (x:=_) hτ h;refine⟨r,fun w=>?_,hk⟩;simp only[execOp,dt hf hx,dt hf hy];exact pd (fun w=>hr w) w
  ·exact h.elim
 ·split at h
  ·rename_i hx;split at h
   ·rename_i hn;rw[UH]at hn;exact⟨_,fun w=>by simp[execOp,dt hf hx,Instr.extract,←Array.getElem?_toList,hn],h⟩
   ·exact h.elim
  ·exact h.elim
 ·split at h
  ·rename_i hx;exact⟨_,fun w=>by simp only[execOp,dt hf hx];rfl,h⟩
  ·rename_i hx;exact⟨_,fun w=>by simp only[execOp,dt hf hx];rfl,h⟩
  ·exact h.elim
 ·split at h
  ·rename_i hx hi;split at h
   ·rename_i yZ;obtain⟨F,hu,_,hF⟩:=Gz (mh hτ hi);obtain⟨f,ee,rfl,iY,jF,nR,CS,CU⟩:=hF _ _ _ _ yZ;refine⟨_,fun w=>?_,h⟩;simp only[execOp,dt hf hx];refine pd (fun w=>?_) w;simp[Instr.fieldAt,underlying,hu,ee,Instr.sureAddr,fieldPlace,ny nR w,iY,CU,oZ]
   ·exact h.elim
  ·exact h.elim
 ·split at h
  ·rename_i hx hi ht;obtain⟨hu,he,hg,hI,hd⟩:=LH (mh hτ ht);refine⟨_,fun w=>?_,h.go⟩;simp only[execOp,dt hf hx,dt hf hi];refine pd (fun w=>?_) w;simp[Instr.indexAt,asIntOf,underlying,hu,Instr.sureAddr,h.lo,h.hi,ny hI w,he,oZ]
  ·rename_i hx hi ht;obtain⟨hu,he,hg,hI,hd⟩:=Ei (mh hτ ht);refine⟨_,fun w=>?_,h.go⟩;simp only[execOp,dt hf hx,dt hf hi];refine pd (fun w=>?_) w;simp[Instr.indexAt,asIntOf,underlying,hu,h.lo,h.hi,ny hI w,he,oZ]
  ·exact h.elim
 ·split at h
  ·rename_i hx hi;obtain⟨r,hr,hk⟩:=h.ex;refine⟨r,fun w=>?_,hk⟩;simp only[execOp,dt hf hx,dt hf hi];exact pd hr w
  ·exact h.elim
 ·split at h
  ·rename_i hx ht;obtain⟨F,hu,_,hF⟩:=Gz (mh hτ ht);split at h
   ·rename_i yZ;obtain⟨f,ee,rfl,iY,jF,nR,CS,CU⟩:=hF _ _ _ _ yZ;obtain⟨hle,hk⟩:=Lh _ _ _ _ h;refine⟨_,fun w=>?_,hk⟩;simp only[execOp,dt hf hx];refine pd (fun w=>?_) w;have e:=LK nR CS iY hle jF w;simp[Instr.field,underlying,hu,ee,asAgg]at e ⊢;exact e
   ·rename_i yZ;obtain⟨f,ee,rfl,iY,jF,nR,CS,CU⟩:=hF _ _ _ _ yZ;split at h
    ·rename_i hn;rw[UH]at hn;refine⟨_,fun w=>?_,h⟩;simp only[execOp,dt hf hx];refine pd (fun w=>?_) w;have e:=Lp CS hn jF w;simp[Instr.field,underlying,hu,ee,asAgg]at e ⊢;exact e
    ·exact h.elim
   ·exact h.elim
  ·exact h.elim
 ·split at h
  ·rename_i v _ kd _ hx ht;have hk:=mh hτ ht;split at h
   ·exact h.elim
   ·rename_i cj;obtain⟨d,hd,Bf⟩:=zq1 hk (fun e=>cj e);refine⟨_,fun w=>?_,h⟩;simp only[execOp,dt hf hx];refine pd (fun w=>?_) w;cases d<;>simp[Instr.makeInterface,underlying,hd]at Bf ⊢
  ·exact h.elim
 ·have h1:=oX hf _ _ h;have h2:=oX hf _ _ h1;exact⟨_,fun w=>by simp[execOp,Instr.makeFunc,←List.map_toArray],h2⟩
 ·have h1:=KV hf _ _ h;split at h1
  ·rename_i ht;have bR:=hτ _ _ ht;obtain⟨l,hl,hk⟩:=Pk _ _ _ h1;refine⟨_,fun w=>?_,hk⟩;simp only[execOp];refine pd (fun w=>?_) w;have:=zpS bR hl w;rw[←this];congr 2;rw[←List.map_toArray]
  ·obtain⟨r,hr,hk⟩:=h1.ex;refine⟨r,fun w=>?_,hk⟩;simp only[execOp];refine pd (fun w=>?_) w;rw[←hr w];congr 2;rw[←List.map_toArray]
 ·have h1:=oX hf _ _ h;rename_i av ts;have et:av.map a.eval=(av.toList.map a.eval).toArray:=by rw[←List.map_toArray]
  split at h1
  ·rename_i hv zY;split at h1
   ·rename_i ht;obtain⟨hu,_⟩:=Ei (mh hτ ht);refine⟨_,fun w=>?_,h1⟩;obtain rfl:ts = #[_]:=by rw[←Array.toArray_toList (xs:=ts),zY]
    simp[execOp,resolve,invoke,builtin,et,hv,Builtin.len_,underlying,hu,goInt]
   ·exact h1.elim
  ·rename_i hv zY;split at h1
   ·rename_i ht;have hu:=zrY (mh hτ ht);refine⟨_,fun w=>?_,h1⟩;obtain rfl:ts = #[_]:=by rw[←Array.toArray_toList (xs:=ts),zY]
    simp[execOp,resolve,invoke,builtin,et,hv,Builtin.len_,underlying,hu,goInt]
   ·exact h1.elim
  ·rename_i hv zY;split at h1
   ·rename_i ht;obtain⟨hu,_⟩:=LH (mh hτ ht);refine⟨_,fun w=>?_,h1⟩;obtain rfl:ts = #[_]:=by rw[←Array.toArray_toList (xs:=ts),zY]
    simp[execOp,resolve,invoke,builtin,et,hv,Builtin.len_,underlying,hu,goInt]
   ·exact h1.elim
  ·exact h1.elim
 ·have h1:=oX hf _ _ h;rename_i av ts;have et:av.map a.eval=(av.toList.map a.eval).toArray:=by rw[←List.map_toArray]
  split at h1
  ·rename_i hv zY;split at h1
   ·rename_i ht;obtain⟨hu,_⟩:=Ei (mh hτ ht);refine⟨_,fun w=>?_,h1⟩;obtain rfl:ts = #[_]:=by rw[←Array.toArray_toList (xs:=ts),zY]
    simp[execOp,resolve,invoke,builtin,et,hv,Builtin.cap_,underlying,hu,goInt]
   ·exact h1.elim
  ·exact h1.elim
 ·have h1:=oX hf _ _ h;rename_i av ts;have et:av.map a.eval=(av.toList.map a.eval).toArray:=by rw[←List.map_toArray]
  split at h1
  ·rename_i hv;refine⟨_,fun w=>?_,h1⟩;simp[execOp,resolve,invoke,builtin,et,hv,Builtin.min_,Builtin.min2]
  ·exact h1.elim
 ·have h1:=oX hf _ _ h;rename_i av ts;have et:av.map a.eval=(av.toList.map a.eval).toArray:=by rw[←List.map_toArray]
  split at h1
  ·rename_i hv;refine⟨_,fun w=>?_,h1⟩;simp[execOp,resolve,invoke,builtin,et,hv,Builtin.max_,Builtin.max2]
  ·exact h1.elim
 ·split at h
  ·rename_i hx;obtain⟨r,hr,hk⟩:=h.ex;exact⟨r,fun w=>by simp only[execOp,dt hf hx];exact pd hr w,hk⟩
  ·rename_i hx;obtain⟨r,hr,hk⟩:=h.ex;exact⟨r,fun w=>by simp only[execOp,dt hf hx];exact pd hr w,hk⟩
  ·exact h.elim
 ·split at h
  ·rename_i hx ht;obtain⟨hu,he,hg,hI,hd⟩:=LH (mh hτ ht);split at h
   ·exact h.elim
   ·rename_i jq;have hn:_≠0:=Nat.ne_of_beq_eq_false jq;refine⟨_,fun w=>?_,h⟩;simp only[execOp,dt hf hx];refine pd (fun w=>?_) w;simp[Instr.sliceAt,underlying,hu,Instr.sureAddr,Instr.sliceBounds,ny hI w,oZ]
  ·exact h.elim
 ·split at h
  ·rename_i hx hl hh hm;obtain⟨r,hr,hk⟩:=h.ex;refine⟨r,fun w=>?_,hk⟩;simp only[execOp,dt hf hx];refine pd (fun w=>?_) w;rw[←hr w]
   have zy:∀(o:Option Operand) (u:Option Value),(o.elim (some none) fun y=>(ro σ y).map some)=some u→o.map a.eval=u:=by
    intro o u ho;cases o with
    | none=>simpa using ho
    | some y =>
     simp only[Option.elim_some,Option.map_eq_some_iff]at ho;obtain⟨v,hv,rfl⟩:=ho;simp[dt hf hv]
   rw[zy _ _ hl,zy _ _ hh,zy _ _ hm]
  ·exact h.elim
 ·exact h.elim
theorem GL (hτ:cO P τ)(hf:Fits N σ a){o:Oper}{k:Value→Prop}(h:rB P τ σ o.op k):Plain P (execOp a.eval o):=by
 obtain⟨dst,op,ty,pos,after,guard⟩:=o;simp only at h;unfold rB at h;split at h
 ·exact trivial
 ·exact trivial
 ·simp only[execOp];exact af (PD _) fun b=>by split<;>trivial
 ·exact lV (ga _ _)
 ·exact lV (ga _ _)
 ·exact lV (ga _ _)
 ·split at h
  ·rename_i hx hy;simp only[execOp,dt hf hx,dt hf hy];exact lV (Z2 hτ h)
  ·exact h.elim
 ·exact lV (YB _ _)
 ·split at h
  ·rename_i hx;simp only[execOp,dt hf hx];trivial
  ·rename_i hx;simp only[execOp,dt hf hx];trivial
  ·exact h.elim
 ·split at h
  ·rename_i hx hi;split at h
   ·rename_i yZ;obtain⟨F,hu,_,hF⟩:=Gz (mh hτ hi);obtain⟨f,ee,rfl,iY,jF,nR,CS,CU⟩:=hF _ _ _ _ yZ;exact lV (YC hu ee nR (by rw[iY];exact CU))
   ·exact h.elim
  ·exact h.elim
 ·exact lV (YD _ _ _)
 ·exact lV (kC _ _ _)
 ·exact lV (ZI _ _ _)
 ·exact lV (Ym _ _)
 ·exact trivial
 ·exact lV (kB _ _)
 ·simp only[execOp,resolve];exact lV (zrm _ _ _)
 ·simp only[execOp,resolve];exact lV (zrl _ _ _)
 ·rename_i av ts;have h1:=oX hf _ _ h;have et:av.map a.eval=(av.toList.map a.eval).toArray:=by rw[←List.map_toArray]
  simp only[execOp,resolve,et];split at h1
  ·rename_i Bo;rw[Bo];exact lV (af (s:=Builtin.min2 _ _) (zpa _ _ _ _) fun _=>trivial)
  ·exact h1.elim
 ·rename_i av ts;have h1:=oX hf _ _ h;have et:av.map a.eval=(av.toList.map a.eval).toArray:=by rw[←List.map_toArray]
  simp only[execOp,resolve,et];split at h1
  ·rename_i Bo;rw[Bo];exact lV (af (s:=Builtin.max2 _ _) (Z5 _ _ _ _) fun _=>trivial)
  ·exact h1.elim
 ·split at h
  ·rename_i hx;simp only[execOp,dt hf hx];exact lV h.plain
  ·rename_i hx;simp only[execOp,dt hf hx];exact lV h.plain
  ·exact h.elim
 ·exact lV (gy _ _ _ _ _)
 ·exact lV (gy _ _ _ _ _)
 ·exact h.elim
end
end Ev
end Go.Proofs.YtggfpjldhglmeaaGreatDoor