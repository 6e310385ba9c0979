/-
  Texts of this claim, joined: EvD, EvE, EvF, EvG, EvI, LawA, EvJ, EvK, EvH, EvM, EvO.
-/
import Derived.Test.YtggfpjldhglmeaaGreatDoorSidePlaysA
import Derived.Tactics
import Derived.Maps.AppendAt
import Derived.Great.BuildSlice
import Derived.Laws.StructEq
import Derived.Laws.Tables
import Derived.ProofKit
import Derived.Below
import Derived.Carry
import Derived.Deep.Slices
import Derived.LaidLaws
import Derived.LaidHandle
import Derived.Stop.LaidErr
import Derived.Stop.Joined
import Derived.OpenShut
import Derived.ShutString
import Derived.Deep.Upon
set_option linter.unusedSectionVars false
set_option linter.unusedSimpArgs false
set_option linter.unusedVariables false
set_option maxRecDepth 20000
namespace Go.Proofs.YtggfpjldhglmeaaGreatDoor
open Go
namespace Ev
open Gap
variable [Gap.Leaps]
variable {H α β:Type}{args:Array Value}{f:FuncId}{cs:List Value}{N b d n o sz:Nat}{S T:Nat→Prop}{P:Program}{s:Sem Value}{kd:TK}{τ:Tab}{t:TypeId}{z:Value}{W w w':World}{σ:cr}{G:α→Prop}
def bC (w:World)(b:Nat)(t:TypeId)(cs:List Value):Prop:=w.heap[b]?=some (.cells cs.toArray t (0,0))
def aH (w:World)(b o:Nat)(l:List Value):Prop:=∀i v,l[i]?=some v→w.cell? ⟨b,o+i,none⟩=some v
def jT (w:World)(b:Nat)(t:TypeId)(cs:List Value):World:={ w with heap:=w.heap.setIfInBounds b (.cells cs.toArray t (0,0)) }
def gA (w:World)(t:TypeId)(cs:List Value):World:={ w with heap:=w.heap.push (.cells cs.toArray t (0,0)) }
def kG:Value→Bool
 | .agg _ | .tuple _=>false
 | _=>true
structure uU (w:World)(b o:Nat)(k:Value→Prop):Prop where
 ex:∃v,w.cell? ⟨b,o,none⟩=some v∧k v
structure uf (w:World)(b o n:Nat)(k:Value→Prop):Prop where
 ex:∃l:List Value,l.length=n∧aH w b o l∧k (.agg l.toArray)
structure rL (w:World)(b o:Nat)(vs:List Value)(k:World→Prop):Prop where
 ex:∃t cs,bC w b t cs∧o+vs.length≤cs.length∧(∀v∈vs,kG v=true)∧k (jT w b t (over cs o vs))
structure mM (w:World)(t:TypeId)(cs:List Value)(k:Value→World→Prop):Prop where
 ex:∀n d,k (.pointer (some ⟨(wgap w n d).heap.size,0,none⟩)) (gA (wgap w n d) t cs)
structure sD (P:Program)(t:TypeId)(k:List Value→Prop):Prop where
 ex:∃z,(P.info? t).bind (·.zero)=some z∧k (cM z)
structure aa (P:Program)(f:FuncId)(args:Array Value)(w:World)(k:Value→World→Prop):Prop where
 ex:(Quiet P (callFunc f args) w (.enter f args) w∧k6 P f args w k)∨(∃v w',Quiet P (callFunc f args) w (.value v) w'∧k v w')∨∀n d,∃v w',jg P (callFunc f args) (wgap w n d) (.value v) w'∧k v w'
structure H7 (P:Program)(t:TypeId)(v:Value)(name:String)(args:List Value)(w:World)(k:Value→World→Prop):Prop where
 ex:∃f r,(∀w,Quiet P (Go.method (P.types.size+Made.depth) t v name) w (f,r) w)∧aa P f (r::args).toArray w k
structure wC (P:Program)(op:BinOp)(t:TypeId)(x y:Value)(w:World)(k:Value→Prop):Prop where
 ex:∃v,Quiet P (Go.binOp op t x y) w v w∧k v
structure dy (P:Program)(s:Sem Value)(w:World)(k:Value→World→Prop):Prop where
 ex:(∃v w',Quiet P s w v w'∧k v w')∨∀n d,∃v w',jg P s (wgap w n d) v w'∧k v w'
structure pg (P:Program)(s:Sem Unit)(w:World)(k:World→Prop):Prop where
 ex:(∃w',Quiet P s w () w'∧k w')∨∀n d,∃w',jg P s (wgap w n d) () w'∧k w'
theorem dy.quiet {k:Value→World→Prop}{v:Value}(hp:Plain P s)(h:s.run P w=.ok v w')(hs:w'.heap.size=w.heap.size)(hd:w'.drawn=w.drawn)(hk:k v w'):dy P s w k:=⟨.inl ⟨v,w',.of hp h hs hd,hk⟩⟩
theorem dy.kR {k:Value→World→Prop}(hp:Plain P s)(h:∀n d,∃v w',s.run P (wgap w n d)=.ok v w'∧k v w'):dy P s w k :=
 ⟨.inr fun n d=>let ⟨v,w',h1,h2⟩:=h n d;⟨v,w',.of hp h1,h2⟩⟩
theorem pg.quiet {s:Sem Unit}  {k:World→Prop}(hp:Plain P s)(h:s.run P w=.ok () w')(hs:w'.heap.size=w.heap.size)(hd:w'.drawn=w.drawn)(hk:k w'):pg P s w k:=⟨.inl ⟨w',.of hp h hs hd,hk⟩⟩
theorem aa.mono {R k:Value→World→Prop}(h:aa P f args w R)(hk:∀v w',R v w'→k v w'):aa P f args w k :=
 ⟨by
  rcases h.ex with⟨h1,h2⟩|⟨v,w',h1,h2⟩|h
  ·exact .inl ⟨h1,h2.mono hk⟩
  ·exact .inr (.inl ⟨v,w',h1,hk _ _ h2⟩)
  ·exact .inr (.inr fun n d=>let ⟨v,w',h1,h2⟩:=h n d;⟨v,w',h1,hk _ _ h2⟩)⟩
theorem Pm {fn:Func}(args : Array Value) (hf : P.funcs[f]? = some fn) (eG : (fn.name == "runtime.NumGoroutine") = false) (hb : fn.body.isNone = false) : Plain P (callFunc f args) ∧ ∀ w, (callFunc f args).run P w = .ok (.enter f args) w := by
 have zn : ¬ fn.name = "runtime.NumGoroutine" := by simpa using eG
 refine⟨?_,fun w=>?_⟩
 ·unfold callFunc;refine eN ?_;simp only[hf,eG,hb,Bool.false_eq_true,if_false];trivial
 ·have dk:¬fn.body=none:=by
   intro h;rw[h]at hb;cases hb
  simp[callFunc,program,Sem.run,hf,zn,dk]
theorem aa.extern {v:Value}{k:Value→World→Prop}(hp:Plain P (callFunc f args))(h:(callFunc f args).run P w=.ok (.value v) w')(hs:w'.heap.size=w.heap.size)(hd:w'.drawn=w.drawn)(hk:k v w'):aa P f args w k:=⟨.inr (.inl ⟨v,w',.of hp h hs hd,hk⟩)⟩
theorem aa.kY {k:Value→World→Prop}(hp:Plain P (callFunc f args))(h:∀n d,∃v w',(callFunc f args).run P (wgap w n d)=.ok (.value v) w'∧k v w'):aa P f args w k :=
 ⟨.inr (.inr fun n d=>let ⟨v,w',h1,h2⟩:=h n d;⟨v,w',.of hp h1,h2⟩)⟩
def vX (P:Program)(τ:Tab)(σ:cr)(op:Op)(w:World)(k:Value→World→Prop):Prop :=
 match op with
 | .load t x=>match ro σ x,tl τ t with
  | some (.pointer (some ⟨b,o,none⟩)),some ⟨n,kd,_⟩=>(match kd.agg with
   | true=>uf w b o n fun v=>k v w
   | false=>uU w b o fun v=>k v w)
  | _,_=>False
 | .store t x y=>match ro σ x,ro σ y,tl τ t with
  | some (.pointer (some ⟨b,o,none⟩)),some v,some ⟨n,_,_⟩=>(match Nat.beq (cM v).length n with
   | true=>rL w b o (cM v) fun w'=>k undef w'
   | false=>False)
  | _,_,_=>False
 | .box t x=>match ro σ x with
  | some v=>mM w t (cM v) k
  | none=>False
 | .alloc t=>match tl τ t with
  | some ⟨_,kd,z::zs⟩=>(match kd.agg,zs,kG z with
   | true,zs,_=>mM w t (z::zs) k
   | false,[],true=>mM w t [z] k
   | _,_,_=>False)
  | _=>sD P t fun cs=>mM w t cs k
 | .call { callee:=.value f,args:=av,argTypes:=_ }=>match ro σ f with
  | some (.func (.func g) first cW)=>pc σ av.toList fun vs=>(match first.toList,cW.toList with
   | [],[]=>aa P g vs.toArray w k
   | [],c::cs=>aa P g (vs++(c::cs)).toArray w k
   | x::xs,cs=>aa P g ((x::xs)++vs++cs).toArray w k)
  | _=>False
 | .call { callee:=.invoke x name,args:=av,argTypes:=_ }=>match ro σ x with
  | some (.iface t v)=>pc σ av.toList fun vs=>H7 P t v name vs w k
  | _=>False
 | .call { callee:=.builtin .append,args:=av,argTypes:=ts }=>pc σ av.toList fun vs=>dy P (Builtin.append_ ts 0 vs.toArray) w k
 | .call { callee:=.builtin .copy,args:=av,argTypes:=ts }=>pc σ av.toList fun vs=>dy P (Builtin.copy_ ts 0 vs.toArray) w k
 | .call { callee:=.builtin .clear,args:=av,argTypes:=ts }=>pc σ av.toList fun vs=>dy P (Builtin.clear_ ts 0 vs.toArray) w k
 | .buildSlice t n parts=>BM σ parts.toList fun ps=>dy P (Instr.buildSlice t n ps.toArray) w k
 | .makeSlice t l c=>match ro σ l,ro σ c with
  | some vl,some vc=>dy P (Instr.makeSlice t vl vc) w k
  | _,_=>False
 | .makeMap t none=>dy P (Instr.makeMap t none) w k
 | .lookup t x i ok=>match ro σ x,ro σ i with
  | some vx,some vi=>dy P (Instr.lookup t vx vi ok) w k
  | _,_=>False
 | .mapUpdate t m x y=>match ro σ m,ro σ x,ro σ y with
  | some vm,some vx,some vy=>pg P (Instr.mapUpdate t vm vx vy) w fun w'=>k undef w'
  | _,_,_=>False
 | .insert t m x y=>match ro σ m,ro σ x,ro σ y with
  | some vm,some vx,some vy=>pg P (Instr.mapUpdate t vm vx vy) w fun w'=>k undef w'
  | _,_,_=>False
 | .convert s d x=>match ro σ x with
  | some v=>dy P (Go.convert s d v) w k
  | none=>False
 | .typeAssert x t u ok=>match ro σ x with
  | some v=>dy P (Instr.typeAssert v t u ok) w k
  | none=>False
 | .makeChan t n=>match ro σ n with
  | some v=>dy P (Instr.makeChan t v) w k
  | none=>False
 | .call { callee:=.builtin .unsafeString,args:=av,argTypes:=ts }=>pc σ av.toList fun vs=>dy P (Builtin.unsafeString_ ts 0 vs.toArray) w k
 | .call { callee:=.builtin .unsafeSliceData,args:=av,argTypes:=_ }=>pc σ av.toList fun vs=>(match vs with
  | [.slice (some ad) _ c]=>c≠0∧k (.pointer (some ad)) w
  | _=>False)
 | _=>False
def pT:Op→Bool
 | .move _ | .assign _ | .pick .. | .unOp .. | .binOp .. | .extract .. | .nilCheck _ | .fieldAddr .. | .indexAddr .. | .index .. | .field .. | .makeInterface .. | .makeFunc .. | .build .. | .slice ..=>true
 | .call { callee:=.builtin .len,.. } | .call { callee:=.builtin .cap,.. } | .call { callee:=.builtin .min,.. } | .call { callee:=.builtin .max,.. }=>true
 | _=>false
def Uz:Value→Bool
 | .bool _=>true
 | _=>false
def iT (N:Nat)(dst:Option Nat)(v:Value)(σ:cr)(k:cr→Prop):Prop :=
 match dst with
 | none=>k σ
 | some d=>match Nat.blt d N with
  | true=>k ((d,v)::σ)
  | false=>False
def HU:List Oper→Nat→Option Nat
 | [],_=>none
 | o::_,0=>o.dst
 | _::r,n+1=>HU r n
def rA (N:Nat)(ops:List Oper)(g:Option (Nat × Bool))(σ:cr)(yes no:cr→Prop):Prop :=
 match g with
 | none=>yes σ
 | some (j,want)=>match HU ops j with
  | none=>False
  | some d=>match look σ d with
   | some (.bool b)=>(match want with
    | true=>br b (yes ((d,.bool true)::σ)) (no ((d,.bool false)::σ))
    | false=>br b (no ((d,.bool true)::σ)) (yes ((d,.bool false)::σ)))
   | some v=>(match Uz v with
    | true=>False
    | false=>no σ)
   | none=>False
def xW (σ:cr):Op→Option (BinOp × TypeId × Value × Value)
 | .binOp op t x y _=>match ro σ x,ro σ y with
  | some (.iface a u),some (.iface b v)=>some (op,t,.iface a u,.iface b v)
  | _,_=>none
 | _=>none
def uQ (P:Program)(τ:Tab)(N:Nat)(ops:List Oper):List Oper→(cr→World→Prop)→cr→World→Prop
 | [],Q,σ,w=>Q σ w
 | ⟨dst,op,_,_,_,g⟩::rest,Q,σ,w =>
  rA N ops g σ
   (fun σ=>match pT op with
    | true=>(match xW σ op with
     | some (uh,t,x,y)=>wC P uh t x y w fun v=>iT N dst v σ fun σ=>uQ P τ N ops rest Q σ w
     | none=>rB P τ σ op fun v=>iT N dst v σ fun σ=>uQ P τ N ops rest Q σ w)
    | false=>vX P τ σ op w fun v w=>iT N dst v σ fun σ=>uQ P τ N ops rest Q σ w)
   (fun σ=>iT N dst undef σ fun σ=>uQ P τ N ops rest Q σ w)
def NB (N:Nat)(Q:Exit→cr→World→Prop):Exit→Act→World→Prop
 | .normal,a,w=>∃σ,Fits N σ a∧Q .normal σ w
 | .exit i,a,w=>∃σ,Fits N σ a∧Q (.exit i) σ w
 | .ret,a,w=>∃σ,Fits N σ a∧Q .ret σ w
 | _,_,_=>False
structure ek (P:Program)(τ:Tab)(N:Nat)(ops:Array Oper)(Q:cr→World→Prop)(σ:cr)(w:World):Prop where
 go:∀id a,Fits N σ a→kL P (Code.region id ops true) (fun e a' w'=>e=.normal∧∃σ',Fits N σ' a'∧Q σ' w') a w
structure k7 (P:Program)(τ:Tab)(N:Nat)(body:Code)(Q:Exit→cr→World→Prop)(σ:cr)(w:World):Prop where
 go:∀a,Fits N σ a→kL P (Code.loop body) (NB N Q) a w
def ev (P:Program)(τ:Tab)(N:Nat):Code→(Exit→cr→World→Prop)→cr→World→Prop
 | .skip,Q,σ,w=>Q .normal σ w
 | .region _ ops false,Q,σ,w=>uQ P τ N ops.toList ops.toList (fun σ w=>Q .normal σ w) σ w
 | .region _ ops true,Q,σ,w=>ek P τ N ops (fun σ w=>Q .normal σ w) σ w
 | .seq x y,Q,σ,w=>ev P τ N x (fun e σ w=>match e with
  | .normal=>ev P τ N y Q σ w
  | e=>Q e σ w) σ w
 | .cond c x y,Q,σ,w=>match ro σ c with
  | some (.bool b)=>br b (ev P τ N x Q σ w) (ev P τ N y Q σ w)
  | _=>False
 | .block id c,Q,σ,w=>ev P τ N c (fun e σ w=>match e with
  | .exit i=>(match Nat.beq i id with
   | true=>Q .normal σ w
   | false=>Q (.exit i) σ w)
  | e=>Q e σ w) σ w
 | .loop c,Q,σ,w=>k7 P τ N c Q σ w
 | .exit i,Q,σ,w=>Q (.exit i) σ w
 | .ret,Q,σ,w=>Q .ret σ w
 | _,_,_,_=>False
section
variable {a:Act}
theorem bC.lt (h:bC w b t cs):b<w.heap.size:=(Array.getElem?_eq_some_iff.1 h).1
theorem bC.cell (h:bC w b t cs)(o:Nat):w.cell? ⟨b,o,none⟩=cs[o]?:=by
 unfold bC at h;simp[World.cell?,h]
theorem bC.frozen (h:bC w b t cs)(o:Nat):w.frozen? ⟨b,o,none⟩=false:=by
 unfold bC at h;simp[World.frozen?,h]
theorem YK (b o:Nat):∀(l:List Value) (i:Nat) (acc:Array Value),(∀j v,l[j]?=some v→w.cell? ⟨b,o+(i+j),none⟩=some v) →
  (loadCellsFrom ⟨b,o,none⟩ i l.length acc).run P w=.ok (acc++l.toArray) w:=by
 intro l
 induction l with
 | nil=>intro i acc _;simp[loadCellsFrom]
 | cons x l ih =>
  intro i acc h;have h0:=h 0 x rfl;rw[List.length_cons,loadCellsFrom,Sem.run_bind]
  have e:(load ((⟨b,o,none⟩:Addr).add i)).run P w=.ok x w:=by
   rw[oZ];simp[load,Sem.run,show w.cell? ⟨b,o+i,none⟩=some x by simpa using h0]
  rw[e,Result.andThen_ok,ih (i+1) (acc.push x) (fun j v hj=>by
   have:=h (j+1) v (by simpa using hj);rw[show i+1+j=i+(j+1) by omega];exact this)]
  simp
theorem Bv {z:List Value}(hτ:cO P τ)(ht:tl τ t=some ⟨n,kd,z⟩){k:Value→Prop}
  (h:match kd.agg with|true=>uf w b o n k|false=>uU w b o k):∃v,(Instr.loadAt t (.pointer (some ⟨b,o,none⟩))).run P w=.ok v w∧k v:=by
 have bR:=hτ t _ ht;have vb:=bR.uW w;have hsz:=bR.lM w;cases hk:kd.agg with
 | true =>
  rw[hk]at h vb;obtain⟨l,hl,hc,hv⟩:=h.ex;refine⟨_,?_,hv⟩;have:=YK (P:=P) (w:=w) b o l 0 #[] (fun j v hj=>by simpa using hc j v hj);have zV:(sizeOf t).run P w=.ok l.length w:=by rw[hl];exact hsz
  simp[Instr.loadAt,Instr.sureAddr,loadVar,vb,zV,loadCells,this]
 | false =>
  rw[hk]at h vb;obtain⟨v,hc,hv⟩:=h.ex;refine⟨v,?_,hv⟩;simp[Instr.loadAt,Instr.sureAddr,loadVar,vb,load,Sem.run,hc]
theorem zrO (v:Value)(hv:kG v=true)(b o:Nat)(old:Value)(hc:w.cell? ⟨b,o,none⟩=some old)(hf:w.frozen? ⟨b,o,none⟩=false) :
  (store ⟨b,o,none⟩ v).run P w=.ok () (w.setCell ⟨b,o,none⟩ v):=by
 cases v<;>simp[kG]at hv<;>simp[store,Sem.run,hc,hf]
theorem AF (hb:b<w.heap.size):bC (jT w b t cs) b t cs:=by
 simp[bC,jT,hb]
theorem QA (h:bC w b t cs)(v:Value):w.setCell ⟨b,o,none⟩ v=jT w b t (cs.set o v):=by
 unfold bC at h;obtain⟨hb,he⟩:=Array.getElem?_eq_some_iff.1 h;unfold World.setCell jT;congr 1;apply Array.ext_getElem?;intro i;rw[Array.getElem?_modify,Array.getElem?_setIfInBounds];by_cases hi:b=i
 ·subst hi;simp[he,hb]
 ·rw[if_neg hi,if_neg hi]
theorem Y4 {ds:List Value}:jT (jT w b t cs) b t ds=jT w b t ds:=by
 simp[jT]
theorem Gh (b:Nat)(t:TypeId):∀(vs:List Value) (o i:Nat) (w:World) (cs:List Value),bC w b t cs→(∀v∈vs,kG v=true)→o+i+vs.length≤cs.length →
  (storeCells ⟨b,o,none⟩ vs i).run P w=.ok () (jT w b t (over cs (o+i) vs)):=by
 intro vs
 induction vs with
 | nil =>
  intro o i w cs hb _ _;have e:over cs (o+i) []=cs:=by simp[over]
  have:jT w b t cs=w:=by
   unfold bC at hb;obtain⟨hl,he⟩:=Array.getElem?_eq_some_iff.1 hb;unfold jT
   have:w.heap.setIfInBounds b (Obj.cells cs.toArray t (0,0))=w.heap:=by
    apply Array.ext_getElem?;intro i;rw[Array.getElem?_setIfInBounds];by_cases hi:b=i
    ·subst hi;simp[he,hl]
    ·rw[if_neg hi]
   rw[this]
  rw[e,this];rfl
 | cons v vs ih =>
  intro o i w cs hb h1 hle;have aQ:o+i<cs.length:=by simp at hle;omega
  have hc:w.cell? ⟨b,o+i,none⟩=some cs[o+i]:=by rw[hb.cell,List.getElem?_eq_getElem aQ]
  have hs:=zrO (P:=P) (w:=w) v (h1 v zi) b (o+i) _ hc (hb.frozen _);rw[storeCells,Sem.run_bind,oZ,hs,Result.andThen_ok,QA hb];rw[ih o (i+1) _ (cs.set (o+i) v) (AF hb.lt) (fun u hu=>h1 u (by simp[hu])) (by simp at hle ⊢;omega),Y4];congr 2;unfold over;simp only[List.length_cons]at hle ⊢;rw[List.take_set,List.drop_set_of_lt zo];have e1:o+(i+1)=(o+i)+1:=by omega
  have e2:o+i+1+vs.length=o+i+(vs.length+1):=by omega
  rw[e1,e2,List.take_succ_eq_append_getElem zo,List.set_append_right (o+i) v (by simp;omega)];simp[Nat.min_eq_left (show o+i≤cs.length by omega)]
theorem ZV {z:List Value}  {v:Value}(hτ:cO P τ)(ht:tl τ t=some ⟨n,kd,z⟩){k:World→Prop}(hn:(cM v).length=n)(h:rL w b o (cM v) k) :
  ∃w',(Instr.storeAt t (.pointer (some ⟨b,o,none⟩)) v).run P w=.ok () w'∧k w':=by
 have hsz:=(hτ t _ ht).lM w;obtain⟨t',cs,hb,hle,h1,hk⟩:=h.ex;refine⟨_,?_,hk⟩;have hc:v.cells.size=n:=by rw[←hn,uG];simp
 have:=Gh (P:=P) b t' (cM v) o 0 w cs hb h1 (by simpa using hle);have zV:(sizeOf t).run P w=.ok n w:=hsz;simp[Instr.storeAt,Instr.sureAddr,storeVar,zV,hc,←uG,this]
theorem L8 (h:(P.info? t).bind (·.zero)=some z)(w:World):(zeroValue t).run P w=.ok z w:=by
 obtain⟨inf,h1,h2⟩:=Option.bind_eq_some_iff.1 h;simp[zeroValue,typeInfo,h1,h2]
theorem H4 {v:Value}(h:s.run P w=.ok v w'):(do pure (Next.value (←s)):Sem Next).run P w=.ok (.value v) w':=by
 simp[h]
theorem MD {v:Value}:(Instr.box t v).run P w=.ok (.pointer (some ⟨w.heap.size,0,none⟩)) (gA w t (cM v)):=by
 simp[Instr.box,newVar,newRow,newObj,Sem.run,gA,uG]
theorem Ls (h:(P.info? t).bind (·.zero)=some z):(Instr.alloc t true (.tuple #[])).run P w=.ok (.pointer (some ⟨w.heap.size,0,none⟩)) (gA w t (cM z)):=by
 simp[Instr.alloc,L8 h,newVar,newRow,newObj,Sem.run,gA,uG]
theorem K1 (h:kG z=true):cM z=[z]:=by cases z<;>simp_all[kG,cM]
theorem ZU:(jT w b t cs).heap.size=w.heap.size:=by simp[jT]
section
variable {o:Oper}{k:Value→World→Prop}
abbrev lZ (a:Act)(o:Oper)(k:Value→World→Prop):Act→World→Prop:=fun a' w'=>∃v,a'=a.put o.dst v∧k v w'
theorem Ng (he:execOp a.eval o=(do pure (Next.value (←s)))){v:Value}{w':World}(h:Quiet P s w v w')(hk:k v w'):pn P o a w (lZ a o k) :=
 .inl ⟨.value v,w',by rw[he];exact h.map,v,rfl,hk⟩
theorem se (he:execOp a.eval o=(do pure (Next.value (←s))))(h:dy P s w k):pn P o a w (lZ a o k):=by
 rcases h.ex with⟨v,w',h1,h2⟩|h
 ·exact Ng he h1 h2
 ·exact .inr (.inl fun n d=>let ⟨v,w',h1,h2⟩:=h n d;⟨.value v,w',by rw[he];exact h1.map,v,rfl,h2⟩)
theorem LP {s:Sem Unit}{k':World→Prop}(he:execOp a.eval o=(do s;pure Next.skip))(h:pg P s w k'):pn P o a w (lZ a o fun v w'=>v=undef∧k' w'):=by
 have e:(do s;pure Next.skip:Sem Next)=s >>= fun u=>pure ((fun _=>Next.skip) u):=rfl
 rcases h.ex with⟨w',h1,h2⟩|h
 ·exact .inl ⟨.skip,w',by rw[he,e];exact h1.map,undef,rfl,rfl,h2⟩
 ·exact .inr (.inl fun n d=>let ⟨w',h1,h2⟩:=h n d;⟨.skip,w',by rw[he,e];exact h1.map,undef,rfl,rfl,h2⟩)
theorem LO {g:FuncId}(he:execOp a.eval o=callFunc g args)(h:aa P g args w k):pn P o a w (lZ a o k):=by
 rcases h.ex with⟨h1,h2⟩|⟨v,w',h1,h2⟩|h
 ·exact .inr (.inr ⟨g,args,by rw[he];exact h1,h2.mono fun v w' hv=>⟨v,rfl,hv⟩⟩)
 ·exact .inl ⟨.value v,w',by rw[he];exact h1,v,rfl,h2⟩
 ·exact .inr (.inl fun n d=>let ⟨v,w',h1,h2⟩:=h n d;⟨.value v,w',by rw[he];exact h1,v,rfl,h2⟩)
theorem lZ.tS {k k':Value→World→Prop}(h:pn P o a w (lZ a o k))(hk:∀v w',k v w'→k' v w'):pn P o a w (lZ a o k'):=EL (fun a' w' ⟨v,e,hv⟩=>⟨v,e,hk _ _ hv⟩) h
theorem Hy (he:execOp a.eval o=(do pure (Next.value (←s))))(hp:Plain P s)(hr:∀w,s.run P w=.ok (.pointer (some ⟨w.heap.size,0,none⟩)) (gA w t cs))(h:mM w t cs k):pn P o a w (lZ a o k) :=
 se he (.kR hp fun n d=>⟨_,_,hr _,h.ex n d⟩)
theorem zqB (hz:(P.info? t).bind (·.zero)=some z)(hc:cM z=cs)(he:execOp a.eval o=(do pure (Next.value (←Instr.alloc t true (.tuple #[])))))(h:mM w t cs k):pn P o a w (lZ a o k) :=
 Hy he (KP _ _ _) (fun w=>by rw[Ls hz,hc]) h
end
theorem Gi (hτ:cO P τ)(hf:Fits N σ a){o:Oper}{k:Value→World→Prop}(h:vX P τ σ o.op w k):pn P o a w (lZ a o k):=by
 obtain⟨dst,op,ty,pos,after,guard⟩:=o;simp only at h;unfold vX at h;split at h
 ·split at h
  ·rename_i hx ht;obtain⟨v,hr,hk⟩:=Bv hτ ht h;exact Ng (by simp only[execOp,dt hf hx]) (Quiet.of (KU _ _) hr rfl rfl) hk
  ·exact h.elim
 ·split at h
  ·rename_i hx hy ht;split at h
   ·rename_i hn;obtain⟨t1,yu,e1,e2,e3,e4⟩:=h.ex;obtain⟨w',hr,hk⟩:=ZV (k:=fun w'=>k undef w'∧w'.heap.size=w.heap.size∧w'.drawn=w.drawn) hτ ht (Nat.eq_of_beq_eq_true hn) ⟨t1,yu,e1,e2,e3,e4,ZU,rfl⟩;exact lZ.tS (LP (k':=fun w'=>k undef w') (by simp only[execOp,dt hf hx,dt hf hy]) (.quiet (YF _ _ _) hr hk.2.1 hk.2.2 hk.1)) fun v w' hv=>hv.1 ▸ hv.2
   ·exact h.elim
  ·exact h.elim
 ·split at h
  ·rename_i hx;exact Hy (by simp only[execOp,dt hf hx]) (Rx _ _) (fun w=>MD) h
  ·exact h.elim
 ·split at h
  ·rename_i ht;have bR:=(hτ _ _ ht).zero.resolve_left zi;simp only at bR;split at h
   ·rename_i hk;rw[hk]at bR;exact Hy (by simp only[execOp]) (KP _ _ _) (fun w=>Ls bR) h
   ·rename_i hk aG;rw[hk]at bR;simp only[List.headD_cons]at bR;exact zqB bR (K1 aG) (by simp only[execOp]) h
   ·exact h.elim
  ·obtain⟨z,hz,hk⟩:=h.ex;exact Hy (by simp only[execOp]) (KP _ _ _) (fun w=>Ls hz) hk
 ·split at h
  ·rename_i f av ts _ g first cW hx;have h1:=oX hf _ _ h;have et:av.map a.eval=(av.toList.map a.eval).toArray:=by rw[←List.map_toArray]
   have e:execOp a.eval ⟨dst,.call ⟨.value f,av,ts⟩,ty,pos,after,guard⟩=callFunc g (first.toList++av.toList.map a.eval++cW.toList).toArray:=by
    have e2:first++(av.toList.map a.eval).toArray++cW=(first.toList++av.toList.map a.eval++cW.toList).toArray:=by simp
    simp only[execOp,resolve,dt hf hx,Deferred.ofValue,et];show callFunc g (first++(av.toList.map a.eval).toArray++cW)=_;rw[e2]
   split at h1
   ·rename_i h2 h3;refine LO ?_ h1;rw[e,h2,h3];simp
   ·rename_i h2 h3;refine LO ?_ h1;rw[e,h2,h3];simp
   ·rename_i h2;refine LO ?_ h1;rw[e,h2]
  ·exact h.elim
 ·split at h
  ·rename_i x name av ts _ t v hx;obtain⟨f,r,hm,hc⟩:=(oX hf _ _ h).ex;have et : #[Value.iface t v]++av.map a.eval = #[Value.iface t v]++(av.toList.map a.eval).toArray:=by rw[←List.map_toArray]
   have he:execOp a.eval ⟨dst,.call ⟨.invoke x name,av,ts⟩,ty,pos,after,guard⟩=(do
     let p ←program
     let (f,r) ←Go.method (p.types.size+Made.depth) t v name
     callFunc f (#[r]++(av.toList.map a.eval).toArray)):=by
    simp only[execOp,resolve,dt hf hx,et]
    show(do
     let recv:=(#[Value.iface t v]++(av.toList.map a.eval).toArray)[0]?
     let some recv := recv | stuck "call: a method without a receiver"
     callMethod recv name ((#[Value.iface t v]++(av.toList.map a.eval).toArray).extract 1 (#[Value.iface t v]++(av.toList.map a.eval).toArray).size):Sem Next)=_
    simp only[callMethod];simp;rw[List.take_of_length_le zi]
   have e3 : #[r]++(av.toList.map a.eval).toArray=(r::av.toList.map a.eval).toArray:=by simp
   have hq:∀{r':Next} {w':World},Quiet P (callFunc f (r::av.toList.map a.eval).toArray) w r' w'→Quiet P (execOp a.eval ⟨dst,.call ⟨.invoke x name,av,ts⟩,ty,pos,after,guard⟩) w r' w':=fun {r'} {w'} h=>by
    rw[he];refine(Quiet.of (P:=P) (s:=program) (r:=P) trivial rfl rfl rfl).bind ((hm w).bind ?_);show Quiet P (callFunc f (#[r]++(av.toList.map a.eval).toArray)) w r' w';rw[e3];exact h
   have Xb:∀{r':Next} {w1 w':World},jg P (callFunc f (r::av.toList.map a.eval).toArray) w1 r' w'→jg P (execOp a.eval ⟨dst,.call ⟨.invoke x name,av,ts⟩,ty,pos,after,guard⟩) w1 r' w':=fun {r'} {w1} {w'} h=>by
    rw[he];refine Quiet.kR (Quiet.of (P:=P) (s:=program) (r:=P) trivial rfl rfl rfl) (Quiet.kR (hm w1) ?_);show jg P (callFunc f (#[r]++(av.toList.map a.eval).toArray)) w1 r' w';rw[e3];exact h
   rcases hc.ex with⟨h1,h2⟩|⟨v,w',h1,h2⟩|hl
   ·exact .inr (.inr ⟨f,_,hq h1,h2.mono fun v w' hv=>⟨v,rfl,hv⟩⟩)
   ·exact .inl ⟨.value v,w',hq h1,v,rfl,h2⟩
   ·exact .inr (.inl fun n d=>let ⟨v,w',h1,h2⟩:=hl n d;⟨.value v,w',Xb h1,v,rfl,h2⟩)
  ·exact h.elim
 ·rename_i av ts;have h1:=oX hf _ _ h;have et:av.map a.eval=(av.toList.map a.eval).toArray:=by rw[←List.map_toArray]
  refine se ?_ h1;simp only[execOp,resolve,et];rfl
 ·rename_i av ts;have h1:=oX hf _ _ h;have et:av.map a.eval=(av.toList.map a.eval).toArray:=by rw[←List.map_toArray]
  refine se ?_ h1;simp only[execOp,resolve,et];rfl
 ·rename_i av ts;have h1:=oX hf _ _ h;have et:av.map a.eval=(av.toList.map a.eval).toArray:=by rw[←List.map_toArray]
  refine se ?_ h1;simp only[execOp,resolve,et];rfl
 ·have h1:=KV hf _ _ h;refine se ?_ h1;simp only[execOp];rw[←List.map_toArray]
 ·split at h
  ·rename_i hl hc;exact se (by simp only[execOp,dt hf hl,dt hf hc]) h
  ·exact h.elim
 ·exact se (by simp only[execOp,Option.map_none]) h
 ·split at h
  ·rename_i hl hc;exact se (by simp only[execOp,dt hf hl,dt hf hc]) h
  ·exact h.elim
 ·split at h
  ·rename_i h1 h2 h3;exact lZ.tS (LP (by simp only[execOp,dt hf h1,dt hf h2,dt hf h3]) h) fun v w' hv=>hv.1 ▸ hv.2
  ·exact h.elim
 ·split at h
  ·rename_i h1 h2 h3;exact lZ.tS (LP (by simp only[execOp,dt hf h1,dt hf h2,dt hf h3]) h) fun v w' hv=>hv.1 ▸ hv.2
  ·exact h.elim
 ·split at h
  ·rename_i hx;exact se (by simp only[execOp,dt hf hx]) h
  ·exact h.elim
 ·split at h
  ·rename_i hx;exact se (by simp only[execOp,dt hf hx]) h
  ·exact h.elim
 ·split at h
  ·rename_i hx;exact se (by simp only[execOp,dt hf hx]) h
  ·exact h.elim
 ·rename_i av ts;have h1:=oX hf _ _ h;have et:av.map a.eval=(av.toList.map a.eval).toArray:=by rw[←List.map_toArray]
  refine se ?_ h1;simp only[execOp,resolve,et];rfl
 ·rename_i av ts;have h1:=oX hf _ _ h;have et:av.map a.eval=(av.toList.map a.eval).toArray:=by rw[←List.map_toArray]
  split at h1
  ·rename_i ad n c hv
   have e:Builtin.unsafeSliceData_ ts ty #[.slice (some ad) n c]=pure (Value.pointer (some ad)):=by
    show(if c≠0 then pure (Value.pointer (some ad)) else _:Sem Value)=_;rw[if_pos h1.1]
   refine Ng (v:=.pointer (some ad)) (s:=pure (Value.pointer (some ad))) ?_ (.of trivial rfl rfl rfl) h1.2;rw[←e];simp only[execOp,resolve,et,hv];rfl
  ·exact h1.elim
 ·exact h.elim
theorem oH (hf:Fits N σ a){dst:Option Nat}{v:Value}{k:cr→Prop}(h:iT N dst v σ k):∃σ',Fits N σ' (a.put dst v)∧k σ':=by
 unfold iT at h;split at h
 ·exact⟨σ,hf,h⟩
 ·split at h
  ·rename_i hb;exact⟨_,hf.put (by simpa[Nat.blt_eq]using hb) v,h⟩
  ·exact h.elim
theorem zsT (l:List Oper)(j:Nat):HU l j=(l[j]?).bind (·.dst):=by
 induction l generalizing j with
 | nil=>rfl
 | cons o r ih=>cases j with
  | zero=>rfl
  | succ j=>simpa[HU]using ih j
theorem Fits.cons {v:Value}(hf:Fits N σ a)(h:look σ d=some v):Fits N ((d,v)::σ) a:=by
 refine⟨hf.size,hf.defers,fun n u hn=>?_⟩;unfold look at hn;cases hb:Nat.beq d n with
 | true =>
  rw[hb]at hn;have:=Nat.eq_of_beq_eq_true hb;subst this;simp only[Option.some.injEq]at hn;subst hn;exact hf.iM _ _ h
 | false =>
  rw[hb]at hn;exact hf.iM n u hn
theorem Eh (hf:Fits N σ a){ops:Array Oper}{o:Oper}{yes no:cr→Prop}(h:rA N ops.toList o.guard σ yes no) :
  (Region.wanted o (yielded ops a.tmps)=true∧∃σ',Fits N σ' a∧yes σ')∨(Region.wanted o (yielded ops a.tmps)=false∧∃σ',Fits N σ' a∧no σ'):=by
 unfold rA at h;split at h
 ·rename_i hg;exact .inl ⟨by simp[Region.wanted,hg],σ,hf,h⟩
 ·rename_i j want hg;split at h
  ·exact h.elim
  ·rename_i d hd;rw[zsT]at hd;split at h
   ·rename_i b hb
    have hy:yielded ops a.tmps j=some b:=by
     have:=hf.iM d _ hb;have jZ:(ops[j]?).bind (·.dst)=some d:=by simpa using hd
     unfold yielded;rw[jZ];simp[this]
    have hw:Region.wanted o (yielded ops a.tmps)=(b == want):=by
     simp only[Region.wanted,hg,hy];cases b<;>cases want<;>rfl
    rw[hw];split at h
    ·rcases ML h with⟨rfl,h2⟩|⟨rfl,h2⟩
     ·exact .inl ⟨rfl,_,hf.cons hb,h2⟩
     ·exact .inr ⟨rfl,_,hf.cons hb,h2⟩
    ·rcases ML h with⟨rfl,h2⟩|⟨rfl,h2⟩
     ·exact .inr ⟨rfl,_,hf.cons hb,h2⟩
     ·exact .inl ⟨rfl,_,hf.cons hb,h2⟩
   ·rename_i v _ hb;split at h
    ·exact h.elim
    ·rename_i hv _
     have hy:yielded ops a.tmps j=none:=by
      have:=hf.iM d _ hb;have jZ:(ops[j]?).bind (·.dst)=some d:=by simpa using hd
      unfold yielded;rw[jZ];cases v<;>simp_all[Uz]
     have hw:Region.wanted o (yielded ops a.tmps)=false:=by
      simp only[Region.wanted,hg,hy];cases want<;>rfl
     exact .inr ⟨hw,σ,hf,h⟩
   ·exact h.elim
theorem QO (hf:Fits N σ a){o:Oper}{uh:BinOp}{t:TypeId}{x y v:Value}(h:xW σ o.op=some (uh,t,x,y))(hv:Quiet P (Go.binOp uh t x y) w v w):Quiet P (execOp a.eval o) w (.value v) w:=by
 obtain⟨dst,op,ty,pos,after,g⟩:=o;simp only at h;unfold xW at h;split at h
 ·split at h
  ·rename_i hx hy;simp only[Option.some.injEq,Prod.mk.injEq]at h;obtain⟨rfl,rfl,rfl,rfl⟩:=h;simp only[execOp,dt hf hx,dt hf hy]
   have hg:∀(uh:BinOp) (t:TypeId) (x y:Operand) (c d:TypeId) (u v:Value),eqGuard uh t x y (.iface c u) (.iface d v)=(pure ():Sem Unit):=by
    intro uh t x y c d u v;unfold eqGuard;cases uh<;>rfl
   rw[hg];exact hv.map
  ·cases h
 ·cases h
theorem zqf {l:List α}{i:Nat}{x:α}{r:List α}(h:l.drop i=x::r):l[i]?=some x∧l.drop (i+1)=r:=by
 have h1:l[i]?=some x:=by
  have:=congrArg List.head? h;simpa[List.head?_drop]using this
 refine⟨h1,?_⟩;have:=congrArg List.tail h;simpa[List.tail_drop]using this
theorem Ey (hτ:cO P τ){ops:Array Oper}{R:Exit→Act→World→Prop}{Q:cr→World→Prop}(hQ:∀a w σ,Fits N σ a→Q σ w→R .normal a w) :
  ∀(l:List Oper) (i:Nat) (σ:cr) (a:Act) (w:World),ops.toList.drop i=l→Fits N σ a→uQ P τ N ops.toList l Q σ w→su P ops (List.range' i l.length) R a w
 | [],i,σ,a,w,_,hf,h=>LN (hQ a w σ hf h)
 | o::rest,i,σ,a,w,hd,hf,h=>by
  obtain⟨dst,op,ty,pos,after,g⟩:=o;obtain⟨hi,jZ⟩:=zqf hd;have ho:ops[i]?=some ⟨dst,op,ty,pos,after,g⟩:=by simpa using hi
  unfold uQ at h;rw[List.length_cons,List.range'_succ];rcases Eh (o:=⟨dst,op,ty,pos,after,g⟩) hf h with⟨hw,σ',dH,h2⟩|⟨hw,σ',dH,h2⟩
  ·refine RS ho hw ?_;split at h2
   ·split at h2
    ·rename_i CY;obtain⟨v,hv,h3⟩:=h2.ex;obtain⟨iz,dI,h4⟩:=oH dH h3;exact .inl ⟨.value v,w,QO dH (o:=⟨dst,op,ty,pos,after,g⟩) CY hv,Ey hτ hQ rest (i+1) iz _ w jZ dI h4⟩
    ·have hp:=GL (o:=⟨dst,op,ty,pos,after,g⟩) hτ dH h2;obtain⟨v,hv,h3⟩:=GM (o:=⟨dst,op,ty,pos,after,g⟩) hτ dH h2;obtain⟨iz,dI,h4⟩:=oH dH h3;exact .inl ⟨.value v,w,.of hp (hv w) rfl rfl,Ey hτ hQ rest (i+1) iz _ w jZ dI h4⟩
   ·refine EL ?_ (Gi (o:=⟨dst,op,ty,pos,after,g⟩) hτ dH h2);rintro a' w' ⟨v,rfl,h3⟩;obtain⟨iz,dI,h4⟩:=oH dH h3;exact Ey hτ hQ rest (i+1) iz _ w' jZ dI h4
  ·refine Pq ho hw ?_;obtain⟨iz,dI,h4⟩:=oH dH h2;exact Ey hτ hQ rest (i+1) iz _ w jZ dI h4
theorem vQ (hτ:cO P τ):∀(c:Code) (Q:Exit→cr→World→Prop) (σ:cr) (a:Act) (w:World),Fits N σ a→ev P τ N c Q σ w→kL P c (NB N Q) a w
 | .skip,Q,σ,a,w,hf,h=>zs5 ⟨σ,hf,h⟩
 | .region id ops false,Q,σ,a,w,hf,h=>by
  have:=Ey (R:=NB N Q) hτ (Q:=fun σ w=>Q .normal σ w) (fun a w σ hf hq=>⟨σ,hf,hq⟩) ops.toList 0 σ a w zi hf h;refine zoS ?_;rw[List.range_eq_range'];simpa using this
 | .region id ops true,Q,σ,a,w,hf,h=>by
  have h:ek P τ N ops (fun σ w=>Q .normal σ w) σ w:=h;refine xM (h.go id a hf) ?_;rintro e a w ⟨rfl,σ',dH,hq⟩;exact⟨σ',dH,hq⟩
 | .seq x y,Q,σ,a,w,hf,h=>by
  refine zwi (xM (vQ hτ x _ σ a w hf h) ?_);intro e a w hq;cases e with
  | normal =>
   obtain⟨σ',dH,hq⟩:=hq;exact vQ hτ y Q σ' a w dH hq
  | exit i=>exact hq
  | ret=>exact hq
  | goto l=>exact hq.elim
  | panic c=>exact hq.elim
  | outgrown=>exact hq.elim
 | .cond c x y,Q,σ,a,w,hf,h=>by
  unfold ev at h;split at h
  ·rename_i b hb;refine Yw (dt hf hb) (fun ht=>?_) (fun ht=>?_)
   ·subst ht;exact vQ hτ x Q σ a w hf h
   ·subst ht;exact vQ hτ y Q σ a w hf h
  ·exact h.elim
 | .block id c,Q,σ,a,w,hf,h=>by
  refine zqC (xM (vQ hτ c _ σ a w hf h) ?_);intro e a w hq;cases e with
  | normal=>exact hq
  | exit i =>
   obtain⟨σ',dH,hq⟩:=hq;simp only at hq;unfold Exit.inBlock;simp only;split at hq
   ·rename_i hb;rw[if_pos (Nat.eq_of_beq_eq_true hb)];exact⟨σ',dH,hq⟩
   ·rename_i hb;rw[if_neg (Nat.ne_of_beq_eq_false hb)];exact⟨σ',dH,hq⟩
  | ret=>exact hq
  | goto l=>exact hq.elim
  | panic c=>exact hq.elim
  | outgrown=>exact hq.elim
 | .loop c,Q,σ,a,w,hf,h=>by
  have h:k7 P τ N c Q σ w:=h;exact h.go a hf
 | .exit i,Q,σ,a,w,hf,h=>zs4 ⟨σ,hf,h⟩
 | .ret,Q,σ,a,w,hf,h=>zwh ⟨σ,hf,h⟩
 | .rangeFunc _ _ _ _,_,_,_,_,_,h=>h.elim
 | .scope _,_,_,_,_,_,h=>h.elim
 | .label _,_,_,_,_,_,h=>h.elim
 | .goto _,_,_,_,_,_,h=>h.elim
 | .refuse _,_,_,_,_,_,h=>h.elim
end
section
variable (P:Program) (τ:Tab) (N:Nat)
def qE (ops:List Oper)(o:Oper)(K:cr→World→Prop)(σ:cr)(w:World):Prop :=
 rA N ops o.guard σ
  (fun σ=>match pT o.op with
   | true=>(match xW σ o.op with
    | some (uh,t,x,y)=>wC P uh t x y w fun v=>iT N o.dst v σ fun σ=>K σ w
    | none=>rB P τ σ o.op fun v=>iT N o.dst v σ fun σ=>K σ w)
   | false=>vX P τ σ o.op w fun v w=>iT N o.dst v σ fun σ=>K σ w)
  (fun σ=>iT N o.dst undef σ fun σ=>K σ w)
def kV (ops:List Oper)(Q:cr→World→Prop)(l:List Oper):cr→World→Prop :=
 List.rec (motive:=fun _=>cr→World→Prop) Q (fun o _ ih=>qE P τ N ops o ih) l
theorem LA (ops:List Oper)(Q:cr→World→Prop):∀l:List Oper,kV P τ N ops Q l=fun σ w=>uQ P τ N ops l Q σ w
 | []=>rfl
 | o::r=>by
  have ih:=LA ops Q r;show qE P τ N ops o (kV P τ N ops Q r)=_;rw[ih];rfl
abbrev EQ:=Exit→cr→World→Prop
abbrev EV:=EQ→cr→World→Prop
def zzF:EV:=fun Q σ w=>Q .normal σ w
def E8:EV:=fun _ _ _=>False
def zwF (_:Nat)(ops:Array Oper)(draw:Bool):EV:=fun Q σ w=>match draw with
 | false=>kV P τ N ops.toList (Q .normal) ops.toList σ w
 | true=>ek P τ N ops (Q .normal) σ w
def B7 (K:EV)(Q:EQ):EQ:=fun e σ w=>match e with
 | .normal=>K Q σ w
 | e=>Q e σ w
def Na (c:Operand)(x y:EV):EV:=fun Q σ w=>match ro σ c with
 | some (.bool b)=>br b (x Q σ w) (y Q σ w)
 | _=>False
def MW (id:Nat)(Q:EQ):EQ:=fun e σ w=>match e with
 | .exit i=>(match Nat.beq i id with
  | true=>Q .normal σ w
  | false=>Q (.exit i) σ w)
 | e=>Q e σ w
def oP (c:Code):EV :=
 Code.rec (motive:=fun _=>EV) zzF (zwF P τ N) (fun _ _ x y Q=>x (B7 y Q)) (fun c _ _ x y=>Na c x y) (fun id _ x Q=>x (MW id Q)) (fun c _ Q σ w=>k7 P τ N c Q σ w)
  (fun _ _ _ _ _ _=>E8) (fun i Q=>Q (.exit i)) (fun _ _=>E8) (fun _=>E8) (fun _=>E8) (fun Q=>Q .ret) (fun _=>E8) c
theorem wb:∀c:Code,oP P τ N c=ev P τ N c
 | .skip=>rfl
 | .region id ops false=>by
  funext Q σ w
  show kV P τ N ops.toList (Q .normal) ops.toList σ w=_;rw[LA];rfl
 | .region id ops true=>rfl
 | .seq x y=>by
  funext Q σ w
  have e:B7 (ev P τ N y) Q=(fun e σ w=>match e with
   | .normal=>ev P τ N y Q σ w
   | e=>Q e σ w):=by funext e;cases e<;>rfl
  show oP P τ N x (B7 (oP P τ N y) Q) σ w=_;rw[wb x,wb y,e];rfl
 | .cond c x y=>by
  show Na c (oP P τ N x) (oP P τ N y)=_;rw[wb x,wb y]
  funext Q σ w
  unfold Na;rfl
 | .block id c=>by
  funext Q σ w
  have e:MW id Q=(fun e σ w=>match e with
   | .exit i=>(match Nat.beq i id with
    | true=>Q .normal σ w
    | false=>Q (.exit i) σ w)
   | e=>Q e σ w):=by funext e;cases e<;>rfl
  show oP P τ N c (MW id Q) σ w=_;rw[wb c,e];rfl
 | .loop c=>rfl
 | .exit i=>rfl
 | .ret=>rfl
 | .rangeFunc _ _ _ _=>rfl
 | .scope _=>rfl
 | .label _=>rfl
 | .goto _=>rfl
 | .refuse _=>rfl
end
def AU:Nat→List Value→cr
 | _,[]=>[]
 | i,v::r=>(i,v)::AU (i+1) r
structure aI (p:Prop):Prop where
 h:p
def yg (τ:Tab)(σ:cr)(w:World):List ResultVar→(List Value→Prop)→Prop
 | [],k=>k []
 | .tmp t::r,k=>match look σ t with
  | some v=>yg τ σ w r fun vs=>k (v::vs)
  | none=>False
 | .cell x t::r,k=>match look σ x,tl τ t with
  | some (.pointer (some ⟨b,o,none⟩)),some ⟨n,kd,_⟩=>(match kd.agg with
   | true=>uf w b o n fun v=>yg τ σ w r fun vs=>k (v::vs)
   | false=>uU w b o fun v=>yg τ σ w r fun vs=>k (v::vs))
  | _,_=>False
def M8 (τ:Tab)(rs:List ResultVar)(R:Value→World→Prop):Exit→cr→World→Prop:=fun e σ w =>
 match e with
 | .normal | .ret=>yg τ σ w rs fun vs=>match vs with
  | [v]=>aI (R v w)
  | vs=>aI (R (.tuple vs.toArray) w)
 | _=>False
section
variable {a:Act}
theorem QP:∀(l:List Value) (i n:Nat) (v:Value),look (AU i l) n=some v→i≤n∧l[n-i]?=some v
 | [],_,_,_,h=>by cases h
 | x::l,i,n,v,h=>by
  unfold AU look at h;cases hb:Nat.beq i n with
  | true =>
   rw[hb]at h;have:=Nat.eq_of_beq_eq_true hb;subst this;simp only[Option.some.injEq]at h;subst h;simp
  | false =>
   rw[hb]at h;obtain⟨h1,h2⟩:=QP l (i+1) n v h;refine⟨by omega,?_⟩;rw[show n-i=(n-(i+1))+1 by omega];simpa using h2
theorem RJ {args:List Value}(h:args.length≤N):Fits N (AU 0 args) { tmps:=args.toArray++Array.replicate (N-args.toArray.size) undef,defers:=[] }:=by
 refine⟨by simp;omega,rfl,fun n v hn=>?_⟩;obtain⟨_,h2⟩:=QP args 0 n v hn;have h3:args[n]?=some v:=by simpa using h2
 have aQ:n<args.length:=(List.getElem?_eq_some_iff.1 h3).1;rw[Array.getElem?_append_left (by simpa using aQ)];simpa using h3
theorem zqN {z:List Value}(hτ:cO P τ)(ht:tl τ t=some ⟨n,kd,z⟩){k:Value→Prop}
  (h:match kd.agg with|true=>uf w b o n k|false=>uU w b o k):∃v,(loadVar t ⟨b,o,none⟩).run P w=.ok v w∧k v:=by
 obtain⟨v,hr,hk⟩:=Bv hτ ht h;refine⟨v,?_,hk⟩;simpa[Instr.loadAt,Instr.sureAddr]using hr
def AP (tmps:Array Value):ResultVar→Sem Value
 | .tmp t=>pure (tmps.getD t undef)
 | .cell x t=>do loadVar t (←asAddr (tmps.getD x undef))
theorem zpf (fn:Func)(tmps:Array Value):results fn tmps=(do let vs ←fn.results.mapM (AP tmps);pure (if h:vs.size=1 then vs[0] else .tuple vs)):=by
 unfold results;congr 1
theorem Lc (hτ:cO P τ)(hf:Fits N σ a):∀(rs:List ResultVar) (k:List Value→Prop),yg τ σ w rs k →
  ∃vs:List Value,(rs.mapM (AP a.tmps)).run P w=.ok vs w∧k vs∧vs.length=rs.length
 | [],k,h=>⟨[],rfl,h,rfl⟩
 | .tmp t::r,k,h=>by
  unfold yg at h;split at h
  ·rename_i v hv;obtain⟨vs,h1,h2,h3⟩:=Lc hτ hf r _ h;have hx:=hf.iM t v hv;refine⟨v::vs,?_,h2,by simp[h3]⟩;have e:(AP a.tmps (.tmp t)).run P w=.ok v w:=by simp[AP,hx]
   rw[List.mapM_cons,Sem.run_bind,e,Result.andThen_ok,Sem.run_bind,h1];rfl
  ·exact h.elim
 | .cell x t::r,k,h=>by
  unfold yg at h;split at h
  ·rename_i b o n kd z hx ht;obtain⟨v,hr,hk⟩:=zqN hτ ht h;obtain⟨vs,h1,h2,h3⟩:=Lc hτ hf r _ hk;have hx:=hf.iM x _ hx;refine⟨v::vs,?_,h2,by simp[h3]⟩
   have e:(AP a.tmps (.cell x t)).run P w=.ok v w:=by
    simp[AP,hx,asAddr,hr]
   rw[List.mapM_cons,Sem.run_bind,e,Result.andThen_ok,Sem.run_bind,h1];rfl
  ·exact h.elim
def BW (P:Program)(f:FuncId)(args:Array Value)(w:World)(R:Value→World→Prop):Prop :=
 ∃fn c,P.funcs[f]?=some fn∧fn.body=some c∧kL P c (UN P fn R) { tmps:=args++Array.replicate (fn.ntmps-args.size) undef,defers:=[] } w
theorem TR (hτ:cO P τ){f:FuncId}{fn:Func}{c:Code}{args:List Value}{R:Value→World→Prop}(hf:P.funcs[f]?=some fn)(hb:fn.body=some c)(hN:fn.ntmps=N)
  (hle:args.length≤N) (h:oP P τ N c (M8 τ fn.results.toList R) (AU 0 args) w):BW P f args.toArray w R:=by
 rw[wb]at h;refine⟨fn,c,hf,hb,?_⟩;rw[hN];refine xM (vQ hτ c _ _ _ w (RJ hle) h) ?_
 have fin:∀(σ:cr) (a:Act) (w:World),Fits N σ a→(yg τ σ w fn.results.toList fun vs=>match vs with
  | [v]=>aI (R v w)
  | vs=>aI (R (.tuple vs.toArray) w))→a.defers=[]∧∃v,Quiet P (results fn a.tmps) w v w∧R v w:=by
  intro σ a w j6 hq;refine⟨j6.defers,?_⟩;obtain⟨vs,h1,h2,h3⟩:=Lc hτ j6 _ _ hq
  have hm:(fn.results.mapM (AP a.tmps)).run P w=.ok vs.toArray w:=by
   rw[Array.mapM_eq_mapM_toList,Sem.run_map,h1];rfl
  have kh:(results fn a.tmps).run P w=.ok (if h:vs.toArray.size=1 then vs.toArray[0] else .tuple vs.toArray) w:=by
   rw[zpf,Sem.run_bind,hm];rfl
  refine⟨_,.of (YE _ _) kh rfl rfl,?_⟩;split at h2
  ·simpa using h2.h
  ·rename_i cj
   rw[dif_neg (by
    intro hs
    match vs,hs with
    | [v],_=>exact cj v rfl)]
   exact h2.h
 intro e a w hq;cases e with
 | normal=>obtain⟨σ,j6,hq⟩:=hq;exact fin σ a w j6 hq
 | ret=>obtain⟨σ,j6,hq⟩:=hq;exact fin σ a w j6 hq
 | exit i=>obtain⟨σ,j6,hq⟩:=hq;exact hq.elim
 | goto l=>exact hq.elim
 | panic c=>exact hq.elim
 | outgrown=>exact hq.elim
theorem r5 (hτ : cO P τ) {f : FuncId} {fn : Func} {c : Code} {args : List Value} {R : Value → World → Prop} (hf : P.funcs[f]? = some fn) (eG : (fn.name == "runtime.NumGoroutine") = false) (hb : fn.body = some c) (hN : fn.ntmps = N)
  (hle:args.length≤N) (h:oP P τ N c (M8 τ fn.results.toList R) (AU 0 args) w):aa P f args.toArray w R:=by
 have lS:=Pm (P:=P) args.toArray hf eG (by rw[hb];rfl);exact⟨.inl ⟨.of lS.1 (lS.2 w) rfl rfl,⟨.inl (TR hτ hf hb hN hle h)⟩⟩⟩
def Sub:cr→cr→Prop
 | [],_=>True
 | (n,v)::r,σ=>look σ n=some v∧Sub r σ
theorem Sub.cB:∀{σ' σ:cr},Sub σ' σ→∀n v,look σ' n=some v→look σ n=some v
 | [],_,_,_,_,h=>by cases h
 | (m,u)::r,σ,hs,n,v,h=>by
  unfold look at h;cases hb:Nat.beq m n with
  | true =>
   rw[hb]at h;have:=Nat.eq_of_beq_eq_true hb;subst this;simp only[Option.some.injEq]at h;subst h;exact hs.1
  | false =>
   rw[hb]at h;exact Sub.cB hs.2 n v h
structure aD (I:cr→World→Nat→Prop)(n:Nat)(σ:cr)(w:World):Prop where
 ex:∃n' σ',n'<n∧Sub σ' σ∧I σ' w n'
def zzA (I:cr→World→Nat→Prop)(n:Nat)(Q:Exit→cr→World→Prop):Exit→cr→World→Prop:=fun e σ w =>
 match e with
 | .normal=>aD I n σ w
 | e=>Q e σ w
theorem d5 (hτ:cO P τ){body:Code}{Q:Exit→cr→World→Prop}(I:cr→World→Nat→Prop){σ':cr}{n:Nat}(hs:Sub σ' σ)(h0:I σ' w n)
  (hr:∀σ w n,I σ w n→oP P τ N body (zzA I n Q) σ w):k7 P τ N body Q σ w:=by
 simp only[wb]at hr;refine⟨fun a hf=>SB (fun n a w=>∃σ,Fits N σ a∧I σ w n) ⟨σ',hf.weaken hs.cB,h0⟩ fun n a w ⟨σ,hf,hI⟩=>?_⟩;refine xM (vQ hτ body _ σ a w hf (hr σ w n hI)) fun e a w hq=>?_
 cases e with
 | normal =>
  obtain⟨σ₁,Jk,hq⟩:=hq;obtain⟨n',σ₂,aQ,eT,gL⟩:=hq.ex;exact⟨n',aQ,σ₂,Jk.weaken eT.cB,gL⟩
 | exit id=>exact hq
 | ret=>exact hq
 | goto l=>exact hq.elim
 | panic ch=>exact hq.elim
 | outgrown=>exact hq.elim
structure rI (S:World→Prop)(b o:Nat)(k:Value→Prop):Prop where
 ex:∃v,(∀w,S w→w.cell? ⟨b,o,none⟩=some v)∧k v
structure wD (S:World→Prop)(b o n:Nat)(k:Value→Prop):Prop where
 ex:∃l:List Value,l.length=n∧(∀w,S w→aH w b o l)∧k (.agg l.toArray)
structure ae (p q:Prop):Prop where
 keep:p
 go:q
def B6:List Oper→Nat→Option Oper
 | [],_=>none
 | o::_,0=>some o
 | _::r,n+1=>B6 r n
theorem MF (l:List Oper)(n:Nat):B6 l n=l[n]?:=by
 induction l generalizing n with
 | nil=>rfl
 | cons x r ih=>cases n with
  | zero=>rfl
  | succ n=>simpa[B6]using ih n
def U0:List Nat→Nat→Bool
 | [],_=>false
 | m::r,n=>match Nat.beq m n with|true=>true|false=>U0 r n
def zyr:Op→Bool
 | .load ..=>true
 | _=>false
def uO (late:List Nat)(i:Nat)(op:Op):Bool :=
 match pT op with
 | true=>true
 | false=>match zyr op with
  | true=>!U0 late i
  | false=>false
def t9 (P:Program)(τ:Tab)(N:Nat)(ops:Array Oper)(late:List Nat)(S:World→Prop):List Nat→(cr→World→Prop)→cr→World→Prop
 | [],Q,σ,w=>Q σ w
 | i::rest,Q,σ,w=>match B6 ops.toList i with
  | some ⟨dst,op,_,_,_,g⟩=>rA N ops.toList g σ
    (fun σ=>match pT op with
     | true=>rB P τ σ op fun v=>iT N dst v σ fun σ=>t9 P τ N ops late S rest Q σ w
     | false=>match uO late i op with
      | true=>(match op with
       | .load t x=>match ro σ x,tl τ t with
        | some (.pointer (some ⟨b,o,none⟩)),some ⟨n,kd,_⟩=>(match kd.agg with
         | true=>wD S b o n fun v=>iT N dst v σ fun σ=>t9 P τ N ops late S rest Q σ w
         | false=>rI S b o fun v=>iT N dst v σ fun σ=>t9 P τ N ops late S rest Q σ w)
        | _,_=>False
       | _=>False)
      | false=>vX P τ σ op w fun v w=>ae (S w) (iT N dst v σ fun σ=>t9 P τ N ops late S rest Q σ w))
    (fun σ=>iT N dst undef σ fun σ=>t9 P τ N ops late S rest Q σ w)
  | none=>False
def L4 (P:Program)(τ:Tab)(N:Nat)(ops:Array Oper)(late:List Nat)(S:World→Prop)(i:Nat)(K:cr→World→Prop)(σ:cr)(w:World):Prop :=
 match B6 ops.toList i with
 | some ⟨dst,op,_,_,_,g⟩=>rA N ops.toList g σ
   (fun σ=>match pT op with
    | true=>rB P τ σ op fun v=>iT N dst v σ fun σ=>K σ w
    | false=>match uO late i op with
     | true=>(match op with
      | .load t x=>match ro σ x,tl τ t with
       | some (.pointer (some ⟨b,o,none⟩)),some ⟨n,kd,_⟩=>(match kd.agg with
        | true=>wD S b o n fun v=>iT N dst v σ fun σ=>K σ w
        | false=>rI S b o fun v=>iT N dst v σ fun σ=>K σ w)
       | _,_=>False
      | _=>False)
     | false=>vX P τ σ op w fun v w=>ae (S w) (iT N dst v σ fun σ=>K σ w))
   (fun σ=>iT N dst undef σ fun σ=>K σ w)
 | none=>False
def BI (P:Program)(τ:Tab)(N:Nat)(ops:Array Oper)(late:List Nat)(S:World→Prop)(order:List Nat)(Q:cr→World→Prop):cr→World→Prop :=
 List.rec (motive:=fun _=>cr→World→Prop) Q (fun i _ ih=>L4 P τ N ops late S i ih) order
theorem K4 (P:Program)(τ:Tab)(N:Nat)(ops:Array Oper)(late:List Nat)(S:World→Prop)(Q:cr→World→Prop):∀order:List Nat,BI P τ N ops late S order Q=fun σ w=>t9 P τ N ops late S order Q σ w
 | []=>rfl
 | i::r=>by
  have ih:=K4 P τ N ops late S Q r;show L4 P τ N ops late S i (BI P τ N ops late S r Q)=_;rw[ih]
  funext σ w
  unfold L4;rw[t9]
def vU (ops:Array Oper)(late:List Nat):List Nat→Array Bool→Bool
 | [],listed=>(Region.ready .any ops listed).isEmpty
 | i::r,listed=>(match ops[i]? with
  | some o=>(match uO late i o.op with
   | true=>Region.free .any ops listed i&&(Region.ready .any ops listed).contains i
   | false=>Region.ready .any ops listed == [i])
  | none=>false)&&vU ops late r (listed.setIfInBounds i true)
theorem Bu (hτ:cO P τ){ops:Array Oper}{late:List Nat}{S:World→Prop}{Q:cr→World→Prop}{R:Exit→Act→World→Prop}(hs:Region.noSelect ops=true)(hQ:∀a w σ,Fits N σ a→Q σ w→R .normal a w) :
  ∀(order:List Nat) (listed:Array Bool) (σ:cr) (a:Act) (w:World),Fits N σ a→S w→vU ops late order listed=true→t9 P τ N ops late S order Q σ w→mm P ops R S order.length listed a w
 | [],listed,σ,a,w,hf,hS,bR,h=>by
  unfold vU at bR;exact⟨by simpa using bR,hQ a w σ hf h⟩
 | i::rest,listed,σ,a,w,hf,hS,bR,h=>by
  unfold vU at bR;unfold t9 at h;rw[MF]at h;cases ho:ops[i]? with
  | none =>
   have:ops.toList[i]?=none:=by simpa using ho
   rw[this]at h;exact h.elim
  | some o =>
   have zw:ops.toList[i]?=some o:=by simpa using ho
   rw[zw]at h;rw[ho]at bR;obtain⟨dst,op,ty,pos,after,g⟩:=o;simp only[Bool.and_eq_true]at bR;obtain⟨l8,pI⟩:=bR;simp only at h
   have take:∀(v:Value),de P ops S ⟨dst,op,ty,pos,after,g⟩ v a→uO late i op=true→mm P ops R S rest.length (listed.setIfInBounds i true) (a.put dst v) w→mm P ops R S (i::rest).length listed a w:=by
    intro v hy qh hgo;rw[qh]at l8;simp only[Bool.and_eq_true]at l8;exact Rh (oi:=⟨dst,op,ty,pos,after,g⟩) ho hs l8.1 l8.2 hy hS hgo
   rcases Eh (o:=⟨dst,op,ty,pos,after,g⟩) hf h with⟨hw,σ',dH,h2⟩|⟨hw,σ',dH,h2⟩
   ·cases hp:pT op with
    | true =>
     rw[hp]at h2;have JM:=GL (o:=⟨dst,op,ty,pos,after,g⟩) hτ dH h2;obtain⟨v,hv,h3⟩:=GM (o:=⟨dst,op,ty,pos,after,g⟩) hτ dH h2;obtain⟨iz,dI,h4⟩:=oH dH h3;exact take v (.inl ⟨hw,fun w _=>.of JM (hv w) rfl rfl⟩) (by simp[uO,hp]) (Bu hτ hs hQ rest _ iz _ w dI hS pI h4)
    | false =>
     rw[hp]at h2;simp only at h2;cases qh:uO late i op with
     | true =>
      rw[qh]at h2;simp only at h2;split at h2
      ·rename_i t x;split at h2
       ·rename_i b o n kd z hx ht
        have pN:∃v,(∀w,S w→(Instr.loadAt t (.pointer (some ⟨b,o,none⟩))).run P w=.ok v w)∧iT N dst v σ' fun σ=>t9 P τ N ops late S rest Q σ w:=by
         cases hk:kd.agg with
         | true =>
          rw[hk]at h2;obtain⟨l,hl,hc,hv⟩:=h2.ex;refine⟨_,fun w' f8=>?_,hv⟩;obtain⟨v,hr,hv⟩:=Bv (P:=P) (w:=w') (b:=b) (o:=o) (k:=fun v=>v=.agg l.toArray) hτ ht (by rw[hk];exact⟨l,hl,hc w' f8,rfl⟩);rw[hr,hv]
         | false =>
          rw[hk]at h2;obtain⟨v,hc,hv⟩:=h2.ex;refine⟨v,fun w' f8=>?_,hv⟩;obtain⟨u,hr,hu⟩:=Bv (P:=P) (w:=w') (b:=b) (o:=o) (k:=fun u=>u=v) hτ ht (by rw[hk];exact⟨v,hc w' f8,rfl⟩);rw[hr,hu]
        obtain⟨v,hv,h3⟩:=pN;obtain⟨iz,dI,h4⟩:=oH dH h3;refine take v (.inl ⟨hw,fun w' f8=>?_⟩) qh (Bu hτ hs hQ rest _ iz _ w dI hS pI h4);refine .of ?_ ?_ rfl rfl
        ·simp only[execOp];exact lV (KU _ _)
        ·simp only[execOp,dt dH hx];exact H4 (hv w' f8)
       ·exact h2.elim
      ·exact h2.elim
     | false =>
      rw[qh]at h2 l8;simp only[beq_iff_eq]at h2 l8;refine L0 (rs:=[i]) l8 zi ?_;intro j hj;obtain rfl:j=i:=by simpa using hj
      unfold nG;rw[ho];simp only[hw,if_true];refine EL ?_ (Gi (o:=⟨dst,op,ty,pos,after,g⟩) hτ dH h2);rintro a' w' ⟨v,rfl,h3⟩;obtain⟨iz,dI,h4⟩:=oH dH h3.go;exact⟨h3.keep,Bu hτ hs hQ rest _ iz _ w' dI h3.keep pI h4⟩
   ·obtain⟨iz,dI,h4⟩:=oH dH h2;cases qh:uO late i op with
    | true=>exact take undef (.inr ⟨hw,rfl⟩) qh (Bu hτ hs hQ rest _ iz _ w dI hS pI h4)
    | false =>
     rw[qh]at l8;simp only[beq_iff_eq]at l8;refine L0 (rs:=[i]) l8 zi ?_;intro j hj;obtain rfl:j=i:=by simpa using hj
     unfold nG;rw[ho];simp only[hw,Bool.false_eq_true,if_false];exact⟨hS,Bu hτ hs hQ rest _ iz _ w dI hS pI h4⟩
theorem UU (hτ:cO P τ)(hm:P.follows .mixedOrders=true){ops:Array Oper}{Q:cr→World→Prop}(late:List Nat)(S:World→World→Prop)(order:List Nat)
  (bR:(Region.noSelect ops&&Nat.beq order.length ops.size&&vU ops late order (Array.replicate ops.size false))=true)
  (hS:S { w with drawn:=w.drawn+1 } { w with drawn:=w.drawn+1 }) (h:t9 P τ N ops late (S { w with drawn:=w.drawn+1 }) order Q σ { w with drawn:=w.drawn+1 }):ek P τ N ops Q σ w:=by
 simp only[Bool.and_eq_true]at bR;refine⟨fun id a hf=>?_⟩;refine O9 (S:=S { w with drawn:=w.drawn+1 }) hm ?_;have hlen:order.length=ops.size:=Nat.eq_of_beq_eq_true bR.1.2;have:=Bu (R:=fun e a' w'=>e=.normal∧∃σ',Fits N σ' a'∧Q σ' w') hτ bR.1.1 (fun a w σ hf hq=>⟨rfl,σ,hf,hq⟩) order _ σ a _ hf hS bR.2 h;rw[hlen]at this;exact this
end
structure Ext (S:Nat→Prop)(w w':World):Prop where
 os:w'.os=w.os
 tape:w'.tape=w.tape
 output:w'.output=w.output
 size:w.heap.size≤w'.heap.size
 block:∀k,k<w.heap.size→¬S k→w'.heap[k]?=w.heap[k]?
abbrev No:Nat→Prop:=fun _=>False
section
variable {kT:World}
theorem Ext.refl (S:Nat→Prop)(w:World):Ext S w w:=⟨rfl,rfl,rfl,Nat.le_refl _,fun _ _ _=>rfl⟩
theorem Ext.trans (h:Ext S w w')(k:Ext S w' kT):Ext S w kT :=
 ⟨k.os.trans h.os,k.tape.trans h.tape,k.output.trans h.output,Nat.le_trans h.size k.size,fun i hi hs=>(k.block i (Nat.lt_of_lt_of_le hi h.size) hs).trans (h.block i hi hs)⟩
theorem Ext.then (h:Ext S w w')(k:Ext T w' kT)(hT:∀b,T b→S b∨w.heap.size≤b):Ext S w kT :=
 ⟨k.os.trans h.os,k.tape.trans h.tape,k.output.trans h.output,Nat.le_trans h.size k.size,fun i hi hs=>(k.block i (Nat.lt_of_lt_of_le hi h.size) (fun ht=>by
  rcases hT i ht with h1|h1
  ·exact hs h1
  ·omega)).trans (h.block i hi hs)⟩
theorem Ext.mono (h:Ext S w w')(hT:∀b,S b→T b):Ext T w w':=⟨h.os,h.tape,h.output,h.size,fun i hi hs=>h.block i hi fun hk=>hs (hT i hk)⟩
theorem Ext.aF (h:Ext No w w'):Ext S w w':=h.mono fun _ h=>h.elim
theorem Ext.drawn (S:Nat→Prop)(w:World)(n:Nat):Ext S w { w with drawn:=n }:=⟨rfl,rfl,rfl,Nat.le_refl _,fun _ _ _=>rfl⟩
theorem Ext.push (S:Nat→Prop)(w:World)(t:TypeId)(cs:List Value):Ext S w (gA w t cs) :=
 ⟨rfl,rfl,rfl,by simp[gA],fun i hi _=>by
  show(w.heap.push _)[i]?=_;rw[Array.getElem?_push,if_neg zo]⟩
theorem zwf (w:World)(n d i:Nat)(hi:i<w.heap.size):(wgap w n d).heap[i]?=w.heap[i]?:=by
 show(w.heap++_)[i]?=_;rw[Array.getElem?_append_left hi]
theorem Ext.ed (S:Nat→Prop)(w:World)(n d:Nat):Ext S w (wgap w n d):=⟨rfl,rfl,rfl,by simp[wgap],fun i hi _=>zwf w n d i hi⟩
theorem Ext.set (hb:S b)(t:TypeId)(cs:List Value):Ext S w (jT w b t cs) :=
 ⟨rfl,rfl,rfl,by simp[jT],fun i hi hs=>by
  have:b≠i:=fun e=>hs (e ▸ hb)
  simp[jT,this]⟩
theorem Ext.blk (h:Ext S w w')(hb:bC w b t cs)(hs:¬S b):bC w' b t cs:=(h.block b hb.lt hs).trans hb
theorem sd {a:Addr}{v:Value}(h:w.cell? a=some v):a.block<w.heap.size:=by
 unfold World.cell? at h;split at h
 ·rename_i he;exact(Array.getElem?_eq_some_iff.1 he).1
 ·cases h
theorem Ext.cell {v:Value}(h:Ext S w w')(hc:w.cell? ⟨b,o,none⟩=some v)(hs:¬S b):w'.cell? ⟨b,o,none⟩=some v:=by
 have:=h.block b (sd hc) hs;rw[←hc];simp[World.cell?,this]
theorem Ext.cells {l:List Value}(h:Ext S w w')(hc:aH w b o l)(hs:¬S b):aH w' b o l:=fun i v hi=>h.cell (hc i v hi) hs
theorem bC.ne {b':Nat}{t':TypeId}{kK:List Value}(h:bC w b t cs)(h':bC w b' t' kK)(ht:t≠t'):b≠b':=by
 rintro rfl;unfold bC at h h';rw[h]at h';injection h' with h'
 injection h' with _ h'
 exact ht h'
theorem bC.cells (h:bC w b t cs){o:Nat}{l:List Value}(hl:(cs.drop o).take l.length=l):aH w b o l:=fun i v hi=>by
 rw[h.cell];have aQ:=(List.getElem?_eq_some_iff.1 hi).1;rw[←hl]at hi;rw[List.getElem?_take_of_lt aQ,List.getElem?_drop]at hi;exact hi
end
structure bZ where
 aW:List Nat
 holds:World→Prop
def bZ.Local (e:bZ):Prop:=∀w w':World,(∀b∈e.aW,w'.heap[b]?=w.heap[b]?)→e.holds w→e.holds w'
def blk (b:Nat)(t:TypeId)(cs:List Value):bZ:=⟨[b],fun w=>bC w b t cs⟩
theorem eh (b:Nat)(t:TypeId)(cs:List Value):(blk b t cs).Local:=fun _ _ h hb=>(h b (by simp[blk])).trans hb
structure St (w0:World)(S:Nat→Prop)(w:World)(H:List bZ):Prop where
 ext:Ext S w0 w
 each:∀e∈H,e.holds w
 loc:∀e∈H,e.Local
 may:∀e∈H,∀b∈e.aW,(S b∨w0.heap.size≤b)∧b<w.heap.size
 apart:H.Pairwise fun e f=>∀b∈e.aW,b ∉ f.aW
section
variable {w0:World}  {H:List bZ}
theorem St.start (w0:World)(S:Nat→Prop):St w0 S w0 []:=⟨Ext.refl _ _,by simp,by simp,by simp,.nil⟩
theorem St.get (h:St w0 S w H)(i:Nat){e:bZ}(hi:H[i]?=some e):e.holds w:=h.each e (List.mem_of_getElem? hi)
theorem St.blk (h:St w0 S w H)(i:Nat){b:Nat}{t:TypeId}{cs:List Value}(hi:H[i]?=some (blk b t cs)):bC w b t cs:=h.get i hi
theorem St.add (h:St w0 S w H){e:bZ}(hl:e.Local)(hh:e.holds w)(hm:∀b∈e.aW,(S b∨w0.heap.size≤b)∧b<w.heap.size)(ha:∀f∈H,∀b∈f.aW,b ∉ e.aW):St w0 S w (H++[e]):=by
 refine⟨h.ext,?_,?_,?_,?_⟩
 ·intro f hf;rcases List.mem_append.1 hf with hf|hf
  ·exact h.each f hf
  ·obtain rfl:f=e:=by simpa using hf
   exact hh
 ·intro f hf;rcases List.mem_append.1 hf with hf|hf
  ·exact h.loc f hf
  ·obtain rfl:f=e:=by simpa using hf
   exact hl
 ·intro f hf;rcases List.mem_append.1 hf with hf|hf
  ·exact h.may f hf
  ·obtain rfl:f=e:=by simpa using hf
   exact hm
 ·rw[List.pairwise_append];refine⟨h.apart,by simp,fun f hf g hg=>?_⟩;obtain rfl:g=e:=by simpa using hg
  exact ha f hf
theorem St.same (h:St w0 S w H)(k:Ext T w w')(hT:∀b,T b→S b∨w0.heap.size≤b)(hn:∀e∈H,∀b∈e.aW,¬T b):St w0 S w' H :=
 ⟨h.ext.then k hT,fun e he=>h.loc e he w w' (fun b hb=>k.block b (h.may e he b hb).2 (hn e he b hb)) (h.each e he),h.loc,fun e he b hb=>⟨(h.may e he b hb).1,Nat.lt_of_lt_of_le (h.may e he b hb).2 k.size⟩,h.apart⟩
theorem St.no (h:St w0 S w H)(k:Ext No w w'):St w0 S w' H:=h.same k (fun _ h=>h.elim) fun _ _ _ _ h=>h
theorem St.cn {x:Value}{Q:Value→World→Prop}(h:St w0 S w H)(hc:aa P f args w fun v w'=>v=x∧Ext No w w')(k:∀w',St w0 S w' H→Q x w'):aa P f args w Q:=hc.mono fun v w' ⟨e,hx⟩=>by
 subst e;exact k w' (h.no hx)
theorem Py {R:α→α→Prop}(qm:∀a b,R a b→R b a):∀{l:List α} {i:Nat} {e:α},l.Pairwise R→(∀j f,l[j]?=some f→j≠i→R f e)→(l.set i e).Pairwise R
 | [],_,_,_,_=>by simp
 | x::l,0,e,h,hf=>by
  rw[List.set_cons_zero];refine .cons (fun y hy=>?_) (List.Pairwise.of_cons h);obtain⟨j,hj,rfl⟩:=List.mem_iff_getElem.1 hy;exact qm _ _ (hf (j+1) _ (by simp[hj]) zo)
 | x::l,i+1,e,h,hf=>by
  rw[List.set_cons_succ];obtain⟨h1,h2⟩:=List.pairwise_cons.1 h;refine .cons (fun y hy=>?_) (Py qm h2 fun j f hj cj=>hf (j+1) f (by simpa using hj) zo);rcases List.mem_or_eq_of_mem_set hy with hy|rfl
  ·exact h1 y hy
  ·exact hf 0 x zi zo
theorem mj {R:α→α→Prop}(qm:∀a b,R a b→R b a){l:List α}(h:l.Pairwise R){i j:Nat}{a b:α}(hi:l[i]?=some a)(hj:l[j]?=some b)(cj:i≠j):R a b:=by
 rw[List.pairwise_iff_getElem]at h;obtain⟨wZ,rfl⟩:=List.getElem?_eq_some_iff.1 hi;obtain⟨FI,rfl⟩:=List.getElem?_eq_some_iff.1 hj;rcases Nat.lt_or_gt_of_ne cj with aQ|aQ
 ·exact h i j wZ FI aQ
 ·exact qm _ _ (h j i FI wZ aQ)
theorem m4:∀e f:bZ,(∀b∈e.aW,b ∉ f.aW)→∀b∈f.aW,b ∉ e.aW:=fun _ _ h b hb dk=>h b dk hb
theorem St.upd (h:St w0 S w H)(i:Nat){e e':bZ}(hi:H[i]?=some e)(k:Ext T w w')(hT:∀b,T b→b∈e.aW)(hl:e'.Local)(hh:e'.holds w')(hf:∀b∈e'.aW,b∈e.aW∨(w.heap.size≤b∧b<w'.heap.size)):St w0 S w' (H.set i e'):=by
 have Jy:e∈H:=List.mem_of_getElem? hi;have V6:∀b,T b→S b∨w0.heap.size≤b:=fun b hb=>(h.may e Jy b (hT b hb)).1
 have other:∀j f,H[j]?=some f→j≠i→∀b∈f.aW,b ∉ e.aW:=fun j f hj cj=>mj m4 h.apart hj hi cj
 have ib:∀f∈H.set i e',f=e'∨∃j,H[j]?=some f∧j≠i:=by
  intro f hf;obtain⟨j,hj⟩:=List.mem_iff_getElem?.1 hf;rw[List.getElem?_set]at hj;split at hj
  ·split at hj
   ·exact .inl (by simpa using hj.symm)
   ·cases hj
  ·rename_i cj;exact .inr ⟨j,hj,fun e=>cj e.symm⟩
 refine⟨h.ext.then k V6,?_,?_,?_,?_⟩
 ·intro f hf;rcases ib f hf with rfl | ⟨j,hj,cj⟩
  ·exact hh
  ·have hm:=List.mem_of_getElem? hj;exact h.loc f hm w w' (fun b hb=>k.block b (h.may f hm b hb).2 fun ht=>other j f hj cj b hb (hT b ht)) (h.each f hm)
 ·intro f hf;rcases ib f hf with rfl | ⟨j,hj,cj⟩
  ·exact hl
  ·exact h.loc f (List.mem_of_getElem? hj)
 ·intro f dH b hb;rcases ib f dH with rfl | ⟨j,hj,cj⟩
  ·rcases hf b hb with h1 | ⟨h1,h2⟩
   ·exact⟨(h.may e Jy b h1).1,Nat.lt_of_lt_of_le (h.may e Jy b h1).2 k.size⟩
   ·exact⟨.inr (Nat.le_trans h.ext.size h1),h2⟩
  ·have hm:=List.mem_of_getElem? hj;exact⟨(h.may f hm b hb).1,Nat.lt_of_lt_of_le (h.may f hm b hb).2 k.size⟩
 ·refine Py m4 h.apart fun j f hj cj b hb dk=>?_
  rcases hf b dk with h1 | ⟨h1,_⟩
  ·exact other j f hj cj b hb h1
  ·have:=(h.may f (List.mem_of_getElem? hj) b hb).2;omega
theorem St.made (h:St w0 S w H){e:bZ}(k:Ext No w w')(hl:e.Local)(hh:e.holds w')(hf:∀b∈e.aW,w.heap.size≤b∧b<w'.heap.size):St w0 S w' (H++[e]):=by
 refine(h.no k).add hl hh (fun b hb=>⟨.inr (Nat.le_trans h.ext.size (hf b hb).1),(hf b hb).2⟩) fun f dH b hb dk=>?_
 have h1:=(h.may f dH b hb).2;have h2:=(hf b dk).1;omega
theorem St.weaken (h:St w0 S w H){H':List bZ}(hs:H'.Sublist H):St w0 S w H' :=
 ⟨h.ext,fun e he=>h.each e (hs.subset he),fun e he=>h.loc e (hs.subset he),fun e he=>h.may e (hs.subset he),h.apart.sublist hs⟩
theorem St.ld (h:St w0 S w H)(i:Nat){b o:Nat}{t:TypeId}{cs:List Value}{v:Value}{k:Value→Prop}(hi:H[i]?=some (Ev.blk b t cs))(hv:cs[o]?=some v)(hk:k v):uU w b o k :=
 ⟨v,by rw[(h.blk i hi).cell];exact hv,hk⟩
theorem St.la (h:St w0 S w H)(i:Nat){b o n:Nat}{t:TypeId}{cs l:List Value}{k:Value→Prop}(hi:H[i]?=some (Ev.blk b t cs))(hn:l.length=n)(hl:(cs.drop o).take l.length=l)(hk:k (.agg l.toArray)):uf w b o n k :=
 ⟨l,hn,(h.blk i hi).cells hl,hk⟩
theorem St.cK (h:St w0 S w H){b o:Nat}{v:Value}{k:Value→Prop}(hc:w0.cell? ⟨b,o,none⟩=some v)(hs:¬S b)(hk:k v):uU w b o k:=⟨v,h.ext.cell hc hs,hk⟩
theorem St.mV (h:St w0 S w H){b o n:Nat}{l:List Value}{k:Value→Prop}(hn:l.length=n)(hc:aH w0 b o l)(hs:¬S b)(hk:k (.agg l.toArray)):uf w b o n k:=⟨l,hn,h.ext.cells hc hs,hk⟩
theorem St.st (h:St w0 S w H)(i:Nat){b o:Nat}{t:TypeId}{cs vs:List Value}{k:World→Prop}(hi:H[i]?=some (Ev.blk b t cs))(hle:o+vs.length≤cs.length)(h1:vs.all kG=true)
  (hk:∀w',St w0 S w' (H.set i (Ev.blk b t (over cs o vs)))→k w'):rL w b o vs k:=by
 have hb:=h.blk i hi;refine⟨t,cs,hb,hle,by simpa using h1,hk _ ?_⟩;exact h.upd i hi (T:=(· = b)) (Ext.set (S:=(· = b)) (b:=b) rfl t _) (fun c hc=>by simp[Ev.blk,hc]) (eh _ _ _) (AF hb.lt) (fun c hc=>.inl hc)
theorem St.ed (h:St w0 S w H)(n d:Nat):St w0 S (wgap w n d) H:=h.no (Ext.ed _ _ _ _)
theorem St.new (h:St w0 S w H){t:TypeId}{cs:List Value}{k:Value→World→Prop}(hk:∀b w',w0.heap.size≤b→St w0 S w' (H++[Ev.blk b t cs])→k (.pointer (some ⟨b,0,none⟩)) w'):mM w t cs k:=by
 refine⟨fun n d=>?_⟩;replace h:=h.ed n d;generalize wgap w n d=w at h;refine hk _ _ h.ext.size (h.made (Ext.push _ _ _ _) (eh _ _ _) (show(w.heap.push _)[w.heap.size]?=_ by rw[Array.getElem?_push,if_pos rfl]) ?_);intro b hb;obtain rfl:b=w.heap.size:=by simpa[Ev.blk]using hb
 simp[gA]
theorem St.drew (h:St w0 S w H):St w0 S { w with drawn:=w.drawn+1 } H:=h.no (Ext.drawn _ _ _)
theorem St.bU (h:St w0 S w H)(i:Nat){b o:Nat}{t:TypeId}{cs:List Value}{v:Value}{k:Value→Prop}(hi:H[i]?=some (Ev.blk b t cs))(hv:cs[o]?=some v)(hT:¬T b)(hk:k v):rI (Ext T w) b o k :=
 ⟨v,fun w' f8=>by rw[(f8.blk (h.blk i hi) hT).cell];exact hv,hk⟩
theorem St.xy (h:St w0 S w H)(i:Nat){b o n:Nat}{t:TypeId}{cs l:List Value}{k:Value→Prop}(hi:H[i]?=some (Ev.blk b t cs))(hn:l.length=n)(hl:(cs.drop o).take l.length=l)(hT:¬T b)(hk:k (.agg l.toArray)):wD (Ext T w) b o n k :=
 ⟨l,hn,fun w' f8=>(f8.blk (h.blk i hi) hT).cells hl,hk⟩
theorem St.cV (h:St w0 S w H){b o:Nat}{v:Value}{k:Value→Prop}(hc:w0.cell? ⟨b,o,none⟩=some v)(hs:¬S b)(hT:¬T b)(hk:k v):rI (Ext T w) b o k:=⟨v,fun w' f8=>f8.cell (h.ext.cell hc hs) hT,hk⟩
theorem St.DU (h:St w0 S w H){b o n:Nat}{l:List Value}{k:Value→Prop}(hn:l.length=n)(hc:aH w0 b o l)(hs:¬S b)(hT:¬T b)(hk:k (.agg l.toArray)):wD (Ext T w) b o n k:=⟨l,hn,fun w' f8=>f8.cells (h.ext.cells hc hs) hT,hk⟩
end
theorem bC.to {kK:List Value}(h:bC w b t cs)(e:cs=kK):bC w b t kK:=e ▸ h
theorem ir (hτ:cO P τ)(hm:P.follows .mixedOrders=true){ops:Array Oper}{Q:cr→World→Prop}(late:List Nat)(T:Nat→Prop)(order:List Nat)
  (bR:(Region.noSelect ops&&Nat.beq order.length ops.size&&vU ops late order (Array.replicate ops.size false))=true)
  (h:∀w1,w1={ w with drawn:=w.drawn+1 }→BI P τ N ops late (Ext T w1) order Q σ w1):ek P τ N ops Q σ w :=
 UU hτ hm late (fun w1 w'=>Ext T w1 w') order bR (Ext.refl _ _) (by have:=h _ rfl;rwa [K4]at this)
theorem UT (hτ:cO P τ)(hm:P.follows .mixedOrders=true){ops:Array Oper}{Q:cr→World→Prop}(late:List Nat)(T:Nat→Prop)(order:List Nat)(_:order.length=ops.size)
  (bR:(Region.noSelect ops&&Nat.beq order.length ops.size&&vU ops late order (Array.replicate ops.size false))=true)
  (h:∀w1,w1={ w with drawn:=w.drawn+1 }→BI P τ N ops late (Ext T w1) order Q σ w1):ek P τ N ops Q σ w:=ir hτ hm late T order bR h
section
variable {w0:World}  {H:List bZ}
theorem St.keep (h:St w0 S w H)(n:Nat):St w0 S w (H.take n):=h.weaken (List.take_sublist n H)
theorem Ext.oz {row:Option Nat}(h:w.grownBy w' row):Ext (fun b=>row=some b) w w':=⟨h.os,h.tape,h.output,h.size,fun k hk hs=>h.block k hk fun e=>hs e.symm⟩
def own (e:TypeId)(size:Nat)(v:Value)(n:Nat)(xs:List Value):bZ:=⟨v.ownBlock.toList,fun w=>w.ownsRow 0 e size v n xs⟩
theorem Ez (e:TypeId)(size:Nat)(v:Value)(n:Nat)(xs:List Value):(own e size v n xs).Local:=by
 intro w w' h hh;obtain⟨h1,h2 | ⟨g,cap,cur,rfl,h3,h4,h5⟩⟩:=hh
 ·exact⟨h1,.inl h2⟩
 ·exact⟨h1,.inr ⟨g,cap,cur,rfl,h3,(h g (by simp[own,Value.ownBlock])).trans h4,h5⟩⟩
theorem sf (e:TypeId)(size:Nat)(w:World):(own e size (.slice none 0 0) 0 []).holds w:=⟨by simp,.inl ⟨rfl,rfl⟩⟩
theorem zsx (w:World)(e:TypeId)(cs:List Value):w.alloc (.cells cs.toArray e)=gA w e cs:=rfl
def BV (sz:Nat):List Value→List (Nat × Value)→Option (List Value)
 | z,[]=>some z
 | z,(i,v)::r=>match Nat.beq (cM v).length sz,Nat.ble (i*sz+sz) z.length with
  | true,true=>BV sz (over z (i*sz) (cM v)) r
  | _,_=>none
theorem TJ:∀(parts:List (Nat × Value)) (z cs:List Value),BV sz z parts=some cs→Instr.fill (fun i=>some (i*sz,sz)) z.toArray parts=some cs.toArray
 | [],z,cs,h=>by
  simp only[BV,Option.some.injEq]at h;subst h;rfl
 | (i,v)::r,z,cs,h=>by
  unfold BV at h;split at h
  ·rename_i h1 h2;have hsz:=Nat.eq_of_beq_eq_true h1;have hle:=Nat.le_of_ble_eq_true h2;have ih:=TJ r _ cs h;have e1:v.cells.size=sz:=by rw[←hsz,uG];simp
   have e3:v.cells.zipIdx.foldl (fun(cs:Array Value) (x:Value × Nat)=>cs.setIfInBounds (i*sz+x.2) x.1) z.toArray=(over z (i*sz) (cM v)).toArray:=by
    have:=SN (cM v) z (i*sz) 0 zo;rw[←Array.foldl_toList];simpa[uG]using this
   unfold Instr.fill;simp only[];rw[if_neg (by simp only[List.size_toArray];rw[e1];simp;omega),←ih];congr 1
  ·cases h
def HS (z:Value)(n:Nat):List Value:=(List.range n).map fun i=>(cM z)[i % (cM z).length]!
theorem Th (z:Value)(n:Nat):(Array.range n).map (z.cells[· % z.cells.size]!)=(HS z n).toArray:=by
 apply Array.ext';simp[HS,uG];intro k _;rw[getElem!_def];cases z.cells[k % z.cells.size]?<;>rfl
theorem St.lit (h:St w0 S w H){t e:TypeId}{len sz:Nat}{z:Value}{parts:Array (Nat × Value)}{cs:List Value}{k:Value→World→Prop}
  (hu:P.underlying t=some (.slice e)) (hs:(P.info? e).map (·.size)=some sz) (hz:(P.info? e).bind (·.zero)=some z) (fi:Nat.ble (len*sz) (2 ^ 24)=true) (gQ:Nat.beq (len*sz) 0=false)
  (hf:BV sz (HS z (len*sz)) parts.toList=some cs)
  (hk:∀b w',w0.heap.size≤b→St w0 S w' (H++[Ev.blk b e cs])→k (.slice (some ⟨b,0,none⟩) len len) w'):dy P (Instr.buildSlice t len parts) w k:=by
 obtain⟨ie,h1,h2⟩:=Option.map_eq_some_iff.1 hs;obtain⟨Kj,h3,h4⟩:=Option.bind_eq_some_iff.1 hz;obtain rfl:=Option.some.inj (h1.symm.trans h3);subst h2;refine .kR (OW _ _ _) fun gn gd=>?_
 replace h:=h.ed gn gd;generalize wgap w gn gd=w at h;refine⟨_,_,run_buildSlice w t e len parts cs.toArray ie z hu h1 h4 (by have:=Nat.le_of_ble_eq_true fi;omega) (Nat.ne_of_beq_eq_false gQ) (by rw[Th];exact TJ _ _ _ hf),?_⟩;rw[zsx];refine hk _ _ h.ext.size (h.made (Ext.push _ _ _ _) (eh _ _ _) (show(w.heap.push _)[w.heap.size]?=_ by rw[Array.getElem?_push,if_pos rfl]) ?_);intro b hb;obtain rfl:b=w.heap.size:=by simpa[Ev.blk]using hb
 simp[gA]
end
inductive Pr where
 | int (n:Int)
 | bool (b:Bool)
 | str (s:ByteArray)
 deriving DecidableEq
inductive PK where
 | int|bool|str
 deriving DecidableEq
def Pr.k:Pr→PK
 | .int _=>.int
 | .bool _=>.bool
 | .str _=>.str
def Pr.v:Pr→Value
 | .int n=>.int .i64 n
 | .bool b=>.bool b
 | .str s=>.string s
def wc (P:Program)(rec_:TypeId→Option (List PK)):List Field→Nat→Option (List PK)
 | [],_=>some []
 | f :: r, off => match f.name != "_" && f.offset == off && (P.info? f.type).isSome && (P.underlying f.type).isSome with
  | false=>none
  | true=>match rec_ f.type with
   | none=>none
   | some k=>match P.cellsOf f.type == k.length&&(iv P f.type||k.length == 1) with
    | false=>none
    | true=>(wc P rec_ r (off+k.length)).map (k++·)
def qI (P:Program):Nat→TypeId→Option (List PK)
 | 0,_=>none
 | d+1,t=>match P.underlying t with
  | some (.int .i64)=>some [.int]
  | some .bool=>some [.bool]
  | some .string=>some [.str]
  | some (.struct fs)=>match P.stoodInHeld t with
   | true=>none
   | false=>wc P (qI P d) fs.toList 0
  | _=>none
theorem Vb (a b:ByteArray):(a == b)=decide (a=b):=by
 obtain⟨x⟩:=a;obtain⟨y⟩:=b;show(x == y)=_;by_cases h:x=y<;>simp[h]
section
def mX (P:Program)(t:TypeId)(l:List Pr):Value:=match iv P t with
 | true=>.agg (l.map Pr.v).toArray
 | false=>(l.map Pr.v).headD undef
theorem r8 {l:List Pr}{k:PK}(h:l.map Pr.k=[k]):∃p,l=[p]∧p.k=k:=by
 match l,h with
 | [p],h=>exact⟨p,rfl,by simpa using h⟩
theorem Hm {l:List Pr}{off:Nat}(hi:(P.info? t).isSome=true)(hd:∃d,P.underlying t=some d)(hn:P.cellsOf t=n)(h1:iv P t=false→n=1)(hle:off+n≤l.length)(w:World) :
  (part t (l.map Pr.v).toArray off).run P w=.ok (mX P t ((l.drop off).take n)) w:=by
 unfold mX;cases hg:iv P t with
 | true =>
  rw[LK hi hd hn (by simpa using hle) hg w];simp
 | false =>
  have:=h1 hg;subst this;have aQ:off<l.length:=by omega
  have e:l.drop off=l[off]::l.drop (off+1):=by rw[List.drop_eq_getElem_cons aQ]
  rw[Lp (v:=l[off].v) hd (by simp[aQ]) hg w,e];rfl
theorem zqu {rec_:TypeId→Option (List PK)}{D:Nat}(IH:∀(t:TypeId) (ks:List PK) (a b:List Pr),rec_ t=some ks→a.map Pr.k=ks→b.map Pr.k=ks→∀w,(Op.equalIn D t (mX P t a) (mX P t b)).run P w=.ok (decide (a=b)) w) :
  ∀(fs:List Field) (off:Nat) (ks:List PK) (a b:List Pr),wc P rec_ fs off=some ks→((a.drop off).take ks.length).map Pr.k=ks→((b.drop off).take ks.length).map Pr.k=ks→off+ks.length≤a.length→off+ks.length≤b.length →
  ∀w,(Op.eqFields D (a.map Pr.v).toArray (b.map Pr.v).toArray fs).run P w=.ok (decide ((a.drop off).take ks.length=(b.drop off).take ks.length)) w:=by
 intro fs
 induction fs with
 | nil =>
  intro off ks a b h ha hb la lb w;simp only[wc,Option.some.injEq]at h;subst h;simp[Op.eqFields]
 | cons f r ih =>
  intro off ks a b h ha hb la lb w;unfold wc at h;split at h
  ·cases h
  ·rename_i hc;simp only[Bool.and_eq_true,bne_iff_ne,ne_eq,beq_iff_eq]at hc;obtain⟨⟨⟨hn,rfl⟩,hi⟩,hu⟩:=hc;have jZ:=Option.isSome_iff_exists.1 hu;split at h
   ·cases h
   ·rename_i k hk;split at h
    ·cases h
    ·rename_i fZ;simp only[Bool.and_eq_true,Bool.or_eq_true,beq_iff_eq]at fZ;obtain⟨fZ,tF⟩:=fZ;have aG:iv P f.type=false→k.length=1:=fun hg=>tF.resolve_left (by simp[hg])
     obtain⟨pO,hr,rfl⟩:=Option.map_eq_some_iff.1 h;simp only[List.length_append]at la lb ha hb ⊢
     have sp:∀(l:List Pr) (i m n:Nat),(l.drop i).take (m+n)=(l.drop i).take m++(l.drop (i+m)).take n:=by
      intro l i m n;rw[List.take_add,List.drop_drop]
     rw[sp,List.map_append]at ha hb;have ea:=List.append_inj ha (by simp;omega);have eb:=List.append_inj hb (by simp;omega);have pa:=Hm (P:=P) (t:=f.type) (l:=a) (off:=f.offset) hi jZ fZ aG zo;have pb:=Hm (P:=P) (t:=f.type) (l:=b) (off:=f.offset) hi jZ fZ aG zo;have he:=IH f.type k ((a.drop f.offset).take k.length) ((b.drop f.offset).take k.length) hk ea.1 eb.1;have Du:=ih (f.offset+k.length) pO a b hr ea.2 eb.2 zo zo;rw[Op.eqFields,if_pos hn];simp only[Sem.run_bind,pa,pb,Result.andThen_ok,he];rw[sp,sp];by_cases h:(a.drop f.offset).take k.length=(b.drop f.offset).take k.length
     ·simp only[h,decide_true,Bool.not_true,Bool.false_eq_true,if_false,Du,List.append_cancel_left_eq]
     ·have cj:¬((a.drop f.offset).take k.length++(a.drop (f.offset+k.length)).take pO.length=(b.drop f.offset).take k.length++(b.drop (f.offset+k.length)).take pO.length):=by
       intro e;exact h (List.append_inj e (by simp;omega)).1
      simp[h,cj]
theorem MB:∀(d:Nat) (t:TypeId) (ks:List PK) (D:Nat) (a b:List Pr),qI P d t=some ks→d≤D→a.map Pr.k=ks→b.map Pr.k=ks→∀w,(Op.equalIn D t (mX P t a) (mX P t b)).run P w=.ok (decide (a=b)) w:=by
 intro d
 induction d with
 | zero=>intro t ks D a b h;simp[qI]at h
 | succ d ih =>
  intro t ks D a b h hD ha hb w;obtain⟨D,rfl⟩:∃D',D=D'+1:=⟨D-1,by omega⟩;unfold qI at h;split at h
  ·rename_i hu;simp only[Option.some.injEq]at h;subst h;obtain⟨p,rfl,hp⟩:=r8 ha;obtain⟨q,rfl,hq⟩:=r8 hb;cases p<;>simp[Pr.k]at hp;cases q<;>simp[Pr.k]at hq;rename_i x y;have hg:iv P t=false:=by simp[iv,hu]
   simp only[mX,hg,List.map_cons,List.map_nil,List.headD_cons,Pr.v];have e:(Op.equalIn (D+1) t (.int .i64 x) (.int .i64 y)).run P w=.ok (x == y) w:=by simp[Op.equalIn,underlying,hu]
   rw[e];congr 1;by_cases h:x=y<;>simp[h]
  ·rename_i hu;simp only[Option.some.injEq]at h;subst h;obtain⟨p,rfl,hp⟩:=r8 ha;obtain⟨q,rfl,hq⟩:=r8 hb;cases p<;>simp[Pr.k]at hp;cases q<;>simp[Pr.k]at hq;rename_i x y;have hg:iv P t=false:=by simp[iv,hu]
   simp only[mX,hg,List.map_cons,List.map_nil,List.headD_cons,Pr.v];have e:(Op.equalIn (D+1) t (.bool x) (.bool y)).run P w=.ok (x == y) w:=by simp[Op.equalIn,underlying,hu]
   rw[e];congr 1;by_cases h:x=y<;>simp[h]
  ·rename_i hu;simp only[Option.some.injEq]at h;subst h;obtain⟨p,rfl,hp⟩:=r8 ha;obtain⟨q,rfl,hq⟩:=r8 hb;cases p<;>simp[Pr.k]at hp;cases q<;>simp[Pr.k]at hq;rename_i x y;have hg:iv P t=false:=by simp[iv,hu]
   simp only[mX,hg,List.map_cons,List.map_nil,List.headD_cons,Pr.v];have e:(Op.equalIn (D+1) t (.string x) (.string y)).run P w=.ok (x == y) w:=by simp[Op.equalIn,underlying,hu]
   rw[e,Vb];congr 1;by_cases h:x=y<;>simp[h]
  ·rename_i fs hu;split at h
   ·cases h
   ·rename_i aX;have hg:iv P t=true:=by simp[iv,hu]
    have hf:P.fieldsOf t=fs:=by simp[Program.fieldsOf,hu]
    have:=zqu (P:=P) (D:=D) (fun t ks a b h ha hb=>ih t ks D a b h zo ha hb) fs.toList 0 ks a b h (by rw[List.drop_zero,List.map_take,ha,List.take_length]) (by rw[List.drop_zero,List.map_take,hb,List.take_length]) (by rw[←ha];simp) (by rw[←hb];simp) w;simp only[mX,hg];rw[run_equalIn_struct w D t _ _ (by rw[hf];exact hu) aX,hf,this];congr 2;have la:a.length=ks.length:=by rw[←ha];simp
    have lb:b.length=ks.length:=by rw[←hb];simp
    rw[List.drop_zero,List.drop_zero,←la,List.take_length,la,←lb,List.take_length]
  ·cases h
def bL (P:Program){α:Type}:Sem α→Prop
 | .pure _=>True
 | .program k=>bL P (k P)
 | .halt _=>True
 | _=>False
theorem bL.plain:∀{s:Sem α},bL P s→Plain P s
 | .pure _,_=>trivial
 | .program k,h=>bL.plain (s:=k P) h
 | .halt _,_=>trivial
theorem bL.bind:∀{s:Sem α} {f:α→Sem β},bL P s→(∀v,(∀w,s.run P w=.ok v w)→bL P (f v))→bL P (s.bind f)
 | .pure a,f,_,hf=>hf a fun _=>rfl
 | .program k,f,h,hf=>bL.bind (s:=k P) h hf
 | .halt _,_,_,_=>trivial
theorem xL {s:Sem α}{f:α→Sem β}(h:bL P s)(hf:∀v,(∀w,s.run P w=.ok v w)→bL P (f v)):bL P (s >>= f):=bL.bind h hf
theorem P4 {s:Sem α}{f:α→Sem β}{v:α}(h:bL P s)(hr:∀w,s.run P w=.ok v w)(hf:bL P (f v)):bL P (s >>= f):=xL h fun v' hv=>by
 have:=(hr default).symm.trans (hv default);injection this with e
 exact e ▸ hf
theorem Yz (t:TypeId):bL P (underlying t):=by
 show bL P (match P.underlying t with | some d => (pure d : Sem TypeDesc) | none => stuck "no such type")
 split<;>trivial
theorem Y6 (t:TypeId):bL P (typeInfo t):=by
 show bL P (match P.info? t with | some d => (pure d : Sem TypeInfo) | none => stuck "no such type")
 split<;>trivial
theorem Pj (t:TypeId)(cs:Array Value)(o:Nat):bL P (part t cs o):=by
 unfold part;refine xL (xL (Yz t) fun d _=>by cases d<;>trivial) fun b _=>?_
 split
 ·exact xL (xL (Y6 t) fun _ _=>trivial) fun _ _=>trivial
 ·split<;>trivial
theorem Gb {d:TypeDesc}  {f:TypeDesc→Sem β}(h:P.underlying t=some d)(hf:bL P (f d)):bL P (underlying t >>= f):=by
 show bL P ((match P.underlying t with | some d => (pure d : Sem TypeDesc) | none => stuck "no such type") >>= f)
 rw[h];exact hf
theorem YJ:∀(d:Nat) (t:TypeId) (ks:List PK) (D:Nat) (a b:List Pr),qI P d t=some ks→d≤D→a.map Pr.k=ks→b.map Pr.k=ks→bL P (Op.equalIn D t (mX P t a) (mX P t b)):=by
 intro d
 induction d with
 | zero=>intro t ks D a b h;simp[qI]at h
 | succ d ih =>
  intro t ks D a b h hD ha hb;obtain⟨D,rfl⟩:∃D',D=D'+1:=⟨D-1,by omega⟩;unfold qI at h;split at h
  ·rename_i hu;simp only[Option.some.injEq]at h;subst h;obtain⟨p,rfl,hp⟩:=r8 ha;obtain⟨q,rfl,hq⟩:=r8 hb;cases p<;>simp[Pr.k]at hp;cases q<;>simp[Pr.k]at hq;have hg:iv P t=false:=by simp[iv,hu]
   simp only[mX,hg,List.map_cons,List.map_nil,List.headD_cons,Pr.v];unfold Op.equalIn;exact Gb hu trivial
  ·rename_i hu;simp only[Option.some.injEq]at h;subst h;obtain⟨p,rfl,hp⟩:=r8 ha;obtain⟨q,rfl,hq⟩:=r8 hb;cases p<;>simp[Pr.k]at hp;cases q<;>simp[Pr.k]at hq;have hg:iv P t=false:=by simp[iv,hu]
   simp only[mX,hg,List.map_cons,List.map_nil,List.headD_cons,Pr.v];unfold Op.equalIn;exact Gb hu trivial
  ·rename_i hu;simp only[Option.some.injEq]at h;subst h;obtain⟨p,rfl,hp⟩:=r8 ha;obtain⟨q,rfl,hq⟩:=r8 hb;cases p<;>simp[Pr.k]at hp;cases q<;>simp[Pr.k]at hq;have hg:iv P t=false:=by simp[iv,hu]
   simp only[mX,hg,List.map_cons,List.map_nil,List.headD_cons,Pr.v];unfold Op.equalIn;exact Gb hu trivial
  ·rename_i fs hu;split at h
   ·cases h
   ·rename_i aX;have hg:iv P t=true:=by simp[iv,hu]
    simp only[mX,hg];unfold Op.equalIn;refine Gb hu ?_;show bL P (if P.stoodInHeld t=true then _ else _);rw[if_neg (by simp[aX])];rw[←Array.forIn_toList];refine xL ?_ fun s _=>?_
    ·have la:a.length=ks.length:=by rw[←ha];simp
     have lb:b.length=ks.length:=by rw[←hb];simp
     have ha':((a.drop 0).take ks.length).map Pr.k=ks:=by rw[List.drop_zero,←la,List.take_length];exact ha
     have dk:((b.drop 0).take ks.length).map Pr.k=ks:=by rw[List.drop_zero,←lb,List.take_length];exact hb
     have XA:0+ks.length≤a.length:=by omega
     have XC:0+ks.length≤b.length:=by omega
     clear la lb ha hb hu aX;generalize fs.toList=l at h ⊢;revert h ha' dk XA XC;generalize 0=off;clear hg
     induction l generalizing off ks with
     | nil=>intros;trivial
     | cons f r Xy =>
      intro ha hb la lb h;unfold wc at h;split at h
      ·cases h
      ·rename_i hc;simp only[Bool.and_eq_true,bne_iff_ne,ne_eq,beq_iff_eq]at hc;obtain⟨⟨⟨hn,rfl⟩,hi⟩,hu⟩:=hc;have jZ:=Option.isSome_iff_exists.1 hu;split at h
       ·cases h
       ·rename_i k hk;split at h
        ·cases h
        ·rename_i fZ;simp only[Bool.and_eq_true,Bool.or_eq_true,beq_iff_eq]at fZ;obtain⟨fZ,tF⟩:=fZ;have aG:iv P f.type=false→k.length=1:=fun hg=>tF.resolve_left (by simp[hg])
         obtain⟨pO,hr,rfl⟩:=Option.map_eq_some_iff.1 h;simp only[List.length_append]at la lb ha hb
         have sp:∀(l:List Pr) (i m n:Nat),(l.drop i).take (m+n)=(l.drop i).take m++(l.drop (i+m)).take n:=by
          intro l i m n;rw[List.take_add,List.drop_drop]
         rw[sp,List.map_append]at ha hb;have ea:=List.append_inj ha (by simp;omega);have eb:=List.append_inj hb (by simp;omega);have pa:=Hm (P:=P) (t:=f.type) (l:=a) (off:=f.offset) hi jZ fZ aG zo;have pb:=Hm (P:=P) (t:=f.type) (l:=b) (off:=f.offset) hi jZ fZ aG zo;have he:=ih f.type k D ((a.drop f.offset).take k.length) ((b.drop f.offset).take k.length) hk zo ea.1 eb.1;rw[List.forIn_cons];refine xL ?_ fun st aX=>?_
         ·rw[if_pos hn];refine P4 (Pj _ _ _) pa (P4 (Pj _ _ _) pb (xL he fun e _=>?_));cases e<;>trivial
         ·have kj:=aX default;rw[if_pos hn]at kj;simp only[Sem.run_bind,pa,pb,Result.andThen_ok]at kj;have hq:=MB d f.type k D ((a.drop f.offset).take k.length) ((b.drop f.offset).take k.length) hk zo ea.1 eb.1 default;rw[hq]at kj;simp only[Result.andThen_ok]at kj;generalize decide (List.take k.length (List.drop f.offset a)=List.take k.length (List.drop f.offset b))=e at kj;cases e
          ·simp at kj;subst kj;trivial
          ·simp at kj;subst kj;exact Xy pO _ ea.2 eb.2 zo zo hr
    ·rcases s with⟨_|_,_⟩<;>trivial
  ·cases h
theorem QK {ks:List PK}{a b:List Pr}(h:qI P 50 t=some ks)(hs:iv P t=true)(hg:P.eqGuardType P.depth t=false)(ha:a.map Pr.k=ks)(hb:b.map Pr.k=ks) :
  Plain P (do eqGuard .eql t (.tmp 0) (.tmp 0) (.agg (a.map Pr.v).toArray) (.agg (b.map Pr.v).toArray);Go.binOp .eql t (.agg (a.map Pr.v).toArray) (.agg (b.map Pr.v).toArray):Sem Value)∧Plain P (do eqGuard .neq t (.tmp 0) (.tmp 0) (.agg (a.map Pr.v).toArray) (.agg (b.map Pr.v).toArray);Go.binOp .neq t (.agg (a.map Pr.v).toArray) (.agg (b.map Pr.v).toArray):Sem Value):=by
 have e:=(YJ 50 t ks 10000 a b h zd ha hb).plain;simp only[mX,hs]at e
 have e1:∀op,(op=.eql∨op=.neq)→Plain P (eqGuard op t (.tmp 0) (.tmp 0) (.agg (a.map Pr.v).toArray) (.agg (b.map Pr.v).toArray)):=fun op ho=>by
  have key:Plain P (if (!P.eqGuardType P.depth t)=true then (pure ():Sem Unit) else do
   if ← Op.eqGuardIn Op.maxDepth t (.agg (a.map Pr.v).toArray) (.agg (b.map Pr.v).toArray) then unsupported (.noEntry "binop/eql: two nil values of an interface type with methods, in a part of a struct or an array")) := by
   rw[hg];trivial
  rcases ho with rfl|rfl<;>exact key
 exact⟨af (e1 _ (.inl rfl)) fun _=>xR e,af (e1 _ (.inr rfl)) fun _=>AM e⟩
theorem Vv {ks:List PK}{a b:List Pr}{k:Value→Prop}(h:qI P 50 t=some ks)(hs:iv P t=true)(hg:P.eqGuardType P.depth t=false)(ha:a.map Pr.k=ks)(hb:b.map Pr.k=ks)(hk:k (.bool (decide (a=b)))) :
  aB P (do eqGuard .eql t (.tmp 0) (.tmp 0) (.agg (a.map Pr.v).toArray) (.agg (b.map Pr.v).toArray);Go.binOp .eql t (.agg (a.map Pr.v).toArray) (.agg (b.map Pr.v).toArray)) k:=by
 refine aB.of (fun w=>?_) hk (QK h hs hg ha hb).1;have e:=MB 50 t ks 10000 a b h zd ha hb w;simp only[mX,hs]at e
 have e1:(eqGuard .eql t (.tmp 0) (.tmp 0) (.agg (a.map Pr.v).toArray) (.agg (b.map Pr.v).toArray)).run P w=.ok () w:=by
  simp[eqGuard,run_program,hg,Sem.run_bind]
 rw[Sem.run_bind,e1,Result.andThen_ok];show(do pure (.bool (←Op.equal t _ _)):Sem Value).run P w=_;rw[Sem.run_bind];show(Result.andThen ((Op.equalIn 10000 t _ _).run P w) _)=_;rw[e];rfl
theorem XL {ks:List PK}{a b:List Pr}{k:Value→Prop}(h:qI P 50 t=some ks)(hs:iv P t=true)(hg:P.eqGuardType P.depth t=false)(ha:a.map Pr.k=ks)(hb:b.map Pr.k=ks)(hk:k (.bool (!decide (a=b)))) :
  aB P (do eqGuard .neq t (.tmp 0) (.tmp 0) (.agg (a.map Pr.v).toArray) (.agg (b.map Pr.v).toArray);Go.binOp .neq t (.agg (a.map Pr.v).toArray) (.agg (b.map Pr.v).toArray)) k:=by
 refine aB.of (fun w=>?_) hk (QK h hs hg ha hb).2;have e:=MB 50 t ks 10000 a b h zd ha hb w;simp only[mX,hs]at e
 have e1:(eqGuard .neq t (.tmp 0) (.tmp 0) (.agg (a.map Pr.v).toArray) (.agg (b.map Pr.v).toArray)).run P w=.ok () w:=by
  simp[eqGuard,run_program,hg,Sem.run_bind]
 rw[Sem.run_bind,e1,Result.andThen_ok];show(do pure (.bool (!(←Op.equal t _ _))):Sem Value).run P w=_;rw[Sem.run_bind];show(Result.andThen ((Op.equalIn 10000 t _ _).run P w) _)=_;rw[e];rfl
theorem zzu {a b:ByteArray}{k:Value→Prop}(hk:k (.bool (decide (a=b)))):aB P (Go.binOp .eql t (.string a) (.string b)) k:=by
 refine aB.of (fun w=>?_) hk;rw[←Vb,beq_toListBytes];rfl
end
open Go.ChangeShapes Go.WideShapes Go.ChangeAt Go.RowKit
def p8 (P:Program)(w:World):Nat→TypeId→List Value→Prop
 | 0,_,_=>True
 | d+1,t,cs=>match P.underlying t with
  | some .bool=>∃b,cs=[.bool b]
  | some (.int k)=>∃n,cs=[.int k n]∧(Lit.int k n).wf=true
  | some .string=>∃s:ByteArray,cs=[.string s]∧s.size≤maxLen
  | some (.slice e)=>cs=[.slice none 0 0]∨∃a n c,cs=[.slice (some a) n c]∧n≤c∧c≤maxLen ∧
    ∀i,i<n→∃l:List Value,l.length=P.cellsOf e∧(∀j v,l[j]?=some v→w.cell? ((a.add (i*P.cellsOf e)).add j)=some v)∧p8 P w d e l
  | some (.struct fs)=>cs.length=P.cellsOf t∧∀(i:Nat) (f:Field),fs[i]?=some f→p8 P w d f.type ((cs.drop f.offset).take (P.cellsOf f.type))
  | _=>True
theorem Mm {enc:TypeId × Value→H}   {sp:Nat→Bool}{held:Bool}:∀(d:Nat) (fuel:Nat) (t:TypeId) (cs:List Value) (x:DataW H × List MemPlace),DataW.trod enc P w 0 sp held fuel t cs=some x→p8 P w d t cs
 | 0,_,_,_,_,_=>trivial
 | d+1,fuel,t,cs,x,h=>by
  unfold p8;split
  ·rename_i hu;obtain⟨b,hb,_⟩:=DataW.trod_bool hu h;exact⟨b,hb⟩
  ·rename_i hu;obtain⟨n,hn,_,hw⟩:=DataW.trod_int hu h;exact⟨n,hn,hw⟩
  ·rename_i hu;obtain⟨s,hs,_,hw⟩:=DataW.trod_string hu h;exact⟨s,hs,hw⟩
  ·rename_i e hu;rcases Go.Deep.open_slice hu h with⟨fZ,_⟩|⟨a,len,cap,m,n,D,Pl,fZ,_,hl,hm,De,_,hi⟩
   ·exact .inl fZ
   ·refine .inr ⟨a,len,cap,fZ,hl,hm,fun i Wy=>?_⟩;obtain⟨kK,hc,ht⟩:=hi i (by rw[De];split<;>omega);obtain⟨_,hlen,sR⟩:=World.cells?_some hc;refine⟨kK,hlen,fun j v hj=>?_,Mm d _ _ _ _ ht⟩;rw[sR j (by have:=(List.getElem?_eq_some_iff.1 hj).1;omega)];exact hj
  ·rename_i fs hu;obtain⟨xs,n,_,_,hlen,z5,hf⟩:=DataW.trod_struct hu h;refine⟨hlen,fun i f hi=>?_⟩;have h1:=hf i f hi;have Jq:i<xs.length:=by rw[z5];exact(Array.getElem?_eq_some_iff.1 hi).1
   rw[List.getElem?_eq_getElem Jq]at h1;exact Mm d _ _ _ _ h1
  ·trivial
structure bQ {α:Type}(w:World)(sz:Nat)(enc:α→List Value)(G:α→Prop)(a:Option Addr)(n:Nat)(xs:List α):Prop where
 len:xs.length=n
 max:n≤9223372036854775807
 cells:∀k x,xs[k]?=some x→∃b o,a=some ⟨b,o,none⟩∧b<w.heap.size∧aH w b (o+k*sz) (enc x)
 lg:∀x∈xs,G x
def Dec (P:Program)(w:World)(d:Nat)(t:TypeId)(enc:α→List Value)(G:α→Prop):Prop:=∀cs,p8 P w d t cs→∃x,cs=enc x∧G x
theorem MC {p:Nat→α→Prop}:∀n,(∀i,i<n→∃x,p i x)→∃xs:List α,xs.length=n∧∀i x,xs[i]?=some x→p i x
 | 0,_=>⟨[],rfl,by simp⟩
 | n+1,h=>by
  obtain⟨xs,hl,hx⟩:=MC n fun i hi=>h i zo
  obtain⟨y,hy⟩:=h n zo;refine⟨xs++[y],by simp[hl],fun i x hi=>?_⟩;rw[List.getElem?_append]at hi;split at hi
  ·exact hx i x hi
  ·rename_i tq
   have:i=n:=by
    have:=(List.getElem?_eq_some_iff.1 hi).1;simp at this;omega
   subst this;simp[hl]at hi;subst hi;exact hy
theorem PS (a:Addr)(h:a.spot=none)(i j:Nat):(a.add i).add j=⟨a.block,a.off+i+j,none⟩:=by
 obtain⟨b,o,s⟩:=a;simp only at h;subst h;rw[oZ,oZ]
theorem Up {e:TypeId}  {enc:α→List Value}(hu:P.underlying t=some (.slice e))(hc:P.cellsOf e=sz)(hsz:0<sz)(hd:Dec P w d e enc G)
  {a:Option Addr} {n c:Nat} (h:p8 P w (d+1) t [.slice a n c]):∃xs,bQ w sz enc G a n xs∧n≤c:=by
 unfold p8 at h;rw[hu]at h;simp only at h;rcases h with h | ⟨a',n',c',h,ux,hm,hi⟩
 ·simp only[List.cons.injEq,Value.slice.injEq,and_true]at h;obtain⟨rfl,rfl,rfl⟩:=h;exact⟨[],⟨rfl,by omega,by simp,by simp⟩,Nat.le_refl _⟩
 ·simp only[List.cons.injEq,Value.slice.injEq,and_true]at h;obtain⟨rfl,rfl,rfl⟩:=h
  have key:∀i,i<n→∃x,(∃b o,some a'=some ⟨b,o,none⟩∧b<w.heap.size∧aH w b (o+i*sz) (enc x))∧G x:=by
   intro i Jq;obtain⟨l,hl,cA,hs⟩:=hi i Jq;obtain⟨x,rfl,hg⟩:=hd l hs;rw[hc]at hl cA;have h0:∃v,(enc x)[0]?=some v:=⟨_,List.getElem?_eq_getElem zo⟩;obtain⟨v,hv⟩:=h0;have j4:=cA 0 v hv
   have ql:a'.spot=none:=by
    obtain⟨l0,xd,yN,_⟩:=hi 0 zo;rw[hc]at xd;have h1:=World.cell?_spot (yN 0 _ (List.getElem?_eq_getElem zo));simpa[Addr.add]using h1
   refine⟨x,⟨a'.block,a'.off,?_,?_,fun j u hj=>?_⟩,hg⟩
   ·obtain⟨b,o,s⟩:=a';simp only at ql;subst ql;rfl
   ·have:=sd j4;rw[PS _ ql]at this;exact this
   ·have:=cA j u hj
    rwa [PS _ ql]at this
  obtain⟨xs,hl,hx⟩:=MC n key;refine⟨xs,⟨hl,by unfold maxLen at hm;omega,fun k x hk=>(hx k x hk).1,fun x aU=>?_⟩,ux⟩;obtain⟨k,hk⟩:=List.mem_iff_getElem?.1 aU;exact(hx k x hk).2
theorem Ty (hu:P.underlying t=some (.int .i64)):Dec P w (d+1) t (fun x:Int=>[.int .i64 x]) (fun x=>-9223372036854775808≤x∧x≤9223372036854775807):=by
 intro cs h;unfold p8 at h;rw[hu]at h;obtain⟨n,rfl,hw⟩:=h;refine⟨n,rfl,?_⟩;have h1:IntKind.i64.min = -9223372036854775808:=rfl;have h2:IntKind.i64.max=9223372036854775807:=rfl;simp only[Lit.wf,Bool.and_eq_true,decide_eq_true_eq]at hw;omega
theorem bQ.mono {enc:α→List Value}{G':α→Prop}{a:Option Addr}  {xs:List α}(h:bQ w sz enc G a n xs)(hg:∀x,G x→G' x):bQ w sz enc G' a n xs:=⟨h.len,h.max,h.cells,fun x hx=>hg x (h.lg x hx)⟩
theorem QX {enc:TypeId × Value→H}(hl:laidOutB P=true){W W':World}(hb:Below W.heap.size W W'):∀(ts:List TypeId) (vs:List Value) (ds:List (DataW H)) (ps:List MemPlace),
  (ts.all fun t=>P.readableRec t&&decide (t<P.types.size))=true→DataW.TrodAll enc P W 0 (fun _=>true) true ts vs ds ps→(∀x∈ps,x.block<W.heap.size)→DataW.TrodAll enc P W' 0 (fun b=>decide (b<W.heap.size)) true ts vs ds ps
 | [],vs,ds,ps,_,h,_=>by
  cases vs<;>cases ds<;>simp_all[DataW.TrodAll]
 | t::ts,vs,ds,ps,hr,h,aQ=>by
  obtain⟨v,Ar,d,Ft,p,q,rfl,rfl,rfl,h1,h2⟩:=trodAll_cons h;simp only[List.all_cons,Bool.and_eq_true,decide_eq_true_eq]at hr;exact⟨p,q,Below.trod hl hr.1.1 hr.1.2 h1 hb (fun x hx=>aQ x (List.mem_append_left _ hx)),QX hl hb ts Ar Ft q hr.2 h2 (fun x hx=>aQ x (List.mem_append_right _ hx)),rfl⟩
theorem Ext.below (h:Ext No w w'):Below w.heap.size w w':=⟨h.os,h.tape,h.output,h.size,fun k hk=>h.block k hk fun h=>h⟩
def HW (P:Program)(W:World)(t:TypeId)(v:Value):Prop:=(∃base,Value.okWide P W .any base t v)∧∀d,p8 P W d t v.cells.toList
theorem Ri {e:TypeId}{v:Value}  {enc:α→List Value}(hu:P.underlying t=some (.slice e))(hc:P.cellsOf e=sz)(hsz:0<sz)(hd:Dec P W d e enc G)(h:HW P W t v) :
  ∃a n c xs,v=.slice a n c∧bQ W sz enc G a n xs∧n≤c:=by
 obtain⟨⟨base,h1⟩,h2⟩:=h;obtain⟨a,n,c,rfl⟩:=okWide_slice hu h1;obtain⟨xs,hx,hn⟩:=Up (n:=n) (c:=c) hu hc hsz hd (h2 (d+1));exact⟨a,n,c,xs,rfl,hx,hn⟩
theorem zvS {v:Value}(hu:P.underlying t=some (.int .i64))(h:HW P W t v):∃x:Int,v=.int .i64 x∧-9223372036854775808≤x∧x≤9223372036854775807:=by
 obtain⟨⟨base,h1⟩,h2⟩:=h;obtain⟨n,rfl⟩:=okWide_int hu h1;obtain⟨x,hx,hg⟩:=Ty (d:=0) hu _ (h2 1);simp[Value.cells]at hx;subst hx;exact⟨n,rfl,hg⟩
def gp (P:Program)(W:World):List TypeId→List Value→Prop
 | [],[]=>True
 | t::ts,v::vs=>HW P W t v∧gp P W ts vs
 | _,_=>False
theorem gp.cons {ts:List TypeId}{vs:List Value}(h:gp P W (t::ts) vs):∃v Ar,vs=v::Ar∧HW P W t v∧gp P W ts Ar:=by
 cases vs with
 | nil=>exact h.elim
 | cons v vs=>exact⟨v,vs,rfl,h.1,h.2⟩
theorem gp.nil {vs:List Value}(h:gp P W [] vs):vs=[]:=by
 cases vs with
 | nil=>rfl
 | cons v vs=>exact h.elim
theorem Rj {enc:TypeId × Value→H}   {base:Nat}{sp:Nat→Bool}{held:Bool}:∀(ts:List TypeId) (vs:List Value) (ds:List (DataW H)) (ps:List MemPlace),
  (∀(j:Nat) t v,ts[j]?=some t→vs[j]?=some v→Value.okWide P W .any base t v)→DataW.TrodAll enc P W 0 sp held ts vs ds ps→gp P W ts vs
 | [],vs,ds,ps,_,h=>by
  cases vs<;>cases ds<;>simp_all[DataW.TrodAll,gp]
 | t::ts,vs,ds,ps,hv,h=>by
  obtain⟨v,Ar,d,Ft,p,q,rfl,rfl,rfl,h1,h2⟩:=trodAll_cons h;obtain⟨fuel,hf⟩:=h1;exact⟨⟨⟨base,hv 0 t v rfl rfl⟩,fun d=>Mm d _ _ _ _ hf⟩,Rj ts Ar Ft q (fun j t' v' ht Oy=>hv (j+1) t' v' ht Oy) h2⟩
end Ev
namespace Ev
open Gap
variable [Gap.Leaps]
variable {α:Type}{H:List bZ}{cs vs:List Value}{N b n o sz:Nat}{S T:Nat→Prop}{P:Program}{v:Value}{w w' w0:World}{enc:α→List Value}
structure cR {α:Type}(sz:Nat)(enc:α→List Value):Prop where
 len:∀x,(enc x).length=sz
 one:∀x,(enc x).all kG=true
 pos:0<sz
section
theorem gU (C:cR sz enc)(xs:List α):(xs.flatMap enc).length=xs.length*sz:=by
 induction xs with
 | nil=>simp
 | cons x xs ih=>rw[List.flatMap_cons,List.length_append,ih,C.len,List.length_cons];rw[Nat.succ_mul];omega
theorem AH (C:cR sz enc)(xs:List α):(xs.flatMap enc).all kG=true:=by
 induction xs with
 | nil=>rfl
 | cons x xs ih=>rw[List.flatMap_cons,List.all_append,ih,C.one];rfl
theorem Eo (C:cR sz enc):∀{xs:List α} {k:Nat} {x:α},xs[k]?=some x→xs.flatMap enc=(xs.take k).flatMap enc++(enc x++(xs.drop (k+1)).flatMap enc)∧((xs.take k).flatMap enc).length=k*sz
 | [],_,_,h=>by simp at h
 | y::xs,0,x,h=>by
  simp only[List.getElem?_cons_zero,Option.some.injEq]at h;subst h;simp
 | y::xs,k+1,x,h=>by
  simp only[List.getElem?_cons_succ]at h;obtain⟨h1,h2⟩:=Eo C h;constructor
  ·rw[List.flatMap_cons,List.take_succ_cons,List.flatMap_cons,List.drop_succ_cons,List.append_assoc,←h1]
  ·rw[List.take_succ_cons,List.flatMap_cons,List.length_append,h2,C.len,Nat.succ_mul];omega
theorem AG (C:cR sz enc){xs:List α}{k j:Nat}{x:α}{v:Value}(hx:xs[k]?=some x)(hv:(enc x)[j]?=some v):(xs.flatMap enc)[k*sz+j]?=some v:=by
 obtain⟨h1,h2⟩:=Eo C hx;have hj:=(List.getElem?_eq_some_iff.1 hv).1;rw[h1,List.getElem?_append_right zo,h2,Nat.add_sub_cancel_left,List.getElem?_append_left hj];exact hv
theorem zsY (C:cR sz enc){xs:List α}{k j n:Nat}{x:α}(hx:xs[k]?=some x)(hn:j+n≤sz):((xs.flatMap enc).drop (k*sz+j)).take n=((enc x).drop j).take n:=by
 obtain⟨h1,h2⟩:=Eo C hx;have hl:=C.len x;rw[h1,List.drop_append,h2,Nat.add_sub_cancel_left,List.drop_eq_nil_of_le zo,List.nil_append,List.drop_append,List.take_append_of_le_length (by simp;omega)]
theorem AL (A B D vs:List Value)(j:Nat)(h:j+vs.length≤B.length):over (A++(B++D)) (A.length+j) vs=A++(over B j vs++D):=by
 unfold over;rw[List.take_append,List.drop_append,List.take_of_length_le zo,Nat.add_sub_cancel_left,List.drop_eq_nil_of_le zo,List.take_append_of_le_length zo,List.nil_append];rw[show A.length+j+vs.length-A.length=j+vs.length by omega,List.drop_append_of_le_length h];simp
theorem Eu (C:cR sz enc){xs:List α}{k j:Nat}{x y:α}{vs:List Value}(hx:xs[k]?=some x)(hn:j+vs.length≤sz)(hy:over (enc x) j vs=enc y):over (xs.flatMap enc) (k*sz+j) vs=(xs.set k y).flatMap enc:=by
 obtain⟨h1,h2⟩:=Eo C hx;have hl:=C.len x;have aQ:=(List.getElem?_eq_some_iff.1 hx).1;rw[h1,←h2,AL _ _ _ _ _ zo,hy];have J9:(xs.set k y)[k]?=some y:=by rw[List.getElem?_set_self aQ]
 rw[(Eo C J9).1,List.take_set_of_le zo,List.drop_set_of_lt zo]
theorem K8 (h:vs.length=cs.length):over cs 0 vs=vs:=by
 unfold over;rw[List.drop_eq_nil_of_le zo];simp
theorem Lo (p:Value)(cs vs:List Value)(o:Nat):over (p::cs) (o+1) vs=p::over cs o vs:=by
 unfold over;rw[List.take_succ_cons,show o+1+vs.length=(o+vs.length)+1 by omega,List.drop_succ_cons];rfl
variable {G:α→Prop}   {a:Option Addr}  {xs:List α}
theorem bQ.ext (h:bQ w sz enc G a n xs)(hx:Ext S w w')(hS:∀b o,a=some ⟨b,o,none⟩→¬S b):bQ w' sz enc G a n xs :=
 ⟨h.len,h.max,fun k x hk=>by
  obtain⟨b,o,ha,hb,hc⟩:=h.cells k x hk;exact⟨b,o,ha,Nat.lt_of_lt_of_le hb hx.size,hx.cells hc (hS b o ha)⟩,h.lg⟩
theorem bQ.no (h:bQ w sz enc G a n xs)(hx:Ext No w w'):bQ w' sz enc G a n xs:=h.ext hx fun _ _ _ h=>h
theorem bQ.at (h:bQ w sz enc G a n xs){k:Nat}(hk:k<n):∃b o x,xs[k]?=some x∧G x∧a=some ⟨b,o,none⟩∧b<w.heap.size∧aH w b (o+k*sz) (enc x):=by
 have aQ:k<xs.length:=by rw[h.len];exact hk
 obtain⟨b,o,ha,hb,hc⟩:=h.cells k _ (List.getElem?_eq_getElem aQ);exact⟨b,o,_,List.getElem?_eq_getElem aQ,h.lg _ (List.getElem_mem aQ),ha,hb,hc⟩
theorem aH.one {l:List Value}(h:aH w b o l)(j:Nat){v:Value}(hv:l[j]?=some v):w.cell? ⟨b,o+j,none⟩=some v:=h j v hv
theorem aH.sub {l:List Value}(h:aH w b o l)(j:Nat){l':List Value}(hl:(l.drop j).take l'.length=l'):aH w b (o+j) l':=fun i v hi=>by
 rw[Nat.add_assoc];refine h (j+i) v ?_;have aQ:=(List.getElem?_eq_some_iff.1 hi).1;rw[←hl,List.getElem?_take_of_lt aQ,List.getElem?_drop]at hi;exact hi
theorem bQ.ox (C:cR sz enc)(hl:xs.length=n)(hm:n≤9223372036854775807)(hg:∀x∈xs,G x)(hc:∀(j:Nat) v,(xs.flatMap enc)[j]?=some v→∃b o,a=some ⟨b,o,none⟩∧w.cell? ⟨b,o+j,none⟩=some v):bQ w sz enc G a n xs :=
 ⟨hl,hm,fun k x hk=>by
  have hp:=C.pos;have Oo:=C.len x;obtain⟨v0,xn⟩:∃v,(enc x)[0]?=some v:=⟨_,List.getElem?_eq_getElem zo⟩;obtain⟨b,o,ha,j4⟩:=hc _ _ (AG C hk xn);refine⟨b,o,ha,sd j4,fun j v hj=>?_⟩;obtain⟨b',o',ha',Bd⟩:=hc _ _ (AG C hk hj);rw[ha]at ha';simp only[Option.some.injEq,Addr.mk.injEq,and_true]at ha';obtain⟨rfl,rfl⟩:=ha';rw[Nat.add_assoc];exact Bd,hg⟩
theorem bQ.bG (C:cR sz enc){t:TypeId}{cs:List Value}(h:bC w b t cs)(hl:xs.length=n)(hm:n≤9223372036854775807)(hg:∀x∈xs,G x)(hs:(cs.drop o).take (xs.length*sz)=xs.flatMap enc):bQ w sz enc G (some ⟨b,o,none⟩) n xs :=
 bQ.ox C hl hm hg fun j v hj=>⟨b,o,rfl,by
  have aQ:=(List.getElem?_eq_some_iff.1 hj).1;rw[gU C]at aQ;rw[h.cell,←List.getElem?_drop,←List.getElem?_take_of_lt aQ,hs];exact hj⟩
def az (e:TypeId)(sz:Nat)(enc:α→List Value)(v:Value)(xs:List α):bZ:=own e sz v xs.length (xs.flatMap enc)
theorem fq {e:TypeId}:(az e sz enc v xs).Local:=Ez _ _ _ _ _
theorem fE (C:cR sz enc){e:TypeId}{c:Nat}(h:(az e sz enc (.slice a n c) xs).holds w)(hg:∀x∈xs,G x):bQ w sz enc G a n xs:=by
 obtain⟨h1,⟨h2,h3⟩|⟨g,cap,cur,h2,h3,h4,h5,h6,h7,h8⟩⟩:=h
 ·cases h2;have hx:xs=[]:=List.eq_nil_of_length_eq_zero h3;subst hx;exact⟨rfl,by decide,by simp,by simp⟩
 ·cases h2;refine bQ.ox C rfl (by unfold maxLen at h6;omega) hg fun j v hj=>⟨g,0,rfl,?_⟩
  have aQ:=(List.getElem?_eq_some_iff.1 hj).1;rw[gU C]at aQ;rw[←h8,List.getElem?_take_of_lt zo]at hj;simp only[World.cell?,h4,Nat.zero_add];simpa using hj
end
section
theorem ZZ (h:kG v=true):v.oneCell'=true:=by cases v<;>simp_all[kG,Value.oneCell']
theorem X8 (h:St w0 S w H){i:Nat}{e:TypeId}{size:Nat}{v v':Value}{n n':Nat}{xs xs':List Value}(hi:H[i]?=some (own e size v n xs))(ho:w'.ownsRow 0 e size v' n' xs')(hg:w.grownBy w' v.ownBlock)(hb:v'.ownBlock=v.ownBlock∨v'.ownBlock=some w.heap.size) :
  St w0 S w' (H.set i (own e size v' n' xs')):=by
 refine h.upd i hi (Ext.oz hg) (fun q hq=>by simp[own,hq]) (Ez _ _ _ _ _) ho ?_;intro q hq;have hq:v'.ownBlock=some q:=by simpa[own]using hq
 rcases hb with hb|hb
 ·left;simp only[own];rw[←hb,hq];simp
 ·right
  rw[hb]at hq;simp only[Option.some.injEq]at hq;subst hq;refine⟨Nat.le_refl _,?_⟩;obtain⟨_,⟨h6,_⟩|⟨g,cap,cur,h6,_,h7,_⟩⟩:=ho
  ·rw[h6]at hb;simp[Value.ownBlock]at hb
  ·rw[h6]at hb;simp only[Value.ownBlock,Option.some.injEq]at hb;subst hb;exact(Array.getElem?_eq_some_iff.1 h7).1
theorem St.d8 (h:St w0 S w H)(C:cR sz enc)(i:Nat){t e:TypeId}{bytes:Nat}{z v:Value}{a:Option Addr}{m c:Nat}{G:α→Prop}{xs ys:List α}{k:Value→World→Prop}
  (hu:P.underlying t=some (.slice e)) (hs:(P.info? e).map (fun i=>(i.size,i.bytes))=some (sz,bytes)) (hz:(P.info? e).bind (·.zero)=some z) (qn:Nat.beq z.cells.size sz=true)
  (hi:H[i]?=some (az e sz enc v xs)) (hy:bQ w sz enc G a m ys) (yD:xs.length+m≤maxLen) (pz:(xs.length+m)*bytes≤140737488355328)
  (hk:∀a' c' w',St w0 S w' (H.set i (az e sz enc (.slice a' (xs.length+m) c') (xs++ys)))→k (.slice a' (xs.length+m) c') w') :
  dy P (Builtin.append_ #[t,t] 0 #[v,.slice a m c]) w k:=by
 refine .kR (fA _ _ _) fun gn gd=>?_
 replace h:=h.ed gn gd;replace hy:=hy.no (Ext.ed _ _ gn gd);generalize wgap w gn gd=w at h hy;obtain⟨ie,IA,h2⟩:=Option.map_eq_some_iff.1 hs;obtain⟨Kj,h3,h4⟩:=Option.bind_eq_some_iff.1 hz;obtain rfl:=Option.some.inj (IA.symm.trans h3);simp only[Prod.mk.injEq]at h2;have hlen:=hy.len;have hen:xs.length+m=(xs++ys).length:=by simp[hlen]
 have hef:(xs++ys).flatMap enc=xs.flatMap enc++ys.flatMap enc:=by simp
 have form:∀(v':Value) (w':World),w'.ownsRow 0 e sz v' (xs.length+m) (xs.flatMap enc++ys.flatMap enc)→∃a' c',v'=.slice a' (xs.length+m) c':=by
  rintro v' w' ⟨_,⟨h6,h7⟩|⟨g,cap,cur,h6,_⟩⟩
  ·exact⟨none,0,by rw[h6,h7]⟩
  ·exact⟨_,_,h6⟩
 cases a with
 | none =>
  have hm:ys=[]:=by
   cases ys with
   | nil=>rfl
   | cons y ys=>obtain⟨b,o,ha,_⟩:=hy.cells 0 y rfl;cases ha
  subst hm;have hm:m=0:=by simpa using hlen.symm
  subst hm;have ho:=h.get i hi;obtain⟨a',c',hv⟩:=form v w (by simpa[az,own]using ho);subst hv
  have hle:xs.length≤c':=by
   obtain⟨_,⟨h6,h7⟩|⟨g,cap,cur,h6,_,_,h8,_⟩⟩:=ho
   ·simp only[Value.slice.injEq]at h6;omega
   ·simp only[Value.slice.injEq]at h6;omega
  refine⟨.slice a' (xs.length+0) c',w,?_,hk a' c' w ?_⟩
  ·refine run_append_nothing w t t 0 e ie hu IA a' (xs.length+0) c' hle (.slice none 0 c) ⟨.inl ⟨_,hu⟩,fun w'=>rfl,rfl,rfl,by simp,by simp⟩
  ·have:H.set i (az e sz enc (.slice a' (xs.length+0) c') (xs++[]))=H:=by
    rw[List.append_nil];obtain⟨hl,he⟩:=List.getElem?_eq_some_iff.1 hi;apply List.ext_getElem?;intro j;rw[List.getElem?_set];split
    ·rename_i CP;subst CP;simp[hl,he]
    ·rfl
   rw[this];exact h
 | some a =>
  have Xg:∀j u,(ys.flatMap enc)[j]?=some u→w.cell? (a.add j)=some u:=by
   intro j u hj;have aQ:=(List.getElem?_eq_some_iff.1 hj).1;rw[gU C]at aQ;have hk:j / sz<ys.length:=by rw[Nat.div_lt_iff_lt_mul C.pos];exact aQ
   obtain⟨b,o,ha,_,hc⟩:=hy.cells (j / sz) _ (List.getElem?_eq_getElem hk);simp only[Option.some.injEq]at ha;subst ha;rw[oZ];have e1:j=j / sz*sz+j % sz:=by rw[Nat.mul_comm];exact(Nat.div_add_mod j sz).symm
   have l7:j % sz<(enc ys[j / sz]).length:=by rw[C.len];exact Nat.mod_lt _ C.pos
   have h5:=AG C (List.getElem?_eq_getElem hk) (List.getElem?_eq_getElem l7);rw[←e1,hj]at h5;simp only[Option.some.injEq]at h5;have:=hc (j % sz) u (by rw[List.getElem?_eq_getElem l7,h5]);rw[Nat.add_assoc,←e1]at this;exact this
  obtain⟨v',w',hr,ho,hg,Di,hb⟩:=run_append_own_at (P:=P) w 0 t 0 e ie z sz bytes hu IA h4 h2.1 h2.2 (Nat.eq_of_beq_eq_true qn) C.pos v xs.length (xs.flatMap enc) (h.get i hi) a m c (ys.flatMap enc) (by rw[gU C,hlen])
   Xg (fun u hu=>ZZ (List.all_eq_true.1 (AH C ys) u hu)) yD pz (Nat.zero_le _)
  obtain⟨a',c',rfl⟩:=form v' w' ho;refine⟨_,_,hr,hk a' c' w' ?_⟩;have:=X8 h hi ho hg hb;simpa[az,hlen]using this
theorem St.vE (h:St w0 S w H){t e:TypeId}{sz:Nat}{k:Value→World→Prop}
  (hu:P.underlying t=some (.slice e)) (hs:(P.info? e).map (·.size)=some sz)
  (hk:∀b w',St w0 S w' (H++[own e sz (.slice (some ⟨b,0,none⟩) 0 0) 0 []])→k (.slice (some ⟨b,0,none⟩) 0 0) w'):dy P (Instr.buildSlice t 0 #[]) w k:=by
 obtain⟨ie,h1,h2⟩:=Option.map_eq_some_iff.1 hs;refine .kR (OW _ _ _) fun gn gd=>?_
 replace h:=h.ed gn gd;generalize wgap w gn gd=w at h;refine⟨.slice (some ⟨w.heap.size,0,none⟩) 0 0,gA w e [],?_,hk w.heap.size (gA w e []) ?_⟩
 ·simp[Instr.buildSlice,underlying,hu,sizeOf,typeInfo,h1,Instr.fill,newRow,newObj,Sem.run,gA];rw[show Array.range 0 = #[] from by simp];simp
 ·refine h.made (Ext.push _ _ _ _) (Ez _ _ _ _ _) ⟨by simp,.inr ⟨w.heap.size,0,#[],rfl,Nat.zero_le _,?_,Nat.le_refl _,Nat.zero_le _,by simp,by simp⟩⟩ ?_
  ·show(w.heap.push _)[w.heap.size]?=_;rw[Array.getElem?_push,if_pos rfl]
  ·intro q hq;obtain rfl:q=w.heap.size:=by simpa[own,Value.ownBlock]using hq
   simp[gA]
theorem vR (h:o+vs.length≤cs.length):(over cs o vs).length=cs.length:=by
 simp only[over,List.length_append,List.length_take,List.length_drop];omega
theorem zrd (h:o+vs.length≤n)(hn:n≤cs.length):(over cs o vs).take n=over (cs.take n) o vs:=by
 have e:=AL [] (cs.take n) (cs.drop n) vs o (by rw[List.length_take];omega);simp only[List.nil_append,List.length_nil,Nat.zero_add,List.take_append_drop]at e;have hl:(over (cs.take n) o vs).length=n:=by rw[vR (by rw[List.length_take];omega),List.length_take];omega
 rw[e,List.take_append_of_le_length zo,List.take_of_length_le zo]
theorem St.xB (h:St w0 S w H)(i:Nat){e:TypeId}{size n o b:Nat}{n' c:Nat}{xs vs:List Value}{k:World→Prop}(hi:H[i]?=some (own e size (.slice (some ⟨b,0,none⟩) n' c) n xs))(hle:o+vs.length≤xs.length)(h1:vs.all kG=true)
  (hk:∀w',St w0 S w' (H.set i (own e size (.slice (some ⟨b,0,none⟩) n' c) n (over xs o vs)))→k w'):rL w b o vs k:=by
 obtain⟨h2,⟨h3,_⟩|⟨g,cap,cur,h3,h4,h5,h6,h7,h8,h9⟩⟩:=h.get i hi
 ·cases h3
 cases h3;have il:n*size≤cur.size:=by rw[h8];exact Nat.mul_le_mul_right _ h6
 have hb:bC w b e cur.toList:=by simpa[bC]using h5
 have hx:xs.length=n*size:=h2;refine⟨e,cur.toList,hb,by simp;omega,by simpa using h1,hk _ (h.upd i hi (T:=(· = b)) (Ext.set (S:=(· = b)) (b:=b) rfl e _) (fun q hq=>by simp[own,Value.ownBlock,hq]) (Ez _ _ _ _ _) ?_ fun q hq=>.inl hq)⟩
 have JJ:(over cur.toList o vs).length=cur.size:=by
  have hl:o+vs.length≤cur.size:=by omega
  simp only[over,List.length_append,List.length_take,List.length_drop,Array.length_toList];omega
 refine⟨by simp only[over,List.length_append,List.length_take,List.length_drop];omega,.inr ⟨b,c,(over cur.toList o vs).toArray,rfl,h4,?_,h6,h7,by rw[List.size_toArray,JJ,h8],?_⟩⟩
 ·have:=AF (t:=e) (cs:=over cur.toList o vs) hb.lt;exact this
 ·rw[List.toList_toArray,zrd zo (by simpa using il),h9]
end
section
variable {τ:Tab}{d:Nat}{σ:cr}  {ops rest:List Oper}{x y:Operand}  {ty:TypeId}{pos:String}{after:Array Edge}{Q:cr→World→Prop}
theorem Yf {k:cr→Prop}(h:Nat.blt d N=true)(hk:k ((d,v)::σ)):iT N (some d) v σ k:=by
 simp only[iT];rw[h];exact hk
theorem U3 (hx:ro σ x=some v)(hd:Nat.blt d N=true)(hk:kV P τ N ops Q rest ((d,v)::σ) w) :
  kV P τ N ops Q (⟨some d,.assign x,ty,pos,after,none⟩::rest) σ w:=by
 show qE P τ N ops ⟨some d,.assign x,ty,pos,after,none⟩ (kV P τ N ops Q rest) σ w;unfold qE;simp only[rA,pT,xW,rB,hx,iT,hd];exact hk
theorem U4 (hx:ro σ x=some v)(hd:Nat.blt d N=true)(hk:kV P τ N ops Q rest ((d,v)::σ) w) :
  kV P τ N ops Q (⟨some d,.move x,ty,pos,after,none⟩::rest) σ w:=by
 show qE P τ N ops ⟨some d,.move x,ty,pos,after,none⟩ (kV P τ N ops Q rest) σ w;unfold qE;simp only[rA,pT,xW,rB,hx,iT,hd];exact hk
theorem Yd {a:Addr}(hx:ro σ x=some (.pointer (some a)))(hd:Nat.blt d N=true)(hk:kV P τ N ops Q rest ((d,.pointer (some a))::σ) w) :
  kV P τ N ops Q (⟨some d,.nilCheck x,ty,pos,after,none⟩::rest) σ w:=by
 show qE P τ N ops ⟨some d,.nilCheck x,ty,pos,after,none⟩ (kV P τ N ops Q rest) σ w;unfold qE;simp only[rA,pT,xW,rB,hx,iT,hd];exact hk
theorem XS {t:Nat}{kd:TK}{z:List Value}(hx:ro σ x=some (.pointer (some ⟨b,o,none⟩)))(hy:ro σ y=some v)(ht:tl τ t=some ⟨n,kd,z⟩)(hn:Nat.beq (cM v).length n=true)(hk:rL w b o (cM v) fun w'=>kV P τ N ops Q rest σ w') :
  kV P τ N ops Q (⟨none,.store t x y,ty,pos,after,none⟩::rest) σ w:=by
 show qE P τ N ops ⟨none,.store t x y,ty,pos,after,none⟩ (kV P τ N ops Q rest) σ w;unfold qE;simp only[rA,pT,vX,hx,hy,ht,hn,iT];exact hk
theorem Yc {t:TypeId}(hx:ro σ x=some v)(hd:Nat.blt d N=true)(hk:mM w t (cM v) fun v w=>kV P τ N ops Q rest ((d,v)::σ) w) :
  kV P τ N ops Q (⟨some d,.box t x,ty,pos,after,none⟩::rest) σ w:=by
 show qE P τ N ops ⟨some d,.box t x,ty,pos,after,none⟩ (kV P τ N ops Q rest) σ w;unfold qE;simp only[rA,pT,vX,hx,iT,hd];exact hk
theorem Uo {t:TypeId}{parts:Array (Nat × Operand)}{ps:List (Nat × Value)}  {fs:List (Nat × Nat × Bool)}(ht:tl τ t=some ⟨n,.struct fs,[]⟩)(hp:∀k:List (Nat × Value)→Prop,k ps→BM σ parts.toList k)(hr:∀w,(Instr.build t ps.toArray).run P w=.ok v w)(hd:Nat.blt d N=true)(hk:kV P τ N ops Q rest ((d,v)::σ) w) :
  kV P τ N ops Q (⟨some d,.build t parts,ty,pos,after,none⟩::rest) σ w:=by
 show qE P τ N ops ⟨some d,.build t parts,ty,pos,after,none⟩ (kV P τ N ops Q rest) σ w;unfold qE;simp only[rA,pT,xW,rB,ht];refine hp _ ?_;refine aB.of hr ?_;exact Yf hd hk
theorem Nv (h:Q σ w):kV P τ N ops Q [] σ w:=h
theorem zzn {K:EV}{Q:EQ}(h:K Q σ w):B7 K Q .normal σ w:=h
theorem Nx {a b:Code}{Q:EQ}(h:oP P τ N a (B7 (oP P τ N b) Q) σ w):oP P τ N (.seq a b) Q σ w:=h
theorem Nw {id:Nat}{ops:Array Oper}{Q:EQ}(h:kV P τ N ops.toList (Q .normal) ops.toList σ w):oP P τ N (.region id ops false) Q σ w:=h
end
theorem St.oD (h:St w0 S w H)(i:Nat){b o:Nat}{t:TypeId}{cs vs:List Value}{k:World→Prop}(hi:H[i]?=some (Ev.blk b t cs))(hle:o+vs.length≤cs.length)(h1:vs.all kG=true)
  (hk:∀w',Ext (· = b) w w'→St w0 S w' (H.set i (Ev.blk b t (over cs o vs)))→k w'):rL w b o vs k:=by
 have hb:=h.blk i hi;have hx:Ext (· = b) w (jT w b t (over cs o vs)):=Ext.set (S:=(· = b)) (b:=b) rfl t _;exact⟨t,cs,hb,hle,by simpa using h1,hk _ hx (h.upd i hi (T:=(· = b)) hx (fun c hc=>by simp[Ev.blk,hc]) (eh _ _ _) (AF hb.lt) (fun c hc=>.inl hc))⟩
theorem RY (C:cR sz enc){t e:TypeId}{xs:List α}{k:Nat}{x:α}{i:Int}(hu:P.underlying t=some (.array xs.length e))(hi:(P.info? e).isSome=true)(hd:∃d,P.underlying e=some d)(hc:P.cellsOf e=sz)(hg:iv P e=true)(hx:xs[k]?=some x)(hk:i=(k:Int))(w:World) :
  (Instr.index t (.agg (xs.flatMap enc).toArray) (.int .i64 i)).run P w=.ok (.agg (enc x).toArray) w:=by
 subst hk;have aQ:=(List.getElem?_eq_some_iff.1 hx).1
 have hs:k*sz+sz≤(xs.flatMap enc).length:=by
  rw[gU C];have:(k+1)*sz≤xs.length*sz:=Nat.mul_le_mul_right _ aQ;rw[Nat.succ_mul]at this;exact this
 have h1:=LK (P:=P) (cs:=xs.flatMap enc) (off:=k*sz) hi hd hc hs hg w;have h2:=zsY C (j:=0) (n:=sz) hx zo;have h3:(enc x).take sz=enc x:=List.take_of_length_le (by rw[C.len];exact Nat.le_refl _);rw[Nat.add_zero,List.drop_zero,h3]at h2;rw[h2]at h1;have yV:=ny (P:=P) hi w;rw[hc]at yV;simp[Instr.index,underlying,hu,asIntOf,asAgg,yV,h1,aQ]
inductive OT where
 | fin
 | take (i:Nat) (r:OT)
 | alt (i:Nat) (r:OT) (more:OT)
def OT.ly:OT→List Nat
 | .alt i _ m=>i::m.ly
 | _=>[]
def qH (P:Program)(τ:Tab)(N:Nat)(ops:Array Oper)(late:List Nat)(S:World→Prop)(i:Nat)(K:cr→World→Prop)(σ:cr)(w:World):Prop :=
 match B6 ops.toList i with
 | some ⟨dst,op,_,_,_,g⟩=>rA N ops.toList g σ
   (fun σ=>match pT op with
    | true=>rB P τ σ op fun v=>iT N dst v σ fun σ=>K σ w
    | false=>match uO late i op with
     | true=>(match op with
      | .load t x=>match ro σ x,tl τ t with
       | some (.pointer (some ⟨b,o,none⟩)),some ⟨n,kd,_⟩=>(match kd.agg with
        | true=>wD S b o n fun v=>iT N dst v σ fun σ=>K σ w
        | false=>rI S b o fun v=>iT N dst v σ fun σ=>K σ w)
       | _,_=>False
      | _=>False)
     | false=>vX P τ σ op w fun v w=>ae (S w) (iT N dst v σ fun σ=>K σ w))
   (fun σ=>iT N dst undef σ fun σ=>K σ w)
 | none=>False
def nA (P:Program)(τ:Tab)(N:Nat)(ops:Array Oper)(late:List Nat)(S:World→Prop):OT→(cr→World→Prop)→cr→World→Prop
 | .fin,Q,σ,w=>Q σ w
 | .take i r,Q,σ,w=>qH P τ N ops late S i (fun σ w=>nA P τ N ops late S r Q σ w) σ w
 | .alt i r .fin,Q,σ,w=>qH P τ N ops late S i (fun σ w=>nA P τ N ops late S r Q σ w) σ w
 | .alt i r m,Q,σ,w=>qH P τ N ops late S i (fun σ w=>nA P τ N ops late S r Q σ w) σ w∧nA P τ N ops late S m Q σ w
def fl (ops:Array Oper)(late:List Nat)(i:Nat):Bool:=match ops[i]? with
 | some o=>uO late i o.op
 | none=>false
def pU (ops:Array Oper)(late:List Nat):OT→Nat→Bool→Array Bool→Bool
 | .fin,n,chain,listed=>chain||(Nat.beq n 0&&(Region.ready .any ops listed).isEmpty)
 | .take i r,n+1,chain,listed=>!chain&&fl ops late i&&Region.free .any ops listed i&&(Region.ready .any ops listed).contains i&&pU ops late r n false (listed.setIfInBounds i true)
 | .alt i r m,n+1,chain,listed=>(chain||Region.ready .any ops listed == i::m.ly)&&(ops[i]?).isSome&&!fl ops late i&&pU ops late r n false (listed.setIfInBounds i true)&&pU ops late m (n+1) true listed
 | _,0,_,_=>false
section
variable {τ:Tab}
theorem ztm (hτ:cO P τ){ops:Array Oper}{late:List Nat}{S:World→Prop}{R:Exit→Act→World→Prop}(hs:Region.noSelect ops=true){i fuel:Nat}{listed:Array Bool}{K:cr→World→Prop}{σ:cr}{a:Act}{w:World}
  (hf:Fits N σ a) (hS:S w) (h0:fl ops late i=true) (h1:Region.free .any ops listed i=true) (h2:(Region.ready .any ops listed).contains i=true) (h:qH P τ N ops late S i K σ w)
  (hK:∀σ a,Fits N σ a→K σ w→mm P ops R S fuel (listed.setIfInBounds i true) a w):mm P ops R S (fuel+1) listed a w:=by
 unfold qH at h;rw[MF]at h;cases ho:ops[i]? with
 | none =>
  have:ops.toList[i]?=none:=by simpa using ho
  rw[this]at h;exact h.elim
 | some o =>
  have zw:ops.toList[i]?=some o:=by simpa using ho
  rw[zw]at h;unfold fl at h0;rw[ho]at h0;obtain⟨dst,op,ty,pos,after,g⟩:=o;simp only at h h0
  have take:∀(v:Value),de P ops S ⟨dst,op,ty,pos,after,g⟩ v a→mm P ops R S fuel (listed.setIfInBounds i true) (a.put dst v) w→mm P ops R S (fuel+1) listed a w:=by
   intro v hy hgo;exact Rh (oi:=⟨dst,op,ty,pos,after,g⟩) ho hs h1 h2 hy hS hgo
  rcases Eh (o:=⟨dst,op,ty,pos,after,g⟩) hf h with⟨hw,σ',dH,h2⟩|⟨hw,σ',dH,h2⟩
  ·cases hp:pT op with
   | true =>
    rw[hp]at h2;have JM:=GL (o:=⟨dst,op,ty,pos,after,g⟩) hτ dH h2;obtain⟨v,hv,h3⟩:=GM (o:=⟨dst,op,ty,pos,after,g⟩) hτ dH h2;obtain⟨iz,dI,h4⟩:=oH dH h3;exact take v (.inl ⟨hw,fun w _=>.of JM (hv w) rfl rfl⟩) (hK iz _ dI h4)
   | false =>
    rw[hp]at h2;simp only at h2;rw[h0]at h2;simp only at h2;split at h2
    ·rename_i t x;split at h2
     ·rename_i b o n kd z hx ht
      have pN:∃v,(∀w,S w→(Instr.loadAt t (.pointer (some ⟨b,o,none⟩))).run P w=.ok v w)∧iT N dst v σ' fun σ=>K σ w:=by
       cases hk:kd.agg with
       | true =>
        rw[hk]at h2;obtain⟨l,hl,hc,hv⟩:=h2.ex;refine⟨_,fun w' f8=>?_,hv⟩;obtain⟨v,hr,hv⟩:=Bv (P:=P) (w:=w') (b:=b) (o:=o) (k:=fun v=>v=.agg l.toArray) hτ ht (by rw[hk];exact⟨l,hl,hc w' f8,rfl⟩);rw[hr,hv]
       | false =>
        rw[hk]at h2;obtain⟨v,hc,hv⟩:=h2.ex;refine⟨v,fun w' f8=>?_,hv⟩;obtain⟨u,hr,hu⟩:=Bv (P:=P) (w:=w') (b:=b) (o:=o) (k:=fun u=>u=v) hτ ht (by rw[hk];exact⟨v,hc w' f8,rfl⟩);rw[hr,hu]
      obtain⟨v,hv,h3⟩:=pN;obtain⟨iz,dI,h4⟩:=oH dH h3;refine take v (.inl ⟨hw,fun w' f8=>?_⟩) (hK iz _ dI h4);refine .of ?_ ?_ rfl rfl
      ·simp only[execOp];exact lV (KU _ _)
      ·simp only[execOp,dt dH hx];exact H4 (hv w' f8)
     ·exact h2.elim
    ·exact h2.elim
  ·obtain⟨iz,dI,h4⟩:=oH dH h2;exact take undef (.inr ⟨hw,rfl⟩) (hK iz _ dI h4)
theorem zww (hτ:cO P τ){ops:Array Oper}{late:List Nat}{S:World→Prop}{R:Exit→Act→World→Prop}{i fuel:Nat}{listed:Array Bool}{K:cr→World→Prop}{σ:cr}{a:Act}{w:World}
  (hf:Fits N σ a) (hS:S w) (h0:fl ops late i=false) (h:qH P τ N ops late S i K σ w)
  (hK:∀σ a w,Fits N σ a→S w→K σ w→mm P ops R S fuel (listed.setIfInBounds i true) a w):nG P ops i (fun a' w'=>S w'∧mm P ops R S fuel (listed.setIfInBounds i true) a' w') a w:=by
 unfold qH at h;rw[MF]at h;cases ho:ops[i]? with
 | none =>
  have:ops.toList[i]?=none:=by simpa using ho
  rw[this]at h;exact h.elim
 | some o =>
  have zw:ops.toList[i]?=some o:=by simpa using ho
  rw[zw]at h;unfold fl at h0;rw[ho]at h0;obtain⟨dst,op,ty,pos,after,g⟩:=o;simp only at h h0;unfold nG;rw[ho];rcases Eh (o:=⟨dst,op,ty,pos,after,g⟩) hf h with⟨hw,σ',dH,h2⟩|⟨hw,σ',dH,h2⟩
  ·cases hp:pT op with
   | true=>simp[uO,hp]at h0
   | false =>
    rw[hp]at h2;simp only at h2;rw[h0]at h2;simp only at h2;simp only[hw,if_true];refine EL ?_ (Gi (o:=⟨dst,op,ty,pos,after,g⟩) hτ dH h2);rintro a' w' ⟨v,rfl,h3⟩;obtain⟨iz,dI,h4⟩:=oH dH h3.go;exact⟨h3.keep,hK iz _ w' dI h3.keep h4⟩
  ·obtain⟨iz,dI,h4⟩:=oH dH h2;simp only[hw,Bool.false_eq_true,if_false];exact⟨hS,hK iz _ w dI hS h4⟩
theorem GQ (hτ:cO P τ){ops:Array Oper}{late:List Nat}{S:World→Prop}{Q:cr→World→Prop}{R:Exit→Act→World→Prop}(hs:Region.noSelect ops=true)(hQ:∀a w σ,Fits N σ a→Q σ w→R .normal a w) :
  ∀(tr:OT) (n:Nat) (listed:Array Bool) (σ:cr) (a:Act) (w:World),Fits N σ a→S w →
   (pU ops late tr n false listed=true→nA P τ N ops late S tr Q σ w→mm P ops R S n listed a w) ∧
   (∀m,n=m+1→pU ops late tr n true listed=true→(tr=.fin∨nA P τ N ops late S tr Q σ w)→∀i∈tr.ly,nG P ops i (fun a' w'=>S w'∧mm P ops R S m (listed.setIfInBounds i true) a' w') a w)
 | .fin,n,listed,σ,a,w,hf,hS=>by
  refine⟨fun bR h=>?_,fun m hm bR h i hi=>by cases hi⟩;cases n with
  | succ n=>simp[pU]at bR
  | zero =>
   simp only[pU,Bool.false_or,Bool.and_eq_true,List.isEmpty_iff]at bR;exact⟨bR.2,hQ a w σ hf h⟩
 | .take i r,n,listed,σ,a,w,hf,hS=>by
  cases n with
  | zero=>exact⟨fun bR=>by simp[pU]at bR,fun m hm=>by omega⟩
  | succ n =>
   refine⟨fun bR h=>?_,fun m hm bR=>by simp[pU]at bR⟩;simp only[pU,Bool.not_false,Bool.true_and,Bool.and_eq_true]at bR;obtain⟨⟨⟨h0,h1⟩,h2⟩,h3⟩:=bR;unfold nA at h;exact ztm hτ hs hf hS h0 h1 h2 h fun σ a hf hk=>(GQ hτ hs hQ r n _ σ a w hf hS).1 h3 hk
 | .alt i r m,n,listed,σ,a,w,hf,hS=>by
  cases n with
  | zero=>exact⟨fun bR=>by simp[pU]at bR,fun m hm=>by omega⟩
  | succ n =>
   have key:∀chain,pU ops late (.alt i r m) (n+1) chain listed=true→nA P τ N ops late S (.alt i r m) Q σ w→∀j∈(OT.alt i r m).ly,nG P ops j (fun a' w'=>S w'∧mm P ops R S n (listed.setIfInBounds j true) a' w') a w:=by
    intro chain bR h j hj;simp only[pU,Bool.and_eq_true,Bool.not_eq_true']at bR;obtain⟨⟨⟨⟨_,_⟩,h0⟩,h3⟩,h4⟩:=bR
    have hb:qH P τ N ops late S i (fun σ w=>nA P τ N ops late S r Q σ w) σ w∧(m=.fin∨nA P τ N ops late S m Q σ w):=by
     cases m with
     | fin=>unfold nA at h;exact⟨h,.inl rfl⟩
     | take i' r'=>unfold nA at h;exact⟨h.1,.inr h.2⟩
     | alt i' r' m'=>unfold nA at h;exact⟨h.1,.inr h.2⟩
    simp only[OT.ly,List.mem_cons]at hj;rcases hj with rfl|hj
    ·exact zww hτ hf hS h0 hb.1 fun σ a w hf hS hk=>(GQ hτ hs hQ r n _ σ a w hf hS).1 h3 hk
    ·exact(GQ hτ hs hQ m (n+1) listed σ a w hf hS).2 n rfl h4 hb.2 j hj
   refine⟨fun bR h=>?_,fun m' hm bR h=>?_⟩
   ·have hr:Region.ready .any ops listed=(OT.alt i r m).ly:=by
     simp only[pU,Bool.false_or,Bool.and_eq_true,beq_iff_eq]at bR;exact bR.1.1.1.1
    exact L0 hr (by simp[OT.ly]) (key false bR h)
   ·obtain rfl:n=m':=by omega
    rcases h with h|h
    ·cases h
    ·exact key true bR h
def BJ (P:Program)(τ:Tab)(N:Nat)(ops:Array Oper)(late:List Nat)(S:World→Prop)(Q:cr→World→Prop)(t:OT):cr→World→Prop :=
 OT.rec (motive:=fun _=>cr→World→Prop) Q (fun i _ ih=>qH P τ N ops late S i ih) (fun i _ m ih im σ w=>match m with | .fin=>qH P τ N ops late S i ih σ w|_=>qH P τ N ops late S i ih σ w∧im σ w) t
theorem GD (P:Program)(τ:Tab)(N:Nat)(ops:Array Oper)(late:List Nat)(S:World→Prop)(Q:cr→World→Prop):∀t:OT,BJ P τ N ops late S Q t=fun σ w=>nA P τ N ops late S t Q σ w
 | .fin=>by funext σ w;unfold nA;rfl
 | .take i r=>by
  have ih:=GD P τ N ops late S Q r;show qH P τ N ops late S i (BJ P τ N ops late S Q r)=_;rw[ih]
  funext σ w
  rw[nA]
 | .alt i r m=>by
  have ih:=GD P τ N ops late S Q r;have im:=GD P τ N ops late S Q m
  funext σ w
  show(match m with | .fin=>qH P τ N ops late S i (BJ P τ N ops late S Q r) σ w|_=>qH P τ N ops late S i (BJ P τ N ops late S Q r) σ w∧BJ P τ N ops late S Q m σ w)=_;rw[ih,im];cases m<;>rw[nA];all_goals intro h;cases h
theorem sj (hτ:cO P τ)(hm:P.follows .mixedOrders=true){σ:cr}{w:World}{ops:Array Oper}{Q:cr→World→Prop}(late:List Nat)(T:Nat→Prop)(tr:OT)
  (bR:(Region.noSelect ops&&pU ops late tr ops.size false (Array.replicate ops.size false))=true)
  (h:∀w1,w1={ w with drawn:=w.drawn+1 }→BJ P τ N ops late (Ext T w1) Q tr σ w1):ek P τ N ops Q σ w:=by
 replace h:∀w1,w1={ w with drawn:=w.drawn+1 }→nA P τ N ops late (Ext T w1) tr Q σ w1:=fun w1 h1=>by have:=h w1 h1;rwa [GD]at this
 simp only[Bool.and_eq_true]at bR;refine⟨fun id a hf=>?_⟩;refine O9 (S:=Ext T { w with drawn:=w.drawn+1 }) hm ?_;exact(GQ (R:=fun e a' w'=>e=.normal∧∃σ',Fits N σ' a'∧Q σ' w') hτ bR.1 (fun a w σ hf hq=>⟨rfl,σ,hf,hq⟩) tr _ _ σ a _ hf (Ext.refl _ _)).1 bR.2 (h _ rfl)
end
structure dD (M:cr→World→Prop)(σ:cr)(w:World):Prop where
 ex:∃σ',Sub σ' σ∧M σ' w
theorem ek.cut {τ:Tab}  {ops:Array Oper}{Q:cr→World→Prop}{σ:cr}(M:cr→World→Prop)(h:ek P τ N ops (dD M) σ w)(hQ:∀σ w,M σ w→Q σ w):ek P τ N ops Q σ w :=
 ⟨fun id a hf=>xM (h.go id a hf) fun e a' w' ⟨he,σ',dH,hm⟩=>by
  obtain⟨iz,hs,hm⟩:=hm.ex;exact⟨he,iz,dH.weaken hs.cB,hQ _ _ hm⟩⟩
section
variable {τ:Tab}  {σ σ':cr}  {Q:EQ}
end
theorem St.iS (h:St w0 S w H)(i:Nat){e e' f:bZ}(hi:H[i]?=some e)(k:Ext T w w')(hT:∀b,T b→b∈e.aW)(hl:e'.Local)(hh:e'.holds w')(hf:∀b∈e'.aW,b∈e.aW)(gl:f.Local)(gh:f.holds w')(gf:∀b∈f.aW,w.heap.size≤b∧b<w'.heap.size):St w0 S w' (H.set i e'++[f]):=by
 refine(h.upd i hi k hT hl hh fun b hb=>.inl (hf b hb)).add gl gh (fun b hb=>⟨.inr (Nat.le_trans h.ext.size (gf b hb).1),(gf b hb).2⟩) ?_;intro q hq b hb dk
 have lt:b<w.heap.size:=by
  rcases List.mem_or_eq_of_mem_set hq with hq|rfl
  ·exact(h.may q hq b hb).2
  ·exact(h.may e (List.mem_of_getElem? hi) b (hf b hb)).2
 have:=(gf b dk).1;omega
open Go.WideShapes
theorem Bt:∀a b:bZ,(∀x∈a.aW,x ∉ b.aW)→∀x∈b.aW,x ∉ a.aW:=fun _ _ h x hx hy=>h x hy hx
section
variable {kT:World}  {H' ND A B:List bZ}
theorem St.dv (h:St w0 S w H)(is:List Nat)(hn:is.Nodup):St w0 S w (is.filterMap fun i=>H[i]?):=by
 have mem:∀e∈is.filterMap (fun i=>H[i]?),e∈H:=fun e he=>by
  obtain⟨i,_,hi⟩:=List.mem_filterMap.1 he;exact List.mem_of_getElem? hi
 refine⟨h.ext,fun e he=>h.each e (mem e he),fun e he=>h.loc e (mem e he),fun e he=>h.may e (mem e he),?_⟩;rw[List.pairwise_filterMap];refine List.Pairwise.imp ?_ hn;intro i j Bi e he f hf;exact mj Bt h.apart he hf Bi
theorem St.bS (h:St w0 S w H)(i j:Nat){e f:bZ}(hi:H[i]?=some e)(hj:H[j]?=some f)(cj:i≠j)(b:Nat)(hb:b∈e.aW):b ∉ f.aW:=mj Bt h.apart hi hj cj b hb
theorem St.ne (h:St w0 S w H)(i j:Nat){b c:Nat}{t u:TypeId}{cs ds:List Value}(hi:H[i]?=some (Ev.blk b t cs))(hj:H[j]?=some (Ev.blk c u ds))(cj:i≠j):b≠c:=by
 have:=mj Bt h.apart hi hj cj b (by simp[Ev.blk]);simpa[Ev.blk]using this
theorem St.mF (h:St w0 S w H)(i:Nat){b o n:Nat}{t:TypeId}{cs:List Value}{k:Value→Prop}(hi:H[i]?=some (Ev.blk b t cs))(hn:Nat.ble (o+n) cs.length=true)(hk:k (.agg ((cs.drop o).take n).toArray)):uf w b o n k:=by
 have hle:=Nat.le_of_ble_eq_true hn;have hl:((cs.drop o).take n).length=n:=by rw[List.length_take,List.length_drop];omega
 exact h.la i hi hl (by rw[hl]) hk
theorem St.fK (h:St w0 S w H)(i:Nat){b o n:Nat}{t:TypeId}{cs:List Value}{k:Value→Prop}(hi:H[i]?=some (Ev.blk b t cs))(hn:Nat.ble (o+n) cs.length=true)(hT:¬T b)(hk:k (.agg ((cs.drop o).take n).toArray)):wD (Ext T w) b o n k:=by
 have hle:=Nat.le_of_ble_eq_true hn;have hl:((cs.drop o).take n).length=n:=by rw[List.length_take,List.length_drop];omega
 exact h.xy i hi hl (by rw[hl]) hT hk
structure Has (w:World)(H:List bZ):Prop where
 each:∀e∈H,e.holds w
 loc:∀e∈H,e.Local
 lt:∀e∈H,∀b∈e.aW,b<w.heap.size
 apart:H.Pairwise fun e f=>∀b∈e.aW,b ∉ f.aW
abbrev cp (H:List bZ):Nat→Prop:=fun b=>∃e∈H,b∈e.aW
structure ak (w w':World)(H H':List bZ):Prop where
 ext:Ext (cp H) w w'
 has:Has w' H'
 aW:∀e∈H',∀b∈e.aW,cp H b∨w.heap.size≤b
theorem St.has (h:St w0 S w H):Has w H:=⟨h.each,h.loc,fun e he b hb=>(h.may e he b hb).2,h.apart⟩
theorem Has.get (h:Has w H)(i:Nat){e:bZ}(hi:H[i]?=some e):e.holds w:=h.each e (List.mem_of_getElem? hi)
theorem Has.start (h:Has w H):St w (cp H) w H:=⟨Ext.refl _ _,h.each,h.loc,fun e he b hb=>⟨.inl ⟨e,he,hb⟩,h.lt e he b hb⟩,h.apart⟩
theorem Has.read (h:Has w H)(hx:Ext No w w'):Has w' H :=
 ⟨fun e he=>h.loc e he w w' (fun b hb=>hx.block b (h.lt e he b hb) id) (h.each e he),h.loc,fun e he b hb=>Nat.lt_of_lt_of_le (h.lt e he b hb) hx.size,h.apart⟩
theorem Has.sub (h:Has w H)(hs:H'.Sublist H):Has w H':=⟨fun e he=>h.each e (hs.subset he),fun e he=>h.loc e (hs.subset he),fun e he=>h.lt e (hs.subset he),h.apart.sublist hs⟩
theorem St.turns (h:St w (cp H) w' H'):ak w w' H H':=⟨h.ext,h.has,fun e he b hb=>(h.may e he b hb).1⟩
theorem ak.refl (h:Has w H):ak w w H H:=⟨Ext.refl _ _,h,fun e he b hb=>.inl ⟨e,he,hb⟩⟩
theorem ak.aF (h:Has w H)(hx:Ext No w w'):ak w w' H H:=⟨hx.mono fun _ h=>h.elim,h.read hx,fun e he b hb=>.inl ⟨e,he,hb⟩⟩
theorem ak.trans (h:ak w w' H H')(k:ak w' kT H' ND):ak w kT H ND:=by
 refine⟨h.ext.then k.ext fun b hb=>?_,k.has,fun e he b hb=>?_⟩
 ·obtain⟨e,he,hb⟩:=hb;exact h.aW e he b hb
 ·rcases k.aW e he b hb with⟨f,hf,hb⟩|hb
  ·exact h.aW f hf b hb
  ·exact .inr (Nat.le_trans h.ext.size hb)
theorem dJ:cp (A++B) b↔cp A b∨cp B b:=by
 constructor
 ·rintro⟨e,he,hb⟩;rcases List.mem_append.1 he with he|he
  ·exact .inl ⟨e,he,hb⟩
  ·exact .inr ⟨e,he,hb⟩
 ·rintro(⟨e,he,hb⟩|⟨e,he,hb⟩)
  ·exact⟨e,List.mem_append_left _ he,hb⟩
  ·exact⟨e,List.mem_append_right _ he,hb⟩
theorem St.call (h:St w0 S w (H++B))(k:ak w w' H H'):St w0 S w' (H'++B):=by
 have jY:=List.pairwise_append.1 h.apart;have hB:∀e∈B,∀b∈e.aW,¬cp H b:=fun e he b hb ⟨f,hf,dk⟩=>jY.2.2 f hf e he b dk hb
 have zm:∀e∈B,e∈H++B:=fun e he=>List.mem_append_right _ he
 refine⟨h.ext.then k.ext fun b ⟨e,he,hb⟩=>(h.may e (List.mem_append_left _ he) b hb).1,?_,?_,?_,?_⟩
 ·intro e he;rcases List.mem_append.1 he with he|he
  ·exact k.has.each e he
  ·exact h.loc e (zm e he) w w' (fun b hb=>k.ext.block b (h.may e (zm e he) b hb).2 (hB e he b hb)) (h.each e (zm e he))
 ·intro e he;rcases List.mem_append.1 he with he|he
  ·exact k.has.loc e he
  ·exact h.loc e (zm e he)
 ·intro e he b hb;rcases List.mem_append.1 he with he|he
  ·refine⟨?_,k.has.lt e he b hb⟩;rcases k.aW e he b hb with⟨f,hf,dk⟩|dk
   ·exact(h.may f (List.mem_append_left _ hf) b dk).1
   ·exact .inr (Nat.le_trans h.ext.size dk)
  ·exact⟨(h.may e (zm e he) b hb).1,Nat.lt_of_lt_of_le (h.may e (zm e he) b hb).2 k.ext.size⟩
 ·rw[List.pairwise_append];refine⟨k.has.apart,jY.2.1,fun f hf e he b hb dk=>?_⟩;rcases k.aW f hf b hb with Cw|Cw
  ·exact hB e he b dk Cw
  ·have:=(h.may e (zm e he) b dk).2;omega
theorem St.di (h:St w0 S w (A++(H++B)))(k:ak w w' H H'):St w0 S w' (A++(H'++B)):=by
 have p1:(A++(H++B)).Perm (H++(A++B)):=by
  rw[←List.append_assoc,←List.append_assoc];exact List.Perm.append_right _ List.perm_append_comm
 have p2:(H'++(A++B)).Perm (A++(H'++B)):=by
  rw[←List.append_assoc,←List.append_assoc];exact List.Perm.append_right _ List.perm_append_comm
 have perm:∀{w:World} {X Y:List bZ},X.Perm Y→St w0 S w X→St w0 S w Y:=fun {w X Y} p h =>
  ⟨h.ext,fun e he=>h.each e (p.mem_iff.2 he),fun e he=>h.loc e (p.mem_iff.2 he),fun e he=>h.may e (p.mem_iff.2 he),(p.pairwise_iff (fun {a b} h=>Bt a b h)).1 h.apart⟩
 exact perm p2 ((perm p1 h).call k)
theorem Has.left (h:Has w (A++B)):Has w A:=h.sub (List.sublist_append_left _ _)
theorem Has.right (h:Has w (A++B)):Has w B:=h.sub (List.sublist_append_right _ _)
def m7 (w w':World)(v:Value):Prop:=∀g,v.ownBlock=some g→w.heap.size≤g∧g<w'.heap.size
theorem St.du (h:St w0 No w H)(i:Nat){α:Type}{e:TypeId}{sz:Nat}{enc:α→List Value}{v:Value}{xs:List α}(hi:H[i]?=some (az e sz enc v xs)):m7 w0 w v:=fun g hg=>by
 rcases h.may _ (List.mem_of_getElem? hi) g (by simpa[az,own]using hg) with⟨h1|h1,h2⟩
 ·exact h1.elim
 ·exact⟨h1,h2⟩
theorem St.qp (h:St w0 S w H)(hx:Ext No w w'){α:Type}{e:TypeId}{sz:Nat}{enc:α→List Value}{v:Value}{xs:List α}(ho:(az e sz enc v xs).holds w')(hf:m7 w w' v):St w0 S w' (H++[az e sz enc v xs]) :=
 h.made hx (Ez _ _ _ _ _) ho fun g hg=>hf g (by simpa[az,own]using hg)
end
end Ev
end Go.Proofs.YtggfpjldhglmeaaGreatDoor