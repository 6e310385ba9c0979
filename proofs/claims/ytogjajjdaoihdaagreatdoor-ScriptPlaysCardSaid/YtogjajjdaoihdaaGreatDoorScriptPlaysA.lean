/-
  Texts of this claim, joined: EvA, EvB, EvC, EvD, EvE, EvF, EvG, EvI, LawA, EvJ, EvK.
-/
import Derived.Orders
import Derived.OrdersHeld
import Derived.KernelRfl
import Derived.Laws.Sem
import Derived.Laws.BitsLemmas
import Derived.Tactics
import Derived.Maps.AppendAt
import Derived.Great.BuildSlice
import Derived.Laws.StructEq
import Derived.Laws.Tables
import Derived.ProofKit
import Derived.Below
import Derived.Carry
import Derived.Deep.Slices
import Derived.LaidLaws
import Derived.LaidHandle
import Derived.Stop.LaidErr
import Derived.Stop.Joined
import Derived.OpenShut
import Derived.ShutString
import Derived.Deep.Upon

namespace Go.Proofs.YtogjajjdaoihdaaGreatDoor.Ev
set_option maxRecDepth 20000
open Go

abbrev zar:=List (Nat × Value)

def ziQ:zar→Nat→Option Value
 | [],_=>none
 | (n,v)::r,t=>match Nat.beq n t with|true=>some v|false=>ziQ r t

structure Fits (N:Nat) (σ:zar) (a:Act):Prop where
 size:a.tmps.size=N
 defers:a.defers=[]
 vals:∀ n v,ziQ σ n=some v→a.tmps[n]?=some v

def ro (σ:zar):Operand→Option Value
 | .tmp t=>ziQ σ t
 | .const v=>some v
 | .global g=>some (.pointer (some ⟨g,0,none⟩))
 | .func f=>some (.func (.func f) #[] #[])

theorem zaq {N:Nat}{σ:zar}{a:Act}(h:Fits N σ a) {x:Operand}{v:Value}(hx:ro σ x=some v):a.eval x=v:=by
 cases x with
 | tmp t =>
  have:=h.vals t v hx;simp [Act.eval,this]
 | const u=>simpa [ro,Act.eval] using hx
 | global g=>simpa [ro,Act.eval] using hx
 | func f=>simpa [ro,Act.eval] using hx

theorem Fits.put {N:Nat}{σ:zar}{a:Act}(h:Fits N σ a) {d:Nat}(hd:d < N) (v:Value):Fits N ((d,v)::σ) (a.put (some d) v):=by
 refine ⟨by simp [Act.put,h.size],h.defers,fun n u hn=>?_⟩;unfold ziQ at hn;cases hb:Nat.beq d n with
 | true =>
  rw [hb] at hn;have:=Nat.eq_of_beq_eq_true hb;subst this;simp only [Option.some.injEq] at hn;subst hn;simp [Act.put,h.size,hd]
 | false =>
  rw [hb] at hn;have hne:d≠n:=Nat.ne_of_beq_eq_false hb;simp only at hn;have:=h.vals n u hn;simpa [Act.put,Array.getElem?_setIfInBounds_ne hne] using this

theorem Fits.weaken {N:Nat}{σ σ':zar}{a:Act}(h:Fits N σ a) (hs:∀ n v,ziQ σ' n=some v→ziQ σ n=some v):Fits N σ' a :=
 ⟨h.size,h.defers,fun n v hn=>h.vals n v (hs n v hn)⟩

inductive TK where
 | int|bool|str|ptr|iface|other
 | struct (fs:List (Nat × Nat × Bool))
 | arr (n e esz:Nat) (eagg:Bool)
 | slice (e esz:Nat) (eagg:Bool)
 deriving DecidableEq

structure TI where
 size:Nat
 kind:TK
 zero:List Value

abbrev Tab:=List (Nat × TI)

def tl:Tab→Nat→Option TI
 | [],_=>none
 | (n,i)::r,t=>match Nat.beq n t with|true=>some i|false=>tl r t

def zfN (P:Program) (t:TypeId):Bool :=
 match P.underlying t with
 | some (.struct _)|some (.array _ _)=>true
 | _=>false

def TK.agg:TK→Bool
 | .struct _ | .arr ..=>true
 | _=>false

def fieldsOf (P:Program) (F:Array Field):List (Nat × Nat × Bool):=F.toList.map fun f=>(f.offset,P.cellsOf f.type,zfN P f.type)

def zcR (P:Program) (t:TypeId):TK→Bool
 | .int=>match P.underlying t with|some (.int .i64)=>true|_=>false
 | .bool=>match P.underlying t with|some .bool=>true|_=>false
 | .str=>match P.underlying t with|some .string=>true|_=>false
 | .ptr=>match P.underlying t with|some (.pointer _)=>true|_=>false
 | .iface=>match P.underlying t with|some (.interface _)=>true|_=>false
 | .other=>match P.underlying t with|some (.struct _)|some (.array _ _)|some (.interface _)|none=>false|_=>true
 | .struct fs=>match P.underlying t with|some (.struct F)=>fieldsOf P F == fs&&F.toList.all fun f=>(P.info? f.type).isSome&&(P.underlying f.type).isSome&&P.cellsOf f.type != 0|_=>false
 | .arr n e esz g=>match P.underlying t with|some (.array n' e')=>n' == n&&e' == e&&P.cellsOf e == esz&&zfN P e == g&&(P.info? e).isSome&&(P.underlying e).isSome|_=>false
 | .slice e esz g=>match P.underlying t with|some (.slice e')=>e' == e&&P.cellsOf e == esz&&zfN P e == g&&(P.info? e).isSome&&(P.underlying e).isSome|_=>false

structure TIok (P:Program) (t:TypeId) (i:TI):Prop where
 info:(P.info? t).map (·.size)=some i.size
 kind:zcR P t i.kind=true
 zero:i.zero=[]∨(P.info? t).bind (·.zero)=some (match i.kind.agg with|true=>.agg i.zero.toArray|false=>i.zero.headD undef)

def TabOk (P:Program) (τ:Tab):Prop:=∀ t i,tl τ t=some i→TIok P t i

def zum (P:Program):Tab→Prop
 | []=>True
 | (t,i)::r=>TIok P t i∧zum P r

theorem TabOk.of_all {P:Program}{τ:Tab}(h:zum P τ):TabOk P τ:=by
 induction τ with
 | nil=>intro t i hi;cases hi
 | cons x r ih =>
  obtain ⟨n,j⟩:=x;intro t i hi;unfold tl at hi;cases hb:Nat.beq n t with
  | true =>
   rw [hb] at hi;have:=Nat.eq_of_beq_eq_true hb;subst this;simp only [Option.some.injEq] at hi;subst hi;exact h.1
  | false =>
   rw [hb] at hi;exact ih h.2 t i hi

section
variable {P : Program} {t : TypeId} {i : TI}
theorem TIok.size_run (h:TIok P t i) (w:World):(sizeOf t).run P w = .ok i.size w:=by
 obtain ⟨inf,h1,h2⟩:=Option.map_eq_some_iff.1 h.info;simp [sizeOf,typeInfo,h1,h2]
theorem zkG (h:zcR P t i.kind=true):∃ d,P.underlying t=some d:=by
 cases hu:P.underlying t with
 | some d=>exact ⟨d,rfl⟩
 | none=>cases hk:i.kind<;>simp [zcR,hu,hk] at h
theorem ziT (w:World) (h:∃ d,P.underlying t=some d):(isAgg t).run P w = .ok (zfN P t) w:=by
 obtain ⟨d,hd⟩:=h;cases d<;>simp [isAgg,underlying,hd,zfN]
theorem TIok.agg_run (h:TIok P t i) (w:World):(isAgg t).run P w = .ok i.kind.agg w:=by
 rw [ziT w (zkG h.kind)];congr 1;have hk:=h.kind;cases hi:i.kind<;>simp only [hi,zcR] at hk<;>(unfold zfN;split at hk<;>simp_all [TK.agg])
theorem zaQ {u:TypeId}(h:(P.info? u).isSome=true) (w:World):(sizeOf u).run P w = .ok (P.cellsOf u) w:=by
 obtain ⟨inf,h1⟩:=Option.isSome_iff_exists.1 h;simp [sizeOf,typeInfo,h1,Program.cellsOf]
end

structure RngC (n:Int) (p:Prop):Prop where
 lo : -9223372036854775808≤n
 hi:n≤9223372036854775807
 go:p
structure IdxC (i:Int) (n:Nat) (p:Prop):Prop where
 lo:0≤i
 hi:i < (n:Int)
 go:p
structure NzC (n:Int) (p:Prop):Prop where
 ne:n≠0
 go:p
structure PureC (P:Program) (s:Sem Value) (k:Value→Prop):Prop where
 ex:∃ v,(∀ w,s.run P w = .ok v w)∧k v

theorem PureC.of {P:Program}{s:Sem Value}{k:Value→Prop}{v:Value}(h:∀ w,s.run P w = .ok v w) (hk:k v):PureC P s k:=⟨v,h,hk⟩

def br (b:Bool) (p q:Prop):Prop:=match b with|true=>p|false=>q
theorem brI {b:Bool}{p q:Prop}(h1:b=true→p) (h2:b=false→q):br b p q:=by cases b;exact h2 rfl;exact h1 rfl
theorem brD {c:Prop} [Decidable c] {p q:Prop}(h1:c→p) (h2:¬ c→q):br (decide c) p q:=by
 by_cases h:c
 ·rw [decide_eq_true h];exact h1 h
 ·rw [decide_eq_false h];exact h2 h
theorem zad {c:Prop} [Decidable c] {p q:Prop}(h1:¬ c→p) (h2:c→q):br (!(decide c)) p q:=by
 by_cases h:c
 ·rw [decide_eq_true h];exact h2 h
 ·rw [decide_eq_false h];exact h1 h
theorem brN {b:Bool}{p q:Prop}(h1:b=false→p) (h2:b=true→q):br (!b) p q:=by cases b;exact h1 rfl;exact h2 rfl
theorem brF {b:Bool}{p q:Prop}(h:b=false) (h1:q):br b p q:=by subst h;exact h1
theorem zlh {b:Bool}{p q:Prop}(h:br b p q):(b=true∧p)∨(b=false∧q):=by cases b;exact .inr ⟨rfl,h⟩;exact .inl ⟨rfl,h⟩

def nth:List Value→Nat→Option Value
 | [],_=>none
 | v::_,0=>some v
 | _::r,n+1=>nth r n
theorem zsr (l:List Value) (n:Nat):nth l n=l[n]?:=by
 induction l generalizing n with
 | nil=>rfl
 | cons x r ih=>cases n with
  | zero=>rfl
  | succ n=>simpa [nth] using ih n

def zaO (cs:List Value) (o:Nat) (vs:List Value):List Value:=cs.take o++vs++cs.drop (o+vs.length)

def zoD:List Value→Nat→List Value→(List Value→Prop)→Prop
 | cs,0,[],k=>k cs
 | [],0,_::_,_=>False
 | _::cs,0,v::vs,k=>zoD cs 0 vs fun l=>k (v::l)
 | c::cs,n+1,vs,k=>zoD cs n vs fun l=>k (c::l)
 | [],_+1,_,_=>False
theorem zfJ:∀ (cs:List Value) (o:Nat) (vs:List Value) (k:List Value→Prop),zoD cs o vs k→o+vs.length≤cs.length∧k (zaO cs o vs)
 | cs,0,[],k,h=>by simpa [zaO,zoD] using h
 | [],0,_::_,_,h=>h.elim
 | _::cs,0,v::vs,k,h=>by
  have:=zfJ cs 0 vs _ h;refine ⟨by simpa using this.1,?_⟩;simpa [zaO] using this.2
 | c::cs,n+1,vs,k,h=>by
  have:=zfJ cs n vs _ h;refine ⟨by have:=this.1;simp;omega,?_⟩;have h2:=this.2;simp only [zaO,List.take_succ_cons,List.cons_append] at h2 ⊢;have e:n+1+vs.length=(n+vs.length)+1:=by omega
  rw [e,List.drop_succ_cons];exact h2
 | [],_+1,_,_,h=>h.elim

def zuU:List Value→Nat→Nat→(List Value→Prop)→Prop
 | _,0,0,k=>k []
 | [],0,_+1,_=>False
 | c::cs,0,n+1,k=>zuU cs 0 n fun l=>k (c::l)
 | _::cs,o+1,n,k=>zuU cs o n k
 | [],_+1,_,_=>False
theorem zhH:∀ (cs:List Value) (o n:Nat) (k:List Value→Prop),zuU cs o n k→o+n≤cs.length∧k ((cs.drop o).take n)
 | [],0,0,k,h=>⟨by simp,h⟩
 | c::cs,0,0,k,h=>⟨by simp,h⟩
 | [],0,_+1,_,h=>h.elim
 | c::cs,0,n+1,k,h=>by
  have:=zhH cs 0 n _ h;exact ⟨by have:=this.1;simp;omega,by simpa using this.2⟩
 | _::cs,o+1,n,k,h=>by
  have:=zhH cs o n _ h;exact ⟨by have:=this.1;simp;omega,by simpa using this.2⟩
 | [],_+1,_,_,h=>h.elim

def zam:Value→List Value
 | .agg cs=>cs.toList
 | v=>[v]
theorem zbI (v:Value):zam v=v.cells.toList:=by cases v<;>rfl

def zeS (σ:zar):List Operand→(List Value→Prop)→Prop
 | [],k=>k []
 | x::xs,k=>match ro σ x with
  | some v=>zeS σ xs fun vs=>k (v::vs)
  | none=>False
theorem zba {N:Nat}{σ:zar}{a:Act}(hf:Fits N σ a):∀ (xs:List Operand) (k:List Value→Prop),zeS σ xs k→k (xs.map a.eval)
 | [],k,h=>h
 | x::xs,k,h=>by
  unfold zeS at h;cases hx:ro σ x with
  | none=>rw [hx] at h;exact h.elim
  | some v =>
   rw [hx] at h;have:=zba hf xs _ h;simpa [zaq hf hx] using this

def zob (x y:Int):Int:=IntKind.i64.wrap ((BitVec.ofInt 64 x &&& BitVec.ofInt 64 y).toNat:Int)

def zt8 (P:Program) (op:BinOp) (x y:Int) (k:Value→Prop):Prop :=
 match op with
 | .add=>RngC (x+y) (k (.int .i64 (x+y)))
 | .sub=>RngC (x - y) (k (.int .i64 (x - y)))
 | .mul=>RngC (x * y) (k (.int .i64 (x * y)))
 | .eql=>k (.bool (x == y))
 | .neq=>k (.bool (x != y))
 | .lss=>k (.bool (x < y))
 | .leq=>k (.bool (x≤y))
 | .gtr=>k (.bool (x > y))
 | .geq=>k (.bool (x≥y))
 | .and=>k (.int .i64 (zob x y))
 | .rem=>NzC y (k (.int .i64 (x.tmod y)))
 | .quo=>NzC y (RngC (x.tdiv y) (k (.int .i64 (x.tdiv y))))
 | op=>PureC P (Go.binOp op 0 (.int .i64 x) (.int .i64 y)) k

def zvp (P:Program) (τ:Tab) (op:BinOp) (t:TypeId) (cy:Bool) (x y:Value) (k:Value→Prop):Prop :=
 match x,y with
 | .int .i64 a,.int .i64 b=>zt8 P op a b k
 | .bool a,.bool b=>match tl τ t with
  | some ⟨_,.bool,_⟩=>(match op with
   | .eql=>k (.bool (a == b))
   | .neq=>k (.bool (!(a == b)))
   | _=>False)
  | _=>False
 | .nilIface,.nilIface=>match tl τ t,cy with
  | some ⟨_,.iface,_⟩,true=>(match op with
   | .eql=>k (.bool true)
   | .neq=>k (.bool false)
   | _=>False)
  | _,_=>False
 | .iface _ _,.nilIface=>match tl τ t with
  | some ⟨_,.iface,_⟩=>(match op with
   | .eql=>k (.bool false)
   | .neq=>k (.bool true)
   | _=>False)
  | _=>False
 | .pointer a,.pointer none=>match tl τ t with
  | some ⟨_,.ptr,_⟩=>(match op with
   | .eql=>k (.bool a.isNone)
   | .neq=>k (.bool (!a.isNone))
   | _=>False)
  | _=>False
 | .slice a _ _,.slice none _ _=>match tl τ t with
  | some ⟨_,.slice _ _ _,_⟩=>(match op with
   | .eql=>k (.bool a.isNone)
   | .neq=>k (.bool (!a.isNone))
   | _=>False)
  | _=>False
 | .agg a,.agg b=>PureC P (do eqGuard op t (.tmp 0) (.tmp 0) (.agg a) (.agg b);Go.binOp op t (.agg a) (.agg b)) k
 | .string a,.string b=>PureC P (Go.binOp op t (.string a) (.string b)) k
 | .int q a,.int q' b=>PureC P (Go.binOp op t (.int q a) (.int q' b)) k
 | _,_=>False

def zi4:Operand→Bool
 | .const _=>true
 | _=>false

def zl7 (fs:List (Nat × Nat × Bool)) (zero:List Value):List (Nat × Value)→(List Value→Prop)→Prop
 | [],k=>k zero
 | (i,v)::r,k=>match fs[i]? with
  | some (off,size,_)=>(match Nat.beq (zam v).length size with
   | true=>zoD zero off (zam v) fun z=>zl7 fs z r k
   | false=>False)
  | none=>False

def zfO (σ:zar):List (Nat × Operand)→(List (Nat × Value)→Prop)→Prop
 | [],k=>k []
 | (i,x)::xs,k=>match ro σ x with
  | some v=>zfO σ xs fun vs=>k ((i,v)::vs)
  | none=>False
theorem zdV {N:Nat}{σ:zar}{a:Act}(hf:Fits N σ a):∀ (xs:List (Nat × Operand)) (k:List (Nat × Value)→Prop),zfO σ xs k→k (xs.map fun p=>(p.1,a.eval p.2))
 | [],k,h=>h
 | (i,x)::xs,k,h=>by
  unfold zfO at h;cases hx:ro σ x with
  | none=>rw [hx] at h;exact h.elim
  | some v =>
   rw [hx] at h;have:=zdV hf xs _ h;simpa [zaq hf hx] using this

def zd8 (P:Program) (τ:Tab) (σ:zar) (op:Op) (k:Value→Prop):Prop :=
 match op with
 | .move x | .assign x=>match ro σ x with
  | some v=>k v
  | none=>False
 | .pick c x y=>match ro σ c with
  | some (.bool b)=>br b (match ro σ x with|some v=>k v|none=>False) (match ro σ y with|some v=>k v|none=>False)
  | _=>False
 | .unOp .not _ x=>match ro σ x with
  | some (.bool b)=>k (.bool (!b))
  | _=>False
 | .unOp .neg _ x=>match ro σ x with
  | some (.int .i64 n)=>RngC (0 - n) (k (.int .i64 (0 - n)))
  | _=>False
 | .unOp .xor _ x=>match ro σ x with
  | some (.int q n)=>PureC P (Op.unary .xor (.int q n)) k
  | _=>False
 | .binOp op t x y _=>match ro σ x,ro σ y with
  | some vx,some vy=>zvp P τ op t (zi4 y) vx vy k
  | _,_=>False
 | .extract x i=>match ro σ x with
  | some (.tuple vs)=>(match nth vs.toList i with
   | some v=>k v
   | none=>False)
  | _=>False
 | .nilCheck x=>match ro σ x with
  | some (.pointer (some a))=>k (.pointer (some a))
  | some (.func (.func f) fs cs)=>k (.func (.func f) fs cs)
  | _=>False
 | .fieldAddr s x f=>match ro σ x,tl τ s with
  | some (.pointer (some ⟨b,o,none⟩)),some ⟨_,.struct fs,_⟩=>(match fs[f]? with
   | some (off,_,_)=>k (.pointer (some ⟨b,o+off,none⟩))
   | none=>False)
  | _,_=>False
 | .indexAddr t x i=>match ro σ x,ro σ i,tl τ t with
  | some (.pointer (some ⟨b,o,none⟩)),some (.int _ j),some ⟨_,.arr n _ esz _,_⟩=>IdxC j n (k (.pointer (some ⟨b,o+j.toNat * esz,none⟩)))
  | some (.slice (some ⟨b,o,none⟩) n _),some (.int _ j),some ⟨_,.slice _ esz _,_⟩=>IdxC j n (k (.pointer (some ⟨b,o+j.toNat * esz,none⟩)))
  | _,_,_=>False
 | .index t x i=>match ro σ x,ro σ i with
  | some vx,some vi=>PureC P (Instr.index t vx vi) k
  | _,_=>False
 | .field t x f=>match ro σ x,tl τ t with
  | some (.agg cs),some ⟨_,.struct fs,_⟩=>(match fs[f]? with
   | some (off,size,true)=>zuU cs.toList off size fun l=>k (.agg l.toArray)
   | some (off,_,false)=>(match nth cs.toList off with
    | some v=>k v
    | none=>False)
   | none=>False)
  | _,_=>False
 | .makeInterface t x=>match ro σ x,tl τ t with
  | some v,some ⟨_,kd,_⟩=>(match kd with
   | .iface=>False
   | _=>k (.iface t v))
  | _,_=>False
 | .makeFunc fn first cs=>zeS σ first.toList fun f=>zeS σ cs.toList fun c=>k (.func fn f.toArray c.toArray)
 | .build t parts=>zfO σ parts.toList fun ps=>match tl τ t with
  | some ⟨_,.struct fs,z::zs⟩=>zl7 fs (z::zs) ps fun l=>k (.agg l.toArray)
  | _=>PureC P (Instr.build t ps.toArray) k
 | .call { callee:=.builtin .len,args:=av,argTypes:=ts }=>zeS σ av.toList fun vs=>match vs,ts.toList with
  | [.slice _ n _],[t]=>(match tl τ t with
   | some ⟨_,.slice _ _ _,_⟩=>k (.int .i64 n)
   | _=>False)
  | [.string s],[t]=>(match tl τ t with
   | some ⟨_,.str,_⟩=>k (.int .i64 s.size)
   | _=>False)
  | [_],[t]=>(match tl τ t with
   | some ⟨_,.arr n _ _ _,_⟩=>k (.int .i64 n)
   | _=>False)
  | _,_=>False
 | .call { callee:=.builtin .cap,args:=av,argTypes:=ts }=>zeS σ av.toList fun vs=>match vs,ts.toList with
  | [.slice _ _ c],[t]=>(match tl τ t with
   | some ⟨_,.slice _ _ _,_⟩=>k (.int .i64 c)
   | _=>False)
  | _,_=>False
 | .call { callee:=.builtin .min,args:=av,argTypes:=_ }=>zeS σ av.toList fun vs=>match vs with
  | [.int .i64 x,.int .i64 y]=>k (.int .i64 (if y < x then y else x))
  | _=>False
 | .call { callee:=.builtin .max,args:=av,argTypes:=_ }=>zeS σ av.toList fun vs=>match vs with
  | [.int .i64 x,.int .i64 y]=>k (.int .i64 (if y > x then y else x))
  | _=>False
 | .convert s d x=>match ro σ x with
  | some (.int q n)=>PureC P (Go.convert s d (.int q n)) k
  | some (.string v)=>PureC P (Go.convert s d (.string v)) k
  | _=>False
 | .slice t x none none none=>match ro σ x,tl τ t with
  | some (.pointer (some ⟨b,o,none⟩)),some ⟨_,.arr n _ _ _,_⟩=>(match Nat.beq n 0 with
   | true=>False
   | false=>k (.slice (some ⟨b,o,none⟩) n n))
  | _,_=>False
 | .slice t x lo hi mx=>match ro σ x,(lo.elim (some none) fun y=>(ro σ y).map some),(hi.elim (some none) fun y=>(ro σ y).map some),(mx.elim (some none) fun y=>(ro σ y).map some) with
  | some vx,some vl,some vh,some vm=>PureC P (Instr.sliceAt t vx vl vh vm) k
  | _,_,_,_=>False
 | _=>False

theorem ixO {i : Int} {n : Nat} {p : Prop} (g : p) (a : 0 ≤ i := by omega) (b : i < (n : Int) := by omega) : IdxC i n p := ⟨a, b, g⟩
theorem rgO {n : Int} {p : Prop} (g : p) (a : -9223372036854775808 ≤ n := by omega) (b : n ≤ 9223372036854775807 := by omega) : RngC n p := ⟨a, b, g⟩
theorem nzO {n : Int} {p : Prop} (g : p) (a : n ≠ 0 := by decide) : NzC n p := ⟨a, g⟩
theorem tiO {P : Program} {t : TypeId} {i : TI} (a : (P.info? t).map (·.size) = some i.size := by kernel_rfl) (b : zcR P t i.kind = true := by kernel_rfl) (c : (P.info? t).bind (·.zero) = some (match i.kind.agg with | true => .agg i.zero.toArray | false => i.zero.headD undef) := by kernel_rfl) : TIok P t i := ⟨a, b, .inr c⟩
theorem lbO {a b : Nat} (h : Nat.ble a b = true) : a ≤ b := Nat.le_of_ble_eq_true h
end Go.Proofs.YtogjajjdaoihdaaGreatDoor.Ev

namespace Go.Proofs.YtogjajjdaoihdaaGreatDoor.Ev
set_option maxRecDepth 20000
open Go

def Yv (P:Program) (o:Oper) (a:Act) (v:Value):Prop:=∀ w,(execOp a.eval o).run P w = .ok (.value v) w

section
variable {P : Program} {τ : Tab} {N : Nat} {σ : zar} {a : Act}

theorem zev {s:Sem Value}{v:Value}(h:∀ w,s.run P w = .ok v w) (w:World):(do pure (Next.value (← s)):Sem Next).run P w = .ok (.value v) w:=by
 simp [h w,Result.andThen]

theorem zhp {n:Int}(h1 : -9223372036854775808≤n) (h2:n≤9223372036854775807):IntKind.i64.wrap n=n:=by
 rw [IntKind.wrap_i64];omega

theorem zjk (op:BinOp) (t:TypeId) (x y:Operand) (u v:Value) (h:∀ cs,u≠.agg cs) (h':u≠.nilIface) (w:World):(eqGuard op t x y u v).run P w = .ok () w:=by
 unfold eqGuard;cases op<;>first|rfl|(cases u<;>first|rfl|exact absurd rfl h'|exact absurd rfl (h _))

theorem zcW {op:BinOp}{t:TypeId}{x y:Operand}{u v r:Value}(h:∀ cs,u≠.agg cs) (h':u≠.nilIface) (hr:∀ w,(Go.binOp op t u v).run P w = .ok r w) (w:World) :
  (do eqGuard op t x y u v;Go.binOp op t u v:Sem Value).run P w = .ok r w:=by
 rw [Sem.run_bind,zjk op t x y u v h h' w];exact hr w

theorem zk5 {op:BinOp}{x y:Int}{k:Value→Prop}(t:TypeId) (h:zt8 P op x y k):∃ v,(∀ w,(Go.binOp op t (.int .i64 x) (.int .i64 y)).run P w = .ok v w)∧k v:=by
 cases op
 case add=>exact ⟨_,fun w=>by simp [Go.binOp,Op.intArith,zhp h.lo h.hi],h.go⟩
 case sub=>exact ⟨_,fun w=>by simp [Go.binOp,Op.intArith,zhp h.lo h.hi],h.go⟩
 case mul=>exact ⟨_,fun w=>by simp [Go.binOp,Op.intArith,zhp h.lo h.hi],h.go⟩
 case eql=>exact ⟨_,fun w=>rfl,h⟩
 case neq=>exact ⟨_,fun w=>rfl,h⟩
 case lss=>exact ⟨_,fun w=>rfl,h⟩
 case leq=>exact ⟨_,fun w=>rfl,h⟩
 case gtr=>exact ⟨_,fun w=>rfl,h⟩
 case geq=>exact ⟨_,fun w=>rfl,h⟩
 case and=>exact ⟨_,fun w=>rfl,h⟩
 case rem=>exact ⟨_,fun w=>by simp [Go.binOp,Op.intDiv,h.ne],h.go⟩
 case quo=>exact ⟨_,fun w=>by simp [Go.binOp,Op.intDiv,h.ne,zhp h.go.lo h.go.hi],h.go.go⟩
 all_goals
  obtain ⟨v,hv,hk⟩:=h.ex;exact ⟨v,fun w=>by rw [← hv w];rfl,hk⟩

theorem zbn {i:TI}{t:TypeId}(hτ:TabOk P τ) (h:tl τ t=some i):zcR P t i.kind=true:=(hτ t i h).kind

theorem zn6 {t:TypeId}(h:zcR P t .bool=true):P.underlying t=some .bool:=by
 simp only [zcR] at h;split at h<;>simp_all
theorem zhL {t:TypeId}(h:zcR P t .iface=true):∃ ms,P.underlying t=some (.interface ms):=by
 simp only [zcR] at h;split at h<;>simp_all
theorem zoK {t:TypeId}(h:zcR P t .ptr=true):∃ e,P.underlying t=some (.pointer e):=by
 simp only [zcR] at h;split at h<;>simp_all
theorem zdB {t e esz:Nat}{g:Bool}(h:zcR P t (.slice e esz g)=true):P.underlying t=some (.slice e)∧P.cellsOf e=esz∧zfN P e=g∧(P.info? e).isSome=true∧∃ d,P.underlying e=some d:=by
 simp only [zcR] at h;split at h
 ·rename_i e' hu;simp only [Bool.and_eq_true,beq_iff_eq] at h;obtain ⟨⟨⟨⟨rfl,h2⟩,h3⟩,h4⟩,h5⟩:=h;exact ⟨hu,h2,h3,h4,Option.isSome_iff_exists.1 h5⟩
 ·cases h
theorem zhB {t n e esz:Nat}{g:Bool}(h:zcR P t (.arr n e esz g)=true):P.underlying t=some (.array n e)∧P.cellsOf e=esz∧zfN P e=g∧(P.info? e).isSome=true∧∃ d,P.underlying e=some d:=by
 simp only [zcR] at h;split at h
 ·rename_i n' e' hu;simp only [Bool.and_eq_true,beq_iff_eq] at h;obtain ⟨⟨⟨⟨⟨rfl,rfl⟩,h2⟩,h3⟩,h4⟩,h5⟩:=h;exact ⟨hu,h2,h3,h4,Option.isSome_iff_exists.1 h5⟩
 ·cases h
theorem zpd {t:TypeId}(h:zcR P t .str=true):P.underlying t=some .string:=by
 simp only [zcR] at h;split at h<;>simp_all
theorem zec {t:TypeId}{fs:List (Nat × Nat × Bool)}(h:zcR P t (.struct fs)=true) :
  ∃ F,P.underlying t=some (.struct F)∧F.size=fs.length∧∀ (i off sz:Nat) (g:Bool),fs[i]?=some (off,sz,g)→∃ f:Field,F[i]?=some f∧f.offset=off∧P.cellsOf f.type=sz∧zfN P f.type=g∧(P.info? f.type).isSome=true∧(∃ d,P.underlying f.type=some d)∧sz≠0:=by
 simp only [zcR] at h;split at h
 ·rename_i F hu;simp only [Bool.and_eq_true,beq_iff_eq,List.all_eq_true] at h;obtain ⟨h1,h2⟩:=h;refine ⟨F,hu,by rw [← h1];simp [fieldsOf],fun i off sz g hi=>?_⟩;rw [← h1] at hi;simp only [fieldsOf,List.getElem?_map,Option.map_eq_some_iff,Prod.mk.injEq] at hi;obtain ⟨f,hf,rfl,rfl,rfl⟩:=hi;have hf':F[i]?=some f:=by simpa using hf
  have hm:f∈F.toList:=List.mem_of_getElem? hf;have:=h2 f hm;simp only [bne_iff_ne,ne_eq] at this;exact ⟨f,hf',rfl,rfl,rfl,this.1.1,Option.isSome_iff_exists.1 this.1.2,this.2⟩
 ·cases h

section eqs
variable {P : Program} {t : TypeId} {w : World}
theorem zj0 (d:Nat) (hu:P.underlying t=some .bool) (a b:Bool):(Op.equalIn (d+1) t (.bool a) (.bool b)).run P w = .ok (a == b) w:=by
 simp [Op.equalIn,underlying,hu]
theorem zpw (d:Nat) {ms:Array (String × TypeId)}(hu:P.underlying t=some (.interface ms)):(Op.equalIn (d+1) t .nilIface .nilIface).run P w = .ok true w:=by
 simp [Op.equalIn,underlying,hu]
theorem zpV (d:Nat) {ms:Array (String × TypeId)}(hu:P.underlying t=some (.interface ms)) (u:TypeId) (v:Value):(Op.equalIn (d+1) t (.iface u v) .nilIface).run P w = .ok false w:=by
 simp [Op.equalIn,underlying,hu]
theorem zos (d:Nat) {e:TypeId}(hu:P.underlying t=some (.pointer e)) (p:Option Addr):(Op.equalIn (d+1) t (.pointer p) (.pointer none)).run P w = .ok p.isNone w:=by
 cases p<;>simp [Op.equalIn,underlying,hu]
theorem zp1 (d:Nat) {e:TypeId}(hu:P.underlying t=some (.slice e)) (p:Option Addr) (n c n' c':Nat):(Op.equalIn (d+1) t (.slice p n c) (.slice none n' c')).run P w = .ok p.isNone w:=by
 cases p<;>simp [Op.equalIn,underlying,hu]
theorem zka {x y:Value}{b:Bool}(h:∀ w,(Op.equalIn (9999+1) t x y).run P w = .ok b w) (w:World):(do pure (.bool (← Op.equal t x y)):Sem Value).run P w = .ok (.bool b) w:=by
 have:∀ w,(Op.equal t x y).run P w = .ok b w:=h;simp [this w]
theorem zj2 {x y:Value}{b:Bool}(h:∀ w,(Op.equalIn (9999+1) t x y).run P w = .ok b w) (w:World):(do pure (.bool (!(← Op.equal t x y))):Sem Value).run P w = .ok (.bool (!b)) w:=by
 have:∀ w,(Op.equal t x y).run P w = .ok b w:=h;simp [this w]
end eqs

theorem znJ (hτ:TabOk P τ) {op:BinOp}{t:TypeId}{x y:Operand}{u v:Value}{k:Value→Prop}(h:zvp P τ op t (zi4 y) u v k) :
  ∃ r,(∀ w,(do eqGuard op t x y u v;Go.binOp op t u v:Sem Value).run P w = .ok r w)∧k r:=by
 unfold zvp at h;split at h
 ·obtain ⟨r,hr,hk⟩:=zk5 t h;exact ⟨r,zcW (by simp) (by simp) hr,hk⟩
 ·split at h
  ·rename_i hi;have hu:=zn6 (zbn hτ hi);split at h
   ·exact ⟨_,zcW (by simp) (by simp) (zka fun w=>zj0 9999 hu _ _),h⟩
   ·exact ⟨_,zcW (by simp) (by simp) (zj2 fun w=>zj0 9999 hu _ _),h⟩
   ·exact h.elim
  ·exact h.elim
 ·split at h
  ·rename_i hi hc;obtain ⟨ms,hu⟩:=zhL (zbn hτ hi)
   have hcy:∃ z,y = .const z:=by
    cases y<;>simp [zi4] at hc;exact ⟨_,rfl⟩
   obtain ⟨z,rfl⟩:=hcy;split at h
   ·refine ⟨_,fun w=>?_,h⟩;have e:(eqGuard .eql t x (.const z) .nilIface .nilIface).run P w = .ok () w:=by simp [eqGuard]
    rw [Sem.run_bind,e];exact zka (fun w=>zpw 9999 hu) w
   ·refine ⟨_,fun w=>?_,h⟩;have e:(eqGuard .neq t x (.const z) .nilIface .nilIface).run P w = .ok () w:=by simp [eqGuard]
    rw [Sem.run_bind,e];exact zj2 (b:=true) (fun w=>zpw 9999 hu) w
   ·exact h.elim
  ·exact h.elim
 ·split at h
  ·rename_i hi;obtain ⟨ms,hu⟩:=zhL (zbn hτ hi);split at h
   ·exact ⟨_,zcW (by simp) (by simp) (zka fun w=>zpV 9999 hu _ _),h⟩
   ·exact ⟨_,zcW (by simp) (by simp) (zj2 (b:=false) fun w=>zpV 9999 hu _ _),h⟩
   ·exact h.elim
  ·exact h.elim
 ·rename_i p;split at h
  ·rename_i hi;obtain ⟨e,hu⟩:=zoK (zbn hτ hi);split at h
   ·exact ⟨_,zcW (by simp) (by simp) (zka fun w=>zos 9999 hu _),h⟩
   ·exact ⟨_,zcW (by simp) (by simp) (zj2 fun w=>zos 9999 hu _),h⟩
   ·exact h.elim
  ·exact h.elim
 ·rename_i p _ _ _ _;split at h
  ·rename_i hi;obtain ⟨hu,_⟩:=zdB (zbn hτ hi);split at h
   ·exact ⟨_,zcW (by simp) (by simp) (zka fun w=>zp1 9999 hu _ _ _ _ _),h⟩
   ·exact ⟨_,zcW (by simp) (by simp) (zj2 fun w=>zp1 9999 hu _ _ _ _ _),h⟩
   ·exact h.elim
  ·exact h.elim
 ·obtain ⟨r,hr,hk⟩:=h.ex;exact ⟨r,fun w=>by rw [← hr w];unfold eqGuard;rfl,hk⟩
 ·obtain ⟨r,hr,hk⟩:=h.ex;exact ⟨r,zcW (by simp) (by simp) hr,hk⟩
 ·obtain ⟨r,hr,hk⟩:=h.ex;exact ⟨r,zcW (by simp) (by simp) hr,hk⟩
 ·exact h.elim
end
end Go.Proofs.YtogjajjdaoihdaaGreatDoor.Ev

namespace Go.Proofs.YtogjajjdaoihdaaGreatDoor.Ev
set_option maxRecDepth 20000
open Go

theorem zbl (b o n:Nat):(⟨b,o,none⟩:Addr).add n=⟨b,o+n,none⟩:=by
 unfold Addr.add;split
 ·subst_vars;rfl
 ·rfl

section
variable {P : Program} {τ : Tab} {N : Nat} {σ : zar} {a : Act}

theorem ziO {t:TypeId}{cs:List Value}{off sz:Nat}(hi:(P.info? t).isSome=true) (hd:∃ d,P.underlying t=some d) (hs:P.cellsOf t=sz) (hle:off+sz≤cs.length) (h:zfN P t=true) (w:World) :
  (part t cs.toArray off).run P w = .ok (.agg ((cs.drop off).take sz).toArray) w:=by
 have h1:=ziT w hd;rw [h] at h1;have h2:=zaQ hi w;simp [part,h1,h2,hs,List.extract_eq_take_drop]

theorem zeX {t:TypeId}{cs:List Value}{off:Nat}{v:Value}(hd:∃ d,P.underlying t=some d) (hv:cs[off]?=some v) (h:zfN P t=false) (w:World) :
  (part t cs.toArray off).run P w = .ok v w:=by
 have h1:=ziT w hd;rw [h] at h1;simp [part,h1,hv]

theorem zmR (vs:List Value):∀ (cs:List Value) (o j:Nat),o+j+vs.length≤cs.length →
  ((vs.zipIdx j).foldl (fun (cs:Array Value) (x:Value × Nat)=>cs.setIfInBounds (o+x.2) x.1) cs.toArray)=(zaO cs (o+j) vs).toArray:=by
 induction vs with
 | nil=>intro cs o j h;simp [zaO]
 | cons v vs ih =>
  intro cs o j h;simp only [List.zipIdx_cons,List.foldl_cons,List.setIfInBounds_toArray];rw [ih _ o (j+1) (by simp at h ⊢;omega)];congr 1;unfold zaO;simp only [List.length_cons] at h ⊢;rw [List.take_set,List.drop_set_of_lt (by omega)];have e1:o+(j+1)=(o+j)+1:=by omega
  have e2:o+j+1+vs.length=o+j+(vs.length+1):=by omega
  rw [e1,e2,List.take_succ_eq_append_getElem (by omega)];rw [List.set_append_right (o+j) v (by simp;omega)];simp [Nat.min_eq_left (show o+j≤cs.length by omega)]

theorem ze4 {fs:List (Nat × Nat × Bool)} :
  ∀ (parts:List (Nat × Value)) (z:List Value) (k:List Value→Prop),zl7 fs z parts k →
   ∃ l,(∀ places:Array (Nat × Nat),(∀ (i off sz:Nat) (g:Bool),fs[i]?=some (off,sz,g)→places[i]?=some (off,sz))→Instr.fill (places[·]?) z.toArray parts=some l.toArray)∧k l
 | [],z,k,h=>⟨z,fun _ _=>rfl,h⟩
 | (i,v)::r,z,k,h=>by
  unfold zl7 at h;cases hi:fs[i]? with
  | none=>rw [hi] at h;exact h.elim
  | some x =>
   obtain ⟨off,sz,g⟩:=x;rw [hi] at h;simp only at h;cases hb:Nat.beq (zam v).length sz with
   | false=>rw [hb] at h;exact h.elim
   | true =>
    rw [hb] at h;simp only at h;have hsz:=Nat.eq_of_beq_eq_true hb;obtain ⟨hle,h⟩:=zfJ _ _ _ _ h;obtain ⟨l,hl,hk⟩:=ze4 r _ k h;refine ⟨l,fun places hp=>?_,hk⟩;unfold Instr.fill;have e1:v.cells.size=sz:=by rw [← hsz,zbI];simp
    have e2:v.cells.size=(zam v).length:=by rw [zbI];simp
    simp only [hp i off sz g hi];rw [if_neg (by simp only [List.size_toArray];rw [e2] at e1;rw [e2];simp;omega)]
    have e3:v.cells.zipIdx.foldl (fun (cs:Array Value) (x:Value × Nat)=>cs.setIfInBounds (off+x.2) x.1) z.toArray=(zaO z off (zam v)).toArray:=by
     have:=zmR (zam v) z off 0 (by omega);rw [← Array.foldl_toList];simpa [zbI] using this
    rw [← hl places hp];congr 1

theorem zoq {t:TypeId}{kd:TK}(h:zcR P t kd=true) (hne:kd≠.iface):∃ d,P.underlying t=some d∧∀ ms,d≠.interface ms:=by
 cases hu:P.underlying t with
 | none=>cases kd<;>simp [zcR,hu] at h
 | some d =>
  refine ⟨d,rfl,fun ms hd=>?_⟩;subst hd;cases kd<;>simp [zcR,hu] at h;exact hne rfl

theorem zo0 {t:TypeId}{fs:List (Nat × Nat × Bool)}{n:Nat}{z:Value}{zs:List Value}(hok:TIok P t ⟨n,.struct fs,z::zs⟩) {parts:List (Nat × Value)}{l:List Value}
  (hl:∀ places:Array (Nat × Nat),(∀ (i off sz:Nat) (g:Bool),fs[i]?=some (off,sz,g)→places[i]?=some (off,sz))→Instr.fill (places[·]?) (z::zs).toArray parts=some l.toArray) (w:World) :
  (Instr.build t parts.toArray).run P w = .ok (.agg l.toArray) w:=by
 obtain ⟨F,hu,_,hF⟩:=zec (t:=t) hok.kind;have hz:=hok.zero.resolve_left (by simp);simp only [TK.agg] at hz;obtain ⟨inf,h1,h2⟩:=Option.bind_eq_some_iff.1 hz
 have hmap:∀ (L:List Field) (w:World),(∀ f∈L,(P.info? f.type).isSome=true)→(L.mapM (fun f=>(do pure (f.offset,← sizeOf f.type):Sem (Nat × Nat)))).run P w = .ok (L.map fun f=>(f.offset,P.cellsOf f.type)) w:=by
  intro L
  induction L with
  | nil=>intro w _;rfl
  | cons f L ih =>
   intro w hL;rw [List.mapM_cons,Sem.run_bind]
   have e1:(do pure (f.offset,← sizeOf f.type):Sem (Nat × Nat)).run P w = .ok (f.offset,P.cellsOf f.type) w:=by
    simp [zaQ (hL f (by simp)) w]
   rw [e1,Result.andThen_ok,Sem.run_bind,ih w (fun g hg=>hL g (by simp [hg]))];rfl
 have hall:∀ f∈F.toList,(P.info? f.type).isSome=true:=by
  intro f hf;obtain ⟨i,hi,rfl⟩:=List.mem_iff_getElem.1 hf;have hi':i < fs.length:=by rw [← ‹F.size=fs.length›];simpa using hi
  obtain ⟨g,hg,_,_,_,hinf,_⟩:=hF i (fs[i]).1 (fs[i]).2.1 (fs[i]).2.2 (by simp [List.getElem?_eq_getElem hi'])
  have:F.toList[i]=g:=by
   have:=(Array.getElem?_eq_some_iff.1 hg).2;simpa using this
  rw [this];exact hinf
 have hm:=hmap F.toList w hall
 have hplaces:(F.mapM (fun f=>(do pure (f.offset,← sizeOf f.type):Sem (Nat × Nat)))).run P w = .ok (F.toList.map fun f=>(f.offset,P.cellsOf f.type)).toArray w:=by
  rw [Array.mapM_eq_mapM_toList,Sem.run_map,hm];rfl
 have hfill:=hl (F.toList.map fun f=>(f.offset,P.cellsOf f.type)).toArray (by
  intro i off sz g hi;obtain ⟨f,hf,rfl,rfl,_⟩:=hF i off sz g hi;simp [hf])
 have z1:(zeroValue t).run P w = .ok (.agg (z::zs).toArray) w:=by simp [zeroValue,typeInfo,h1,h2]
 have u1:(underlying t).run P w = .ok (.struct F) w:=by simp [underlying,hu]
 rw [Instr.build,Sem.run_bind,z1,Result.andThen_ok,Sem.run_bind,u1,Result.andThen_ok];simp only [];rw [Sem.run_bind,hplaces,Result.andThen_ok];simp only [Value.cells,hfill];rfl

theorem zf1 (hτ:TabOk P τ) (hf:Fits N σ a) {o:Oper}{k:Value→Prop}(h:zd8 P τ σ o.op k):∃ v,Yv P o a v∧k v:=by
 obtain ⟨dst,op,ty,pos,after,guard⟩:=o;unfold Yv;simp only at h;unfold zd8 at h;split at h
 ·split at h
  ·rename_i hx;exact ⟨_,fun w=>by simp [execOp,zaq hf hx],h⟩
  ·exact h.elim
 ·split at h
  ·rename_i hx;exact ⟨_,fun w=>by simp [execOp,zaq hf hx],h⟩
  ·exact h.elim
 ·split at h
  ·rename_i b hc;rcases zlh h with ⟨rfl,h2⟩ | ⟨rfl,h2⟩
   ·split at h2
    ·rename_i hx;exact ⟨_,fun w=>by simp [execOp,zaq hf hx,zaq hf hc,asBool],h2⟩
    ·exact h2.elim
   ·split at h2
    ·rename_i hx;exact ⟨_,fun w=>by simp [execOp,zaq hf hx,zaq hf hc,asBool],h2⟩
    ·exact h2.elim
  ·exact h.elim
 ·split at h
  ·rename_i hx;exact ⟨_,fun w=>by simp [execOp,zaq hf hx,Op.unary],h⟩
  ·exact h.elim
 ·split at h
  ·rename_i hx;exact ⟨_,fun w=>by simp only [execOp,zaq hf hx];exact zev (fun w=>by simp only [Op.unary,Op.intArith,zhp h.lo h.hi];rfl) w,h.go⟩
  ·exact h.elim
 ·split at h
  ·rename_i hx;obtain ⟨r,hr,hk⟩:=h.ex;refine ⟨r,fun w=>?_,hk⟩;simp only [execOp,zaq hf hx];exact zev hr w
  ·exact h.elim
 ·split at h
  ·rename_i hx hy;obtain ⟨r,hr,hk⟩:=znJ (x:=_) hτ h;refine ⟨r,fun w=>?_,hk⟩;simp only [execOp,zaq hf hx,zaq hf hy];exact zev (fun w=>hr w) w
  ·exact h.elim
 ·split at h
  ·rename_i hx;split at h
   ·rename_i hn;rw [zsr] at hn;exact ⟨_,fun w=>by simp [execOp,zaq hf hx,Instr.extract,← Array.getElem?_toList,hn],h⟩
   ·exact h.elim
  ·exact h.elim
 ·split at h
  ·rename_i hx;exact ⟨_,fun w=>by simp only [execOp,zaq hf hx];rfl,h⟩
  ·rename_i hx;exact ⟨_,fun w=>by simp only [execOp,zaq hf hx];rfl,h⟩
  ·exact h.elim
 ·split at h
  ·rename_i hx hi;split at h
   ·rename_i hfs;obtain ⟨F,hu,_,hF⟩:=zec (zbn hτ hi);obtain ⟨f,hf1,rfl,hf3,hf4,hf5,hf6,hf7⟩:=hF _ _ _ _ hfs;refine ⟨_,fun w=>?_,h⟩;simp only [execOp,zaq hf hx];refine zev (fun w=>?_) w;simp [Instr.fieldAt,underlying,hu,hf1,Instr.sureAddr,fieldPlace,zaQ hf5 w,hf3,hf7,zbl]
   ·exact h.elim
  ·exact h.elim
 ·split at h
  ·rename_i hx hi ht;obtain ⟨hu,he,hg,hI,hd⟩:=zhB (zbn hτ ht);refine ⟨_,fun w=>?_,h.go⟩;simp only [execOp,zaq hf hx,zaq hf hi];refine zev (fun w=>?_) w;simp [Instr.indexAt,asIntOf,underlying,hu,Instr.sureAddr,h.lo,h.hi,zaQ hI w,he,zbl]
  ·rename_i hx hi ht;obtain ⟨hu,he,hg,hI,hd⟩:=zdB (zbn hτ ht);refine ⟨_,fun w=>?_,h.go⟩;simp only [execOp,zaq hf hx,zaq hf hi];refine zev (fun w=>?_) w;simp [Instr.indexAt,asIntOf,underlying,hu,h.lo,h.hi,zaQ hI w,he,zbl]
  ·exact h.elim
 ·split at h
  ·rename_i hx hi;obtain ⟨r,hr,hk⟩:=h.ex;refine ⟨r,fun w=>?_,hk⟩;simp only [execOp,zaq hf hx,zaq hf hi];exact zev hr w
  ·exact h.elim
 ·split at h
  ·rename_i hx ht;obtain ⟨F,hu,_,hF⟩:=zec (zbn hτ ht);split at h
   ·rename_i hfs;obtain ⟨f,hf1,rfl,hf3,hf4,hf5,hf6,hf7⟩:=hF _ _ _ _ hfs;obtain ⟨hle,hk⟩:=zhH _ _ _ _ h;refine ⟨_,fun w=>?_,hk⟩;simp only [execOp,zaq hf hx];refine zev (fun w=>?_) w;have e:=ziO hf5 hf6 hf3 hle hf4 w;simp [Instr.field,underlying,hu,hf1,asAgg] at e ⊢;exact e
   ·rename_i hfs;obtain ⟨f,hf1,rfl,hf3,hf4,hf5,hf6,hf7⟩:=hF _ _ _ _ hfs;split at h
    ·rename_i hn;rw [zsr] at hn;refine ⟨_,fun w=>?_,h⟩;simp only [execOp,zaq hf hx];refine zev (fun w=>?_) w;have e:=zeX hf6 hn hf4 w;simp [Instr.field,underlying,hu,hf1,asAgg] at e ⊢;exact e
    ·exact h.elim
   ·exact h.elim
  ·exact h.elim
 ·split at h
  ·rename_i v _ kd _ hx ht;have hk:=zbn hτ ht;split at h
   ·exact h.elim
   ·rename_i hne;obtain ⟨d,hd,hdn⟩:=zoq hk (fun e=>hne e);refine ⟨_,fun w=>?_,h⟩;simp only [execOp,zaq hf hx];refine zev (fun w=>?_) w;cases d<;>simp [Instr.makeInterface,underlying,hd] at hdn ⊢
  ·exact h.elim
 ·have h1:=zba hf _ _ h;have h2:=zba hf _ _ h1;exact ⟨_,fun w=>by simp [execOp,Instr.makeFunc,← List.map_toArray],h2⟩
 ·have h1:=zdV hf _ _ h;split at h1
  ·rename_i ht;have hok:=hτ _ _ ht;obtain ⟨l,hl,hk⟩:=ze4 _ _ _ h1;refine ⟨_,fun w=>?_,hk⟩;simp only [execOp];refine zev (fun w=>?_) w;have:=zo0 hok hl w;rw [← this];congr 2;rw [← List.map_toArray]
  ·obtain ⟨r,hr,hk⟩:=h1.ex;refine ⟨r,fun w=>?_,hk⟩;simp only [execOp];refine zev (fun w=>?_) w;rw [← hr w];congr 2;rw [← List.map_toArray]
 ·have h1:=zba hf _ _ h;rename_i av ts;have hmap:av.map a.eval=(av.toList.map a.eval).toArray:=by rw [← List.map_toArray]
  split at h1
  ·rename_i hv hts;split at h1
   ·rename_i ht;obtain ⟨hu,_⟩:=zdB (zbn hτ ht);refine ⟨_,fun w=>?_,h1⟩;obtain rfl:ts = #[_]:=by rw [← Array.toArray_toList (xs:=ts),hts]
    simp [execOp,resolve,invoke,builtin,hmap,hv,Builtin.len_,underlying,hu,goInt]
   ·exact h1.elim
  ·rename_i hv hts;split at h1
   ·rename_i ht;have hu:=zpd (zbn hτ ht);refine ⟨_,fun w=>?_,h1⟩;obtain rfl:ts = #[_]:=by rw [← Array.toArray_toList (xs:=ts),hts]
    simp [execOp,resolve,invoke,builtin,hmap,hv,Builtin.len_,underlying,hu,goInt]
   ·exact h1.elim
  ·rename_i hv hts;split at h1
   ·rename_i ht;obtain ⟨hu,_⟩:=zhB (zbn hτ ht);refine ⟨_,fun w=>?_,h1⟩;obtain rfl:ts = #[_]:=by rw [← Array.toArray_toList (xs:=ts),hts]
    simp [execOp,resolve,invoke,builtin,hmap,hv,Builtin.len_,underlying,hu,goInt]
   ·exact h1.elim
  ·exact h1.elim
 ·have h1:=zba hf _ _ h;rename_i av ts;have hmap:av.map a.eval=(av.toList.map a.eval).toArray:=by rw [← List.map_toArray]
  split at h1
  ·rename_i hv hts;split at h1
   ·rename_i ht;obtain ⟨hu,_⟩:=zdB (zbn hτ ht);refine ⟨_,fun w=>?_,h1⟩;obtain rfl:ts = #[_]:=by rw [← Array.toArray_toList (xs:=ts),hts]
    simp [execOp,resolve,invoke,builtin,hmap,hv,Builtin.cap_,underlying,hu,goInt]
   ·exact h1.elim
  ·exact h1.elim
 ·have h1:=zba hf _ _ h;rename_i av ts;have hmap:av.map a.eval=(av.toList.map a.eval).toArray:=by rw [← List.map_toArray]
  split at h1
  ·rename_i hv;refine ⟨_,fun w=>?_,h1⟩;simp [execOp,resolve,invoke,builtin,hmap,hv,Builtin.min_,Builtin.min2]
  ·exact h1.elim
 ·have h1:=zba hf _ _ h;rename_i av ts;have hmap:av.map a.eval=(av.toList.map a.eval).toArray:=by rw [← List.map_toArray]
  split at h1
  ·rename_i hv;refine ⟨_,fun w=>?_,h1⟩;simp [execOp,resolve,invoke,builtin,hmap,hv,Builtin.max_,Builtin.max2]
  ·exact h1.elim
 ·split at h
  ·rename_i hx;obtain ⟨r,hr,hk⟩:=h.ex;exact ⟨r,fun w=>by simp only [execOp,zaq hf hx];exact zev hr w,hk⟩
  ·rename_i hx;obtain ⟨r,hr,hk⟩:=h.ex;exact ⟨r,fun w=>by simp only [execOp,zaq hf hx];exact zev hr w,hk⟩
  ·exact h.elim
 ·split at h
  ·rename_i hx ht;obtain ⟨hu,he,hg,hI,hd⟩:=zhB (zbn hτ ht);split at h
   ·exact h.elim
   ·rename_i hn0;have hn:_≠0:=Nat.ne_of_beq_eq_false hn0;refine ⟨_,fun w=>?_,h⟩;simp only [execOp,zaq hf hx];refine zev (fun w=>?_) w;simp [Instr.sliceAt,underlying,hu,Instr.sureAddr,Instr.sliceBounds,zaQ hI w,zbl]
  ·exact h.elim
 ·split at h
  ·rename_i hx hl hh hm;obtain ⟨r,hr,hk⟩:=h.ex;refine ⟨r,fun w=>?_,hk⟩;simp only [execOp,zaq hf hx];refine zev (fun w=>?_) w;rw [← hr w]
   have hopt:∀ (o:Option Operand) (u:Option Value),(o.elim (some none) fun y=>(ro σ y).map some)=some u→o.map a.eval=u:=by
    intro o u ho;cases o with
    | none=>simpa using ho
    | some y =>
     simp only [Option.elim_some,Option.map_eq_some_iff] at ho;obtain ⟨v,hv,rfl⟩:=ho;simp [zaq hf hv]
   rw [hopt _ _ hl,hopt _ _ hh,hopt _ _ hm]
  ·exact h.elim
 ·exact h.elim
end
end Go.Proofs.YtogjajjdaoihdaaGreatDoor.Ev

namespace Go.Proofs.YtogjajjdaoihdaaGreatDoor.Ev
set_option maxRecDepth 20000
open Go

def Blk (w:World) (b:Nat) (t:TypeId) (cs:List Value):Prop:=w.heap[b]?=some (.cells cs.toArray t (0,0))
def CellsAt (w:World) (b o:Nat) (l:List Value):Prop:=∀ i v,l[i]?=some v→w.cell? ⟨b,o+i,none⟩=some v
def zbE (w:World) (b:Nat) (t:TypeId) (cs:List Value):World:={ w with heap:=w.heap.setIfInBounds b (.cells cs.toArray t (0,0)) }
def zbk (w:World) (t:TypeId) (cs:List Value):World:={ w with heap:=w.heap.push (.cells cs.toArray t (0,0)) }
def zcN:Value→Bool
 | .agg _ | .tuple _=>false
 | _=>true

structure LdC (w:World) (b o:Nat) (k:Value→Prop):Prop where
 ex:∃ v,w.cell? ⟨b,o,none⟩=some v∧k v
structure LdA (w:World) (b o n:Nat) (k:Value→Prop):Prop where
 ex:∃ l:List Value,l.length=n∧CellsAt w b o l∧k (.agg l.toArray)
structure StC (w:World) (b o:Nat) (vs:List Value) (k:World→Prop):Prop where
 ex:∃ t cs,Blk w b t cs∧o+vs.length≤cs.length∧(∀ v∈vs,zcN v=true)∧k (zbE w b t (zaO cs o vs))
structure NewC (w:World) (t:TypeId) (cs:List Value) (k:Value→World→Prop):Prop where
 ex:k (.pointer (some ⟨w.heap.size,0,none⟩)) (zbk w t cs)
structure ZeroC (P:Program) (t:TypeId) (k:List Value→Prop):Prop where
 ex:∃ z,(P.info? t).bind (·.zero)=some z∧k (zam z)
structure CallC (P:Program) (f:FuncId) (args:Array Value) (w:World) (k:Value→World→Prop):Prop where
 ex:((callFunc f args).run P w = .ok (.enter f args) w∧Calls P f args w fun e w'=>∃ v,e = .returned v∧k v w')∨∃ v w',(callFunc f args).run P w = .ok (.value v) w'∧k v w'
structure InvC (P:Program) (t:TypeId) (v:Value) (name:String) (args:List Value) (w:World) (k:Value→World→Prop):Prop where
 ex:∃ f r,(Go.method (P.types.size+Made.depth) t v name).run P w = .ok (f,r) w∧CallC P f (r::args).toArray w k
structure IfEqC (P:Program) (op:BinOp) (t:TypeId) (x y:Value) (w:World) (k:Value→Prop):Prop where
 ex:∃ v,(Go.binOp op t x y).run P w = .ok v w∧k v
structure RunC (P:Program) (s:Sem Value) (w:World) (k:Value→World→Prop):Prop where
 ex:∃ v w',s.run P w = .ok v w'∧k v w'
structure RunU (P:Program) (s:Sem Unit) (w:World) (k:World→Prop):Prop where
 ex:∃ w',s.run P w = .ok () w'∧k w'

theorem CallC.mono {P:Program}{f:FuncId}{args:Array Value}{w:World}{R k:Value→World→Prop}(h:CallC P f args w R) (hk:∀ v w',R v w'→k v w'):CallC P f args w k :=
 ⟨by
  rcases h.ex with ⟨h1,h2⟩ | ⟨v,w',h1,h2⟩
  ·exact .inl ⟨h1,h2.mono fun _ _ ⟨v,he,hv⟩=>⟨v,he,hk _ _ hv⟩⟩
  ·exact .inr ⟨v,w',h1,hk _ _ h2⟩⟩
theorem CallC.calls {P:Program}{f:FuncId}{fn:Func}{args:Array Value}{w:World}{k:Value→World→Prop}(h:CallC P f args w k) (hf:P.funcs[f]?=some fn) (hb:fn.body.isNone=false):Calls P f args w fun e w'=>∃ v,e = .returned v∧k v w':=by
 rcases h.ex with ⟨_,h2⟩ | ⟨v,w',h1,_⟩
 ·exact h2
 ·exfalso;unfold callFunc at h1
  have hb':¬ fn.body=none:=by
   intro h;rw [h] at hb;cases hb
  by_cases hn : fn.name = "runtime.NumGoroutine" <;> simp [program, Sem.run, hf, hb', hn] at h1
theorem CallC.extern {P:Program}{f:FuncId}{args:Array Value}{w w':World}{v:Value}{k:Value→World→Prop}(h:(callFunc f args).run P w = .ok (.value v) w') (hk:k v w'):CallC P f args w k:=⟨.inr ⟨v,w',h,hk⟩⟩

def zdD (P:Program) (τ:Tab) (σ:zar) (op:Op) (w:World) (k:Value→World→Prop):Prop :=
 match op with
 | .load t x=>match ro σ x,tl τ t with
  | some (.pointer (some ⟨b,o,none⟩)),some ⟨n,kd,_⟩=>(match kd.agg with
   | true=>LdA w b o n fun v=>k v w
   | false=>LdC w b o fun v=>k v w)
  | _,_=>False
 | .store t x y=>match ro σ x,ro σ y,tl τ t with
  | some (.pointer (some ⟨b,o,none⟩)),some v,some ⟨n,_,_⟩=>(match Nat.beq (zam v).length n with
   | true=>StC w b o (zam v) fun w'=>k undef w'
   | false=>False)
  | _,_,_=>False
 | .box t x=>match ro σ x with
  | some v=>NewC w t (zam v) k
  | none=>False
 | .alloc t=>match tl τ t with
  | some ⟨_,kd,z::zs⟩=>(match kd.agg,zs,zcN z with
   | true,zs,_=>NewC w t (z::zs) k
   | false,[],true=>NewC w t [z] k
   | _,_,_=>False)
  | _=>ZeroC P t fun cs=>NewC w t cs k
 | .call { callee:=.value f,args:=av,argTypes:=_ }=>match ro σ f with
  | some (.func (.func g) first caps)=>zeS σ av.toList fun vs=>(match first.toList,caps.toList with
   | [],[]=>CallC P g vs.toArray w k
   | [],c::cs=>CallC P g (vs++(c::cs)).toArray w k
   | x::xs,cs=>CallC P g ((x::xs)++vs++cs).toArray w k)
  | _=>False
 | .call { callee:=.invoke x name,args:=av,argTypes:=_ }=>match ro σ x with
  | some (.iface t v)=>zeS σ av.toList fun vs=>InvC P t v name vs w k
  | _=>False
 | .call { callee:=.builtin .append,args:=av,argTypes:=ts }=>zeS σ av.toList fun vs=>RunC P (Builtin.append_ ts 0 vs.toArray) w k
 | .call { callee:=.builtin .copy,args:=av,argTypes:=ts }=>zeS σ av.toList fun vs=>RunC P (Builtin.copy_ ts 0 vs.toArray) w k
 | .call { callee:=.builtin .clear,args:=av,argTypes:=ts }=>zeS σ av.toList fun vs=>RunC P (Builtin.clear_ ts 0 vs.toArray) w k
 | .buildSlice t n parts=>zfO σ parts.toList fun ps=>RunC P (Instr.buildSlice t n ps.toArray) w k
 | .makeSlice t l c=>match ro σ l,ro σ c with
  | some vl,some vc=>RunC P (Instr.makeSlice t vl vc) w k
  | _,_=>False
 | .makeMap t none=>RunC P (Instr.makeMap t none) w k
 | .lookup t x i ok=>match ro σ x,ro σ i with
  | some vx,some vi=>RunC P (Instr.lookup t vx vi ok) w k
  | _,_=>False
 | .mapUpdate t m x y=>match ro σ m,ro σ x,ro σ y with
  | some vm,some vx,some vy=>RunU P (Instr.mapUpdate t vm vx vy) w fun w'=>k undef w'
  | _,_,_=>False
 | .insert t m x y=>match ro σ m,ro σ x,ro σ y with
  | some vm,some vx,some vy=>RunU P (Instr.mapUpdate t vm vx vy) w fun w'=>k undef w'
  | _,_,_=>False
 | .convert s d x=>match ro σ x with
  | some v=>RunC P (Go.convert s d v) w k
  | none=>False
 | .typeAssert x t u ok=>match ro σ x with
  | some v=>RunC P (Instr.typeAssert v t u ok) w k
  | none=>False
 | _=>False

def zcO:Op→Bool
 | .move _ | .assign _ | .pick .. | .unOp .. | .binOp .. | .extract .. | .nilCheck _ | .fieldAddr .. | .indexAddr .. | .index .. | .field .. | .makeInterface .. | .makeFunc .. | .build .. | .slice ..=>true
 | .call { callee:=.builtin .len,.. } | .call { callee:=.builtin .cap,.. } | .call { callee:=.builtin .min,.. } | .call { callee:=.builtin .max,.. }=>true
 | _=>false

def zso:Value→Bool
 | .bool _=>true
 | _=>false

def zek (N:Nat) (dst:Option Nat) (v:Value) (σ:zar) (k:zar→Prop):Prop :=
 match dst with
 | none=>k σ
 | some d=>match Nat.blt d N with
  | true=>k ((d,v)::σ)
  | false=>False

def zqE:List Oper→Nat→Option Nat
 | [],_=>none
 | o::_,0=>o.dst
 | _::r,n+1=>zqE r n

def zdf (N:Nat) (ops:List Oper) (g:Option (Nat × Bool)) (σ:zar) (yes no:zar→Prop):Prop :=
 match g with
 | none=>yes σ
 | some (j,want)=>match zqE ops j with
  | none=>False
  | some d=>match ziQ σ d with
   | some (.bool b)=>(match want with
    | true=>br b (yes ((d,.bool true)::σ)) (no ((d,.bool false)::σ))
    | false=>br b (no ((d,.bool true)::σ)) (yes ((d,.bool false)::σ)))
   | some v=>(match zso v with
    | true=>False
    | false=>no σ)
   | none=>False

def zgi (σ:zar):Op→Option (BinOp × TypeId × Value × Value)
 | .binOp op t x y _=>match ro σ x,ro σ y with
  | some (.iface a u),some (.iface b v)=>some (op,t,.iface a u,.iface b v)
  | _,_=>none
 | _=>none

def zky (P:Program) (τ:Tab) (N:Nat) (ops:List Oper):List Oper→(zar→World→Prop)→zar→World→Prop
 | [],Q,σ,w=>Q σ w
 | ⟨dst,op,_,_,_,g⟩::rest,Q,σ,w =>
  zdf N ops g σ
   (fun σ=>match zcO op with
    | true=>(match zgi σ op with
     | some (bop,t,x,y)=>IfEqC P bop t x y w fun v=>zek N dst v σ fun σ=>zky P τ N ops rest Q σ w
     | none=>zd8 P τ σ op fun v=>zek N dst v σ fun σ=>zky P τ N ops rest Q σ w)
    | false=>zdD P τ σ op w fun v w=>zek N dst v σ fun σ=>zky P τ N ops rest Q σ w)
   (fun σ=>zek N dst undef σ fun σ=>zky P τ N ops rest Q σ w)

def zvo (N:Nat) (Q:Exit→zar→World→Prop):Exit→Act→World→Prop
 | .normal,a,w=>∃ σ,Fits N σ a∧Q .normal σ w
 | .exit i,a,w=>∃ σ,Fits N σ a∧Q (.exit i) σ w
 | .ret,a,w=>∃ σ,Fits N σ a∧Q .ret σ w
 | _,_,_=>False

structure DrawC (P:Program) (τ:Tab) (N:Nat) (ops:Array Oper) (Q:zar→World→Prop) (σ:zar) (w:World):Prop where
 go:∀ id a,Fits N σ a→(Code.region id ops true).wp P (fun e a' w'=>e = .normal∧∃ σ',Fits N σ' a'∧Q σ' w') a w
structure LoopC (P:Program) (τ:Tab) (N:Nat) (body:Code) (Q:Exit→zar→World→Prop) (σ:zar) (w:World):Prop where
 go:∀ a,Fits N σ a→(Code.loop body).wp P (zvo N Q) a w

def ev (P:Program) (τ:Tab) (N:Nat):Code→(Exit→zar→World→Prop)→zar→World→Prop
 | .skip,Q,σ,w=>Q .normal σ w
 | .region _ ops false,Q,σ,w=>zky P τ N ops.toList ops.toList (fun σ w=>Q .normal σ w) σ w
 | .region _ ops true,Q,σ,w=>DrawC P τ N ops (fun σ w=>Q .normal σ w) σ w
 | .seq x y,Q,σ,w=>ev P τ N x (fun e σ w=>match e with
  | .normal=>ev P τ N y Q σ w
  | e=>Q e σ w) σ w
 | .cond c x y,Q,σ,w=>match ro σ c with
  | some (.bool b)=>br b (ev P τ N x Q σ w) (ev P τ N y Q σ w)
  | _=>False
 | .block id c,Q,σ,w=>ev P τ N c (fun e σ w=>match e with
  | .exit i=>(match Nat.beq i id with
   | true=>Q .normal σ w
   | false=>Q (.exit i) σ w)
  | e=>Q e σ w) σ w
 | .loop c,Q,σ,w=>LoopC P τ N c Q σ w
 | .exit i,Q,σ,w=>Q (.exit i) σ w
 | .ret,Q,σ,w=>Q .ret σ w
 | _,_,_,_=>False

section
variable {P : Program} {τ : Tab} {N : Nat} {σ : zar} {a : Act} {w : World}

theorem Blk.lt {b:Nat}{t:TypeId}{cs:List Value}(h:Blk w b t cs):b < w.heap.size:=(Array.getElem?_eq_some_iff.1 h).1
theorem Blk.cell {b:Nat}{t:TypeId}{cs:List Value}(h:Blk w b t cs) (o:Nat):w.cell? ⟨b,o,none⟩=cs[o]?:=by
 unfold Blk at h;simp [World.cell?,h]
theorem Blk.frozen {b:Nat}{t:TypeId}{cs:List Value}(h:Blk w b t cs) (o:Nat):w.frozen? ⟨b,o,none⟩=false:=by
 unfold Blk at h;simp [World.frozen?,h]

theorem zi5 (b o:Nat):∀ (l:List Value) (i:Nat) (acc:Array Value),(∀ j v,l[j]?=some v→w.cell? ⟨b,o+(i+j),none⟩=some v) →
  (loadCellsFrom ⟨b,o,none⟩ i l.length acc).run P w = .ok (acc++l.toArray) w:=by
 intro l
 induction l with
 | nil=>intro i acc _;simp [loadCellsFrom]
 | cons x l ih =>
  intro i acc h;have h0:=h 0 x rfl;rw [List.length_cons,loadCellsFrom,Sem.run_bind]
  have e:(load ((⟨b,o,none⟩:Addr).add i)).run P w = .ok x w:=by
   rw [zbl];simp [load,Sem.run,show w.cell? ⟨b,o+i,none⟩=some x by simpa using h0]
  rw [e,Result.andThen_ok,ih (i+1) (acc.push x) (fun j v hj=>by
   have:=h (j+1) v (by simpa using hj);rw [show i+1+j=i+(j+1) by omega];exact this)]
  simp

theorem zcF {t:TypeId}{n:Nat}{kd:TK}{z:List Value}{b o:Nat}(hτ:TabOk P τ) (ht:tl τ t=some ⟨n,kd,z⟩) {k:Value→Prop}
  (h:match kd.agg with|true=>LdA w b o n k|false=>LdC w b o k):∃ v,(Instr.loadAt t (.pointer (some ⟨b,o,none⟩))).run P w = .ok v w∧k v:=by
 have hok:=hτ t _ ht;have hagg:=hok.agg_run w;have hsz:=hok.size_run w;cases hk:kd.agg with
 | true =>
  rw [hk] at h hagg;obtain ⟨l,hl,hc,hv⟩:=h.ex;refine ⟨_,?_,hv⟩;have:=zi5 (P:=P) (w:=w) b o l 0 #[] (fun j v hj=>by simpa using hc j v hj);have hsz':(sizeOf t).run P w = .ok l.length w:=by rw [hl];exact hsz
  simp [Instr.loadAt,Instr.sureAddr,loadVar,hagg,hsz',loadCells,this]
 | false =>
  rw [hk] at h hagg;obtain ⟨v,hc,hv⟩:=h.ex;refine ⟨v,?_,hv⟩;simp [Instr.loadAt,Instr.sureAddr,loadVar,hagg,load,Sem.run,hc]

theorem zo5 (v:Value) (hv:zcN v=true) (b o:Nat) (old:Value) (hc:w.cell? ⟨b,o,none⟩=some old) (hf:w.frozen? ⟨b,o,none⟩=false) :
  (store ⟨b,o,none⟩ v).run P w = .ok () (w.setCell ⟨b,o,none⟩ v):=by
 cases v<;>simp [zcN] at hv<;>simp [store,Sem.run,hc,hf]

theorem zcd {b:Nat}{t:TypeId}{cs:List Value}(hb:b < w.heap.size):Blk (zbE w b t cs) b t cs:=by
 simp [Blk,zbE,hb]
theorem znj {b o:Nat}{t:TypeId}{cs:List Value}(h:Blk w b t cs) (v:Value):w.setCell ⟨b,o,none⟩ v=zbE w b t (cs.set o v):=by
 unfold Blk at h;obtain ⟨hb,he⟩:=Array.getElem?_eq_some_iff.1 h;unfold World.setCell zbE;congr 1;apply Array.ext_getElem?;intro i;rw [Array.getElem?_modify,Array.getElem?_setIfInBounds];by_cases hi:b=i
 ·subst hi;simp [he,hb]
 ·rw [if_neg hi,if_neg hi]
theorem zjp {b:Nat}{t:TypeId}{cs ds:List Value}:zbE (zbE w b t cs) b t ds=zbE w b t ds:=by
 simp [zbE]

theorem zcl (b:Nat) (t:TypeId):∀ (vs:List Value) (o i:Nat) (w:World) (cs:List Value),Blk w b t cs→(∀ v∈vs,zcN v=true)→o+i+vs.length≤cs.length →
  (storeCells ⟨b,o,none⟩ vs i).run P w = .ok () (zbE w b t (zaO cs (o+i) vs)):=by
 intro vs
 induction vs with
 | nil =>
  intro o i w cs hb _ _;have e:zaO cs (o+i) []=cs:=by simp [zaO]
  have:zbE w b t cs=w:=by
   unfold Blk at hb;obtain ⟨hl,he⟩:=Array.getElem?_eq_some_iff.1 hb;unfold zbE
   have:w.heap.setIfInBounds b (Obj.cells cs.toArray t (0,0))=w.heap:=by
    apply Array.ext_getElem?;intro i;rw [Array.getElem?_setIfInBounds];by_cases hi:b=i
    ·subst hi;simp [he,hl]
    ·rw [if_neg hi]
   rw [this]
  rw [e,this];rfl
 | cons v vs ih =>
  intro o i w cs hb h1 hle;have hlt:o+i < cs.length:=by simp at hle;omega
  have hc:w.cell? ⟨b,o+i,none⟩=some cs[o+i]:=by rw [hb.cell,List.getElem?_eq_getElem hlt]
  have hs:=zo5 (P:=P) (w:=w) v (h1 v (by simp)) b (o+i) _ hc (hb.frozen _);rw [storeCells,Sem.run_bind,zbl,hs,Result.andThen_ok,znj hb];rw [ih o (i+1) _ (cs.set (o+i) v) (zcd hb.lt) (fun u hu=>h1 u (by simp [hu])) (by simp at hle ⊢;omega),zjp];congr 2;unfold zaO;simp only [List.length_cons] at hle ⊢;rw [List.take_set,List.drop_set_of_lt (by omega)];have e1:o+(i+1)=(o+i)+1:=by omega
  have e2:o+i+1+vs.length=o+i+(vs.length+1):=by omega
  rw [e1,e2,List.take_succ_eq_append_getElem (by omega),List.set_append_right (o+i) v (by simp;omega)];simp [Nat.min_eq_left (show o+i≤cs.length by omega)]

theorem zld {t:TypeId}{n:Nat}{kd:TK}{z:List Value}{b o:Nat}{v:Value}(hτ:TabOk P τ) (ht:tl τ t=some ⟨n,kd,z⟩) {k:World→Prop}(hn:(zam v).length=n) (h:StC w b o (zam v) k) :
  ∃ w',(Instr.storeAt t (.pointer (some ⟨b,o,none⟩)) v).run P w = .ok () w'∧k w':=by
 have hsz:=(hτ t _ ht).size_run w;obtain ⟨t',cs,hb,hle,h1,hk⟩:=h.ex;refine ⟨_,?_,hk⟩;have hc:v.cells.size=n:=by rw [← hn,zbI];simp
 have:=zcl (P:=P) b t' (zam v) o 0 w cs hb h1 (by simpa using hle);have hsz':(sizeOf t).run P w = .ok n w:=hsz;simp [Instr.storeAt,Instr.sureAddr,storeVar,hsz',hc,← zbI,this]

theorem zl3 {t:TypeId}{z:Value}(h:(P.info? t).bind (·.zero)=some z) (w:World):(zeroValue t).run P w = .ok z w:=by
 obtain ⟨inf,h1,h2⟩:=Option.bind_eq_some_iff.1 h;simp [zeroValue,typeInfo,h1,h2]

theorem zbd {o:Oper}{Q:Exit→Act→World→Prop}{v:Value}{w':World}{k:Act→World→Prop}(h:(execOp a.eval o).run P w = .ok (.value v) w') (hk:k (a.put o.dst v) w'):o.wp P a w k Q:=by
 unfold Oper.wp;rw [h];exact hk
theorem zfM {o:Oper}{Q:Exit→Act→World→Prop}{w':World}{k:Act→World→Prop}(h:(execOp a.eval o).run P w = .ok .skip w') (hk:k (a.put o.dst undef) w'):o.wp P a w k Q:=by
 unfold Oper.wp;rw [h];exact hk
theorem zmV {s:Sem Value}{v:Value}{w':World}(h:s.run P w = .ok v w'):(do pure (Next.value (← s)):Sem Next).run P w = .ok (.value v) w':=by
 simp [h]
theorem zu7 {s:Sem Unit}{w':World}(h:s.run P w = .ok () w'):(do s;pure Next.skip:Sem Next).run P w = .ok .skip w':=by
 simp [h]

theorem zsU {t:TypeId}{v:Value}:(Instr.box t v).run P w = .ok (.pointer (some ⟨w.heap.size,0,none⟩)) (zbk w t (zam v)):=by
 simp [Instr.box,newVar,newRow,newObj,Sem.run,zbk,zbI]
theorem zhE {t:TypeId}{z:Value}(h:(P.info? t).bind (·.zero)=some z):(Instr.alloc t true (.tuple #[])).run P w = .ok (.pointer (some ⟨w.heap.size,0,none⟩)) (zbk w t (zam z)):=by
 simp [Instr.alloc,zl3 h,newVar,newRow,newObj,Sem.run,zbk,zbI]

theorem zgz {o:Oper}{Q:Exit→Act→World→Prop}{g:FuncId}{args:Array Value}{k:Value→World→Prop}(he:(execOp a.eval o).run P w=(callFunc g args).run P w) (h:CallC P g args w k) :
  o.wp P a w (fun a' w'=>∃ v,a'=a.put o.dst v∧k v w') Q:=by
 unfold Oper.wp;rw [he];rcases h.ex with ⟨h1,h2⟩ | ⟨v,w',h1,h2⟩
 ·rw [h1];refine Calls.mono h2 ?_;rintro e w' ⟨v,rfl,hv⟩;exact ⟨v,rfl,hv⟩
 ·rw [h1];exact ⟨v,rfl,h2⟩

theorem znZ {z:Value}(h:zcN z=true):zam z=[z]:=by cases z<;>simp_all [zcN,zam]

theorem zeH (hτ:TabOk P τ) (hf:Fits N σ a) {o:Oper}{k:Value→World→Prop}(h:zdD P τ σ o.op w k) (Q:Exit→Act→World→Prop) :
  o.wp P a w (fun a' w'=>∃ v,a'=a.put o.dst v∧k v w') Q:=by
 obtain ⟨dst,op,ty,pos,after,guard⟩:=o;simp only at h;unfold zdD at h;split at h
 ·split at h
  ·rename_i hx ht;obtain ⟨v,hr,hk⟩:=zcF hτ ht h;exact zbd (by simp only [execOp,zaq hf hx];exact zmV hr) ⟨v,rfl,hk⟩
  ·exact h.elim
 ·split at h
  ·rename_i hx hy ht;split at h
   ·rename_i hn;obtain ⟨w',hr,hk⟩:=zld hτ ht (Nat.eq_of_beq_eq_true hn) h;exact zfM (by simp only [execOp,zaq hf hx,zaq hf hy];exact zu7 hr) ⟨undef,rfl,hk⟩
   ·exact h.elim
  ·exact h.elim
 ·split at h
  ·rename_i hx;exact zbd (by simp only [execOp,zaq hf hx];exact zmV zsU) ⟨_,rfl,h.ex⟩
  ·exact h.elim
 ·split at h
  ·rename_i ht;have hok:=(hτ _ _ ht).zero.resolve_left (by simp);simp only at hok;split at h
   ·rename_i hk;rw [hk] at hok;exact zbd (by simp only [execOp];exact zmV (zhE hok)) ⟨_,rfl,h.ex⟩
   ·rename_i hk hone;rw [hk] at hok;simp only [List.headD_cons] at hok;exact zbd (by simp only [execOp];exact zmV (zhE hok)) ⟨_,rfl,by rw [znZ hone];exact h.ex⟩
   ·exact h.elim
  ·obtain ⟨z,hz,hk⟩:=h.ex;exact zbd (by simp only [execOp];exact zmV (zhE hz)) ⟨_,rfl,hk.ex⟩
 ·split at h
  ·rename_i f av ts _ g first caps hx;have h1:=zba hf _ _ h;have hmap:av.map a.eval=(av.toList.map a.eval).toArray:=by rw [← List.map_toArray]
   have e:∀ o:Oper,o.op = .call ⟨.value f,av,ts⟩→(execOp a.eval o).run P w=(callFunc g (first.toList++av.toList.map a.eval++caps.toList).toArray).run P w:=by
    rintro ⟨_,_,_,_,_,_⟩ rfl;simp only [execOp,resolve,zaq hf hx,Deferred.ofValue,Sem.run_bind,Sem.run_pure,Result.andThen_ok,invoke,hmap];congr 2;simp
   split at h1
   ·rename_i h2 h3;refine zgz (g:=g) ?_ h1;rw [e _ rfl,h2,h3];simp
   ·rename_i h2 h3;refine zgz (g:=g) ?_ h1;rw [e _ rfl,h2,h3];simp
   ·rename_i h2;refine zgz (g:=g) ?_ h1;rw [e _ rfl,h2]
  ·exact h.elim
 ·split at h
  ·rename_i x name av ts _ t v hx;obtain ⟨f,r,hm,hc⟩:=(zba hf _ _ h).ex;refine zgz (g:=f) ?_ hc;have hmap : #[Value.iface t v]++av.map a.eval = #[Value.iface t v]++(av.toList.map a.eval).toArray:=by rw [← List.map_toArray]
   simp only [execOp,resolve,zaq hf hx,Sem.run_bind,Sem.run_pure,Result.andThen_ok,invoke,hmap];simp [callMethod,program,Sem.run_bind];rw [show (Sem.run P (Sem.program Sem.pure) w) = .ok P w from rfl];simp only [Result.andThen_ok,hm];rw [List.take_of_length_le (by simp)]
  ·exact h.elim
 ·rename_i av ts;have h1:=zba hf _ _ h;obtain ⟨v,w',hr,hk⟩:=h1.ex;have hmap:av.map a.eval=(av.toList.map a.eval).toArray:=by rw [← List.map_toArray]
  refine zbd ?_ ⟨v,rfl,hk⟩;simp only [execOp,resolve,Sem.run_bind,Sem.run_pure,Result.andThen_ok,invoke,builtin,hmap];rw [show Builtin.append_ ts ty=Builtin.append_ ts 0 from rfl,hr];rfl
 ·rename_i av ts;have h1:=zba hf _ _ h;obtain ⟨v,w',hr,hk⟩:=h1.ex;have hmap:av.map a.eval=(av.toList.map a.eval).toArray:=by rw [← List.map_toArray]
  refine zbd ?_ ⟨v,rfl,hk⟩;simp only [execOp,resolve,Sem.run_bind,Sem.run_pure,Result.andThen_ok,invoke,builtin,hmap];rw [show Builtin.copy_ ts ty=Builtin.copy_ ts 0 from rfl,hr];rfl
 ·rename_i av ts;have h1:=zba hf _ _ h;obtain ⟨v,w',hr,hk⟩:=h1.ex;have hmap:av.map a.eval=(av.toList.map a.eval).toArray:=by rw [← List.map_toArray]
  refine zbd ?_ ⟨v,rfl,hk⟩;simp only [execOp,resolve,Sem.run_bind,Sem.run_pure,Result.andThen_ok,invoke,builtin,hmap];rw [show Builtin.clear_ ts ty=Builtin.clear_ ts 0 from rfl,hr];rfl
 ·have h1:=zdV hf _ _ h;obtain ⟨v,w',hr,hk⟩:=h1.ex;refine zbd ?_ ⟨v,rfl,hk⟩;simp only [execOp];refine zmV ?_;rw [← hr];congr 2;rw [← List.map_toArray]
 ·split at h
  ·rename_i hl hc;obtain ⟨v,w',hr,hk⟩:=h.ex;exact zbd (by simp only [execOp,zaq hf hl,zaq hf hc];exact zmV hr) ⟨v,rfl,hk⟩
  ·exact h.elim
 ·obtain ⟨v,w',hr,hk⟩:=h.ex;exact zbd (by simp only [execOp,Option.map_none];exact zmV hr) ⟨v,rfl,hk⟩
 ·split at h
  ·rename_i hl hc;obtain ⟨v,w',hr,hk⟩:=h.ex;exact zbd (by simp only [execOp,zaq hf hl,zaq hf hc];exact zmV hr) ⟨v,rfl,hk⟩
  ·exact h.elim
 ·split at h
  ·rename_i h1 h2 h3;obtain ⟨w',hr,hk⟩:=h.ex;exact zfM (by simp only [execOp,zaq hf h1,zaq hf h2,zaq hf h3];exact zu7 hr) ⟨_,rfl,hk⟩
  ·exact h.elim
 ·split at h
  ·rename_i h1 h2 h3;obtain ⟨w',hr,hk⟩:=h.ex;exact zfM (by simp only [execOp,zaq hf h1,zaq hf h2,zaq hf h3];exact zu7 hr) ⟨_,rfl,hk⟩
  ·exact h.elim
 ·split at h
  ·rename_i hx;obtain ⟨v,w',hr,hk⟩:=h.ex;exact zbd (by simp only [execOp,zaq hf hx];exact zmV hr) ⟨v,rfl,hk⟩
  ·exact h.elim
 ·split at h
  ·rename_i hx;obtain ⟨v,w',hr,hk⟩:=h.ex;exact zbd (by simp only [execOp,zaq hf hx];exact zmV hr) ⟨v,rfl,hk⟩
  ·exact h.elim
 ·exact h.elim

theorem za3 (hf:Fits N σ a) {dst:Option Nat}{v:Value}{k:zar→Prop}(h:zek N dst v σ k):∃ σ',Fits N σ' (a.put dst v)∧k σ':=by
 unfold zek at h;split at h
 ·exact ⟨σ,hf,h⟩
 ·split at h
  ·rename_i hb;exact ⟨_,hf.put (by simpa [Nat.blt_eq] using hb) v,h⟩
  ·exact h.elim

theorem zrb (l:List Oper) (j:Nat):zqE l j=(l[j]?).bind (·.dst):=by
 induction l generalizing j with
 | nil=>rfl
 | cons o r ih=>cases j with
  | zero=>rfl
  | succ j=>simpa [zqE] using ih j

theorem Fits.cons {d:Nat}{v:Value}(hf:Fits N σ a) (h:ziQ σ d=some v):Fits N ((d,v)::σ) a:=by
 refine ⟨hf.size,hf.defers,fun n u hn=>?_⟩;unfold ziQ at hn;cases hb:Nat.beq d n with
 | true =>
  rw [hb] at hn;have:=Nat.eq_of_beq_eq_true hb;subst this;simp only [Option.some.injEq] at hn;subst hn;exact hf.vals _ _ h
 | false =>
  rw [hb] at hn;exact hf.vals n u hn

theorem zdI (hf:Fits N σ a) {ops:Array Oper}{o:Oper}{yes no:zar→Prop}(h:zdf N ops.toList o.guard σ yes no) :
  (Region.wanted o (yielded ops a.tmps)=true∧∃ σ',Fits N σ' a∧yes σ')∨(Region.wanted o (yielded ops a.tmps)=false∧∃ σ',Fits N σ' a∧no σ'):=by
 unfold zdf at h;split at h
 ·rename_i hg;exact .inl ⟨by simp [Region.wanted,hg],σ,hf,h⟩
 ·rename_i j want hg;split at h
  ·exact h.elim
  ·rename_i d hd;rw [zrb] at hd;split at h
   ·rename_i b hb
    have hy:yielded ops a.tmps j=some b:=by
     have:=hf.vals d _ hb;have hd':(ops[j]?).bind (·.dst)=some d:=by simpa using hd
     unfold yielded;rw [hd'];simp [this]
    have hw:Region.wanted o (yielded ops a.tmps)=(b == want):=by
     simp only [Region.wanted,hg,hy];cases b<;>cases want<;>rfl
    rw [hw];split at h
    ·rcases zlh h with ⟨rfl,h2⟩ | ⟨rfl,h2⟩
     ·exact .inl ⟨rfl,_,hf.cons hb,h2⟩
     ·exact .inr ⟨rfl,_,hf.cons hb,h2⟩
    ·rcases zlh h with ⟨rfl,h2⟩ | ⟨rfl,h2⟩
     ·exact .inr ⟨rfl,_,hf.cons hb,h2⟩
     ·exact .inl ⟨rfl,_,hf.cons hb,h2⟩
   ·rename_i v _ hb;split at h
    ·exact h.elim
    ·rename_i hv _
     have hy:yielded ops a.tmps j=none:=by
      have:=hf.vals d _ hb;have hd':(ops[j]?).bind (·.dst)=some d:=by simpa using hd
      unfold yielded;rw [hd'];cases v<;>simp_all [zso]
     have hw:Region.wanted o (yielded ops a.tmps)=false:=by
      simp only [Region.wanted,hg,hy];cases want<;>rfl
     exact .inr ⟨hw,σ,hf,h⟩
   ·exact h.elim

theorem zu5 {o:Oper}{Q:Exit→Act→World→Prop}{v:Value}{k:Act→World→Prop}(h:Yv P o a v) (hk:k (a.put o.dst v) w):o.wp P a w k Q:=zbd (h w) hk

theorem zni (hf:Fits N σ a) {o:Oper}{bop:BinOp}{t:TypeId}{x y v:Value}(h:zgi σ o.op=some (bop,t,x,y)) (hv:(Go.binOp bop t x y).run P w = .ok v w):(execOp a.eval o).run P w = .ok (.value v) w:=by
 obtain ⟨dst,op,ty,pos,after,g⟩:=o;simp only at h;unfold zgi at h;split at h
 ·split at h
  ·rename_i hx hy;simp only [Option.some.injEq,Prod.mk.injEq] at h;obtain ⟨rfl,rfl,rfl,rfl⟩:=h;simp only [execOp,zaq hf hx,zaq hf hy];refine zmV ?_
   have hg:∀ (bop:BinOp) (t:TypeId) (x y:Operand) (c d:TypeId) (u v:Value),(eqGuard bop t x y (.iface c u) (.iface d v)).run P w = .ok () w:=by
    intro bop t x y c d u v;unfold eqGuard;cases bop<;>rfl
   rw [Sem.run_bind,hg,Result.andThen_ok,hv]
  ·cases h
 ·cases h

theorem zed (hτ:TabOk P τ) {ops:Array Oper}{R:Exit→Act→World→Prop}{Q:zar→World→Prop}(hQ:∀ a w σ,Fits N σ a→Q σ w→R .normal a w) :
  ∀ (l:List Oper) (σ:zar) (a:Act) (w:World),Fits N σ a→zky P τ N ops.toList l Q σ w→wpList P ops R l a w
 | [],σ,a,w,hf,h=>hQ a w σ hf h
 | o::rest,σ,a,w,hf,h=>by
  obtain ⟨dst,op,ty,pos,after,g⟩:=o;unfold zky at h;unfold wpList;rcases zdI (o:=⟨dst,op,ty,pos,after,g⟩) hf h with ⟨hw,σ',hf',h2⟩ | ⟨hw,σ',hf',h2⟩
  ·rw [if_pos hw];refine .inl ?_;split at h2
   ·split at h2
    ·rename_i hif;obtain ⟨v,hv,h3⟩:=h2.ex;obtain ⟨σ'',hf'',h4⟩:=za3 hf' h3;exact zbd (zni hf' (o:=⟨dst,op,ty,pos,after,g⟩) hif hv) (zed hτ hQ rest σ'' _ w hf'' h4)
    ·obtain ⟨v,hv,h3⟩:=zf1 (o:=⟨dst,op,ty,pos,after,g⟩) hτ hf' h2;obtain ⟨σ'',hf'',h4⟩:=za3 hf' h3;exact zu5 hv (zed hτ hQ rest σ'' _ w hf'' h4)
   ·refine Oper.wp_mono ?_ (zeH (o:=⟨dst,op,ty,pos,after,g⟩) hτ hf' h2 R);rintro a' w' ⟨v,rfl,h3⟩;obtain ⟨σ'',hf'',h4⟩:=za3 hf' h3;exact zed hτ hQ rest σ'' _ w' hf'' h4
  ·rw [if_neg (by simp [hw])];obtain ⟨σ'',hf'',h4⟩:=za3 hf' h2;exact zed hτ hQ rest σ'' _ w hf'' h4

theorem zdn (hτ:TabOk P τ):∀ (c:Code) (Q:Exit→zar→World→Prop) (σ:zar) (a:Act) (w:World),Fits N σ a→ev P τ N c Q σ w→c.wp P (zvo N Q) a w
 | .skip,Q,σ,a,w,hf,h=>wp_skip ⟨σ,hf,h⟩
 | .region id ops false,Q,σ,a,w,hf,h=>by
  refine wp_region_list (zed hτ (Q:=fun σ w=>Q .normal σ w) ?_ ops.toList σ a w hf h);exact fun a w σ hf hq=>⟨σ,hf,hq⟩
 | .region id ops true,Q,σ,a,w,hf,h=>by
  have h:DrawC P τ N ops (fun σ w=>Q .normal σ w) σ w:=h;refine wp_mono (h.go id a hf) ?_;rintro e a w ⟨rfl,σ',hf',hq⟩;exact ⟨σ',hf',hq⟩
 | .seq x y,Q,σ,a,w,hf,h=>by
  refine wp_seq (wp_mono (zdn hτ x _ σ a w hf h) ?_);intro e a w hq;cases e with
  | normal =>
   obtain ⟨σ',hf',hq⟩:=hq;exact zdn hτ y Q σ' a w hf' hq
  | exit i=>exact hq
  | ret=>exact hq
  | goto l=>exact hq.elim
  | panic c=>exact hq.elim
  | outgrown=>exact hq.elim
 | .cond c x y,Q,σ,a,w,hf,h=>by
  unfold ev at h;split at h
  ·rename_i b hb;refine wp_cond_split (zaq hf hb) (fun ht=>?_) (fun ht=>?_)
   ·subst ht;exact zdn hτ x Q σ a w hf h
   ·subst ht;exact zdn hτ y Q σ a w hf h
  ·exact h.elim
 | .block id c,Q,σ,a,w,hf,h=>by
  refine wp_block (wp_mono (zdn hτ c _ σ a w hf h) ?_);intro e a w hq;cases e with
  | normal=>exact hq
  | exit i =>
   obtain ⟨σ',hf',hq⟩:=hq;simp only at hq;unfold Exit.inBlock;simp only;split at hq
   ·rename_i hb;rw [if_pos (Nat.eq_of_beq_eq_true hb)];exact ⟨σ',hf',hq⟩
   ·rename_i hb;rw [if_neg (Nat.ne_of_beq_eq_false hb)];exact ⟨σ',hf',hq⟩
  | ret=>exact hq
  | goto l=>exact hq.elim
  | panic c=>exact hq.elim
  | outgrown=>exact hq.elim
 | .loop c,Q,σ,a,w,hf,h=>by
  have h:LoopC P τ N c Q σ w:=h;exact h.go a hf
 | .exit i,Q,σ,a,w,hf,h=>wp_exit ⟨σ,hf,h⟩
 | .ret,Q,σ,a,w,hf,h=>wp_ret ⟨σ,hf,h⟩
 | .rangeFunc _ _ _ _,_,_,_,_,_,h=>h.elim
 | .scope _,_,_,_,_,_,h=>h.elim
 | .label _,_,_,_,_,_,h=>h.elim
 | .goto _,_,_,_,_,_,h=>h.elim
 | .refuse _,_,_,_,_,_,h=>h.elim
end
end Go.Proofs.YtogjajjdaoihdaaGreatDoor.Ev

namespace Go.Proofs.YtogjajjdaoihdaaGreatDoor.Ev
open Go
section
variable (P : Program) (τ : Tab) (N : Nat)
def zc6 (ops:List Oper) (o:Oper) (K:zar→World→Prop) (σ:zar) (w:World):Prop :=
 zdf N ops o.guard σ
  (fun σ=>match zcO o.op with
   | true=>(match zgi σ o.op with
    | some (bop,t,x,y)=>IfEqC P bop t x y w fun v=>zek N o.dst v σ fun σ=>K σ w
    | none=>zd8 P τ σ o.op fun v=>zek N o.dst v σ fun σ=>K σ w)
   | false=>zdD P τ σ o.op w fun v w=>zek N o.dst v σ fun σ=>K σ w)
  (fun σ=>zek N o.dst undef σ fun σ=>K σ w)
def zbv (ops:List Oper) (Q:zar→World→Prop) (l:List Oper):zar→World→Prop :=
 List.rec (motive:=fun _=>zar→World→Prop) Q (fun o _ ih=>zc6 P τ N ops o ih) l
theorem zkb (ops:List Oper) (Q:zar→World→Prop):∀ l:List Oper,zbv P τ N ops Q l=fun σ w=>zky P τ N ops l Q σ w
 | []=>rfl
 | o::r=>by
  have ih:=zkb ops Q r;show zc6 P τ N ops o (zbv P τ N ops Q r)=_;rw [ih];rfl

abbrev EQ:=Exit→zar→World→Prop
abbrev EV:=EQ→zar→World→Prop
def zvl:EV:=fun Q σ w=>Q .normal σ w
def zpx:EV:=fun _ _ _=>False
def ztW (_:Nat) (ops:Array Oper) (draw:Bool):EV:=fun Q σ w=>match draw with
 | false=>zbv P τ N ops.toList (Q .normal) ops.toList σ w
 | true=>DrawC P τ N ops (Q .normal) σ w
def zuw (K:EV) (Q:EQ):EQ:=fun e σ w=>match e with
 | .normal=>K Q σ w
 | e=>Q e σ w
def zsQ (c:Operand) (x y:EV):EV:=fun Q σ w=>match ro σ c with
 | some (.bool b)=>br b (x Q σ w) (y Q σ w)
 | _=>False
def zp4 (id:Nat) (Q:EQ):EQ:=fun e σ w=>match e with
 | .exit i=>(match Nat.beq i id with
  | true=>Q .normal σ w
  | false=>Q (.exit i) σ w)
 | e=>Q e σ w
def evR (c:Code):EV :=
 Code.rec (motive:=fun _=>EV) zvl (ztW P τ N) (fun _ _ x y Q=>x (zuw y Q)) (fun c _ _ x y=>zsQ c x y) (fun id _ x Q=>x (zp4 id Q)) (fun c _ Q σ w=>LoopC P τ N c Q σ w)
  (fun _ _ _ _ _ _=>zpx) (fun i Q=>Q (.exit i)) (fun _ _=>zpx) (fun _=>zpx) (fun _=>zpx) (fun Q=>Q .ret) (fun _=>zpx) c
theorem zhG:∀ c:Code,evR P τ N c=ev P τ N c
 | .skip=>rfl
 | .region id ops false=>by
  funext Q σ w
  show zbv P τ N ops.toList (Q .normal) ops.toList σ w=_;rw [zkb];rfl
 | .region id ops true=>rfl
 | .seq x y=>by
  funext Q σ w
  have e:zuw (ev P τ N y) Q=(fun e σ w=>match e with
   | .normal=>ev P τ N y Q σ w
   | e=>Q e σ w):=by funext e;cases e<;>rfl
  show evR P τ N x (zuw (evR P τ N y) Q) σ w=_;rw [zhG x,zhG y,e];rfl
 | .cond c x y=>by
  show zsQ c (evR P τ N x) (evR P τ N y)=_;rw [zhG x,zhG y]
  funext Q σ w
  unfold zsQ;rfl
 | .block id c=>by
  funext Q σ w
  have e:zp4 id Q=(fun e σ w=>match e with
   | .exit i=>(match Nat.beq i id with
    | true=>Q .normal σ w
    | false=>Q (.exit i) σ w)
   | e=>Q e σ w):=by funext e;cases e<;>rfl
  show evR P τ N c (zp4 id Q) σ w=_;rw [zhG c,e];rfl
 | .loop c=>rfl
 | .exit i=>rfl
 | .ret=>rfl
 | .rangeFunc _ _ _ _=>rfl
 | .scope _=>rfl
 | .label _=>rfl
 | .goto _=>rfl
 | .refuse _=>rfl
end
end Go.Proofs.YtogjajjdaoihdaaGreatDoor.Ev

namespace Go.Proofs.YtogjajjdaoihdaaGreatDoor.Ev
set_option maxRecDepth 20000
open Go

def zpr:Nat→List Value→zar
 | _,[]=>[]
 | i,v::r=>(i,v)::zpr (i+1) r

structure RetC (p:Prop):Prop where
 h:p

def zsw (τ:Tab) (σ:zar) (w:World):List ResultVar→(List Value→Prop)→Prop
 | [],k=>k []
 | .tmp t::r,k=>match ziQ σ t with
  | some v=>zsw τ σ w r fun vs=>k (v::vs)
  | none=>False
 | .cell x t::r,k=>match ziQ σ x,tl τ t with
  | some (.pointer (some ⟨b,o,none⟩)),some ⟨n,kd,_⟩=>(match kd.agg with
   | true=>LdA w b o n fun v=>zsw τ σ w r fun vs=>k (v::vs)
   | false=>LdC w b o fun v=>zsw τ σ w r fun vs=>k (v::vs))
  | _,_=>False

def zuX (τ:Tab) (rs:List ResultVar) (R:Value→World→Prop):Exit→zar→World→Prop:=fun e σ w =>
 match e with
 | .normal | .ret=>zsw τ σ w rs fun vs=>match vs with
  | [v]=>RetC (R v w)
  | vs=>RetC (R (.tuple vs.toArray) w)
 | _=>False

section
variable {P : Program} {τ : Tab} {N : Nat} {σ : zar} {a : Act} {w : World}

theorem zix:∀ (l:List Value) (i n:Nat) (v:Value),ziQ (zpr i l) n=some v→i≤n∧l[n - i]?=some v
 | [],_,_,_,h=>by cases h
 | x::l,i,n,v,h=>by
  unfold zpr ziQ at h;cases hb:Nat.beq i n with
  | true =>
   rw [hb] at h;have:=Nat.eq_of_beq_eq_true hb;subst this;simp only [Option.some.injEq] at h;subst h;simp
  | false =>
   rw [hb] at h;obtain ⟨h1,h2⟩:=zix l (i+1) n v h;refine ⟨by omega,?_⟩;rw [show n - i=(n - (i+1))+1 by omega];simpa using h2

theorem zqg {args:List Value}(h:args.length≤N):Fits N (zpr 0 args) { tmps:=args.toArray++Array.replicate (N - args.toArray.size) undef,defers:=[] }:=by
 refine ⟨by simp;omega,rfl,fun n v hn=>?_⟩;obtain ⟨_,h2⟩:=zix args 0 n v hn;have h3:args[n]?=some v:=by simpa using h2
 have hlt:n < args.length:=(List.getElem?_eq_some_iff.1 h3).1;rw [Array.getElem?_append_left (by simpa using hlt)];simpa using h3

theorem zpj {t:TypeId}{n:Nat}{kd:TK}{z:List Value}{b o:Nat}(hτ:TabOk P τ) (ht:tl τ t=some ⟨n,kd,z⟩) {k:Value→Prop}
  (h:match kd.agg with|true=>LdA w b o n k|false=>LdC w b o k):∃ v,(loadVar t ⟨b,o,none⟩).run P w = .ok v w∧k v:=by
 obtain ⟨v,hr,hk⟩:=zcF hτ ht h;refine ⟨v,?_,hk⟩;simpa [Instr.loadAt,Instr.sureAddr] using hr

def zhg (tmps:Array Value):ResultVar→Sem Value
 | .tmp t=>pure (tmps.getD t undef)
 | .cell x t=>do loadVar t (← asAddr (tmps.getD x undef))
theorem zm9 (fn:Func) (tmps:Array Value):results fn tmps=(do let vs ← fn.results.mapM (zhg tmps);pure (if h:vs.size=1 then vs[0] else .tuple vs)):=by
 unfold results;congr 1

theorem zf6 (hτ:TabOk P τ) (hf:Fits N σ a):∀ (rs:List ResultVar) (k:List Value→Prop),zsw τ σ w rs k →
  ∃ vs:List Value,(rs.mapM (zhg a.tmps)).run P w = .ok vs w∧k vs∧vs.length=rs.length
 | [],k,h=>⟨[],rfl,h,rfl⟩
 | .tmp t::r,k,h=>by
  unfold zsw at h;split at h
  ·rename_i v hv;obtain ⟨vs,h1,h2,h3⟩:=zf6 hτ hf r _ h;have hx:=hf.vals t v hv;refine ⟨v::vs,?_,h2,by simp [h3]⟩;have e:(zhg a.tmps (.tmp t)).run P w = .ok v w:=by simp [zhg,hx]
   rw [List.mapM_cons,Sem.run_bind,e,Result.andThen_ok,Sem.run_bind,h1];rfl
  ·exact h.elim
 | .cell x t::r,k,h=>by
  unfold zsw at h;split at h
  ·rename_i b o n kd z hx ht;obtain ⟨v,hr,hk⟩:=zpj hτ ht h;obtain ⟨vs,h1,h2,h3⟩:=zf6 hτ hf r _ hk;have hx:=hf.vals x _ hx;refine ⟨v::vs,?_,h2,by simp [h3]⟩
   have e:(zhg a.tmps (.cell x t)).run P w = .ok v w:=by
    simp [zhg,hx,asAddr,hr]
   rw [List.mapM_cons,Sem.run_bind,e,Result.andThen_ok,Sem.run_bind,h1];rfl
  ·exact h.elim

theorem zaa (hτ : TabOk P τ) {f : FuncId} {fn : Func} {c : Code} {args : List Value} {R : Value → World → Prop} (hf : P.funcs[f]? = some fn) (hname : (fn.name == "runtime.NumGoroutine") = false) (hb : fn.body = some c) (hN : fn.ntmps = N)
  (hle:args.length≤N) (h:evR P τ N c (zuX τ fn.results.toList R) (zpr 0 args) w):CallC P f args.toArray w R:=by
 rw [zhG] at h
 have hname' : ¬ fn.name = "runtime.NumGoroutine" := by simpa using hname
 refine ⟨.inl ⟨by simp [callFunc,program,Sem.run,hf,hname',hb],?_⟩⟩;refine calls_of_wp hf hb ?_;rw [hN];refine wp_mono (zdn hτ c _ _ _ w (zqg hle) h) ?_
 have fin:∀ (σ:zar) (a:Act) (w:World),Fits N σ a→(zsw τ σ w fn.results.toList fun vs=>match vs with
  | [v]=>RetC (R v w)
  | vs=>RetC (R (.tuple vs.toArray) w))→a.defers=[]∧∃ v,(results fn a.tmps).run P w = .ok v w∧∃ u,Ending.returned v = .returned u∧R u w:=by
  intro σ a w hfit hq;refine ⟨hfit.defers,?_⟩;obtain ⟨vs,h1,h2,h3⟩:=zf6 hτ hfit _ _ hq
  have hm:(fn.results.mapM (zhg a.tmps)).run P w = .ok vs.toArray w:=by
   rw [Array.mapM_eq_mapM_toList,Sem.run_map,h1];rfl
  have hres:(results fn a.tmps).run P w = .ok (if h:vs.toArray.size=1 then vs.toArray[0] else .tuple vs.toArray) w:=by
   rw [zm9,Sem.run_bind,hm];rfl
  refine ⟨_,hres,_,rfl,?_⟩;split at h2
  ·simpa using h2.h
  ·rename_i hne
   rw [dif_neg (by
    intro hs
    match vs,hs with
    | [v],_=>exact hne v rfl)]
   exact h2.h
 intro e a w hq;cases e with
 | normal=>obtain ⟨σ,hfit,hq⟩:=hq;exact fin σ a w hfit hq
 | ret=>obtain ⟨σ,hfit,hq⟩:=hq;exact fin σ a w hfit hq
 | exit i=>obtain ⟨σ,hfit,hq⟩:=hq;exact hq.elim
 | goto l=>exact hq.elim
 | panic c=>exact hq.elim
 | outgrown=>exact hq.elim

def Sub:zar→zar→Prop
 | [],_=>True
 | (n,v)::r,σ=>ziQ σ n=some v∧Sub r σ
theorem Sub.look_:∀ {σ' σ:zar},Sub σ' σ→∀ n v,ziQ σ' n=some v→ziQ σ n=some v
 | [],_,_,_,_,h=>by cases h
 | (m,u)::r,σ,hs,n,v,h=>by
  unfold ziQ at h;cases hb:Nat.beq m n with
  | true =>
   rw [hb] at h;have:=Nat.eq_of_beq_eq_true hb;subst this;simp only [Option.some.injEq] at h;subst h;exact hs.1
  | false =>
   rw [hb] at h;exact Sub.look_ hs.2 n v h

structure LoopE (I:zar→World→Nat→Prop) (n:Nat) (σ:zar) (w:World):Prop where
 ex:∃ n' σ',n' < n∧Sub σ' σ∧I σ' w n'

def zuY (I:zar→World→Nat→Prop) (n:Nat) (Q:Exit→zar→World→Prop):Exit→zar→World→Prop:=fun e σ w =>
 match e with
 | .normal=>LoopE I n σ w
 | e=>Q e σ w

theorem zaL (hτ:TabOk P τ) {body:Code}{Q:Exit→zar→World→Prop}(I:zar→World→Nat→Prop) {σ':zar}{n:Nat}(hs:Sub σ' σ) (h0:I σ' w n)
  (hr:∀ σ w n,I σ w n→evR P τ N body (zuY I n Q) σ w):LoopC P τ N body Q σ w:=by
 simp only [zhG] at hr;refine ⟨fun a hf b k cs=>?_⟩
 have key:∀ n σ a w,Fits N σ a→I σ w n→∃ e a' w',zvo N Q e a' w'∧Arrives P (lone (b.at a (.code body::.inLoop body::k)) cs w) b k cs e a' w':=by
  intro n
  induction n using Nat.strongRecOn with
  | _ n ih =>
   intro σ a w hf hI;obtain ⟨e,a₁,w₁,hq,harr⟩:=zdn hτ body _ σ a w hf (hr σ w n hI) b (.inLoop body::k) cs;cases e with
   | normal =>
    obtain ⟨σ₁,hf₁,hq⟩:=hq;obtain ⟨n',σ₂,hlt,hsub,hI'⟩:=hq.ex;obtain ⟨e₂,a₂,w₂,hq₂,harr₂⟩:=ih n' hlt σ₂ a₁ w₁ (hf₁.weaken hsub.look_) hI';exact ⟨e₂,a₂,w₂,hq₂,.of_steps (Steps.trans harr (.one step_inLoop)) harr₂⟩
   | exit id=>exact ⟨.exit id,a₁,w₁,hq,.pass (x:=.inLoop body) rfl (fun _ _=>.inl (by simp)) harr⟩
   | ret=>exact ⟨.ret,a₁,w₁,hq,.pass (x:=.inLoop body) rfl (fun _ _=>.inl (by simp)) harr⟩
   | goto l=>exact hq.elim
   | panic ch=>exact hq.elim
   | outgrown=>exact hq.elim
 obtain ⟨e,a',w',hq,harr⟩:=key n σ' a w (hf.weaken hs.look_) h0;exact ⟨e,a',w',hq,.of_steps (.one step_loop) harr⟩

structure LdF (S:World→Prop) (b o:Nat) (k:Value→Prop):Prop where
 ex:∃ v,(∀ w,S w→w.cell? ⟨b,o,none⟩=some v)∧k v
structure LdG (S:World→Prop) (b o n:Nat) (k:Value→Prop):Prop where
 ex:∃ l:List Value,l.length=n∧(∀ w,S w→CellsAt w b o l)∧k (.agg l.toArray)
structure KeepC (p q:Prop):Prop where
 keep:p
 go:q

def zt2:List Oper→Nat→Option Oper
 | [],_=>none
 | o::_,0=>some o
 | _::r,n+1=>zt2 r n
theorem zll (l:List Oper) (n:Nat):zt2 l n=l[n]?:=by
 induction l generalizing n with
 | nil=>rfl
 | cons x r ih=>cases n with
  | zero=>rfl
  | succ n=>simpa [zt2] using ih n

def zvx:List Nat→Nat→Bool
 | [],_=>false
 | m::r,n=>match Nat.beq m n with|true=>true|false=>zvx r n

def zuj:Op→Bool
 | .load ..=>true
 | _=>false

def zeC (late:List Nat) (i:Nat) (op:Op):Bool :=
 match zcO op with
 | true=>true
 | false=>match zuj op with
  | true=>!zvx late i
  | false=>false

def zd4 (P:Program) (τ:Tab) (N:Nat) (ops:Array Oper) (late:List Nat) (S:World→Prop):List Nat→(zar→World→Prop)→zar→World→Prop
 | [],Q,σ,w=>Q σ w
 | i::rest,Q,σ,w=>match zt2 ops.toList i with
  | some ⟨dst,op,_,_,_,g⟩=>zdf N ops.toList g σ
    (fun σ=>match zcO op with
     | true=>zd8 P τ σ op fun v=>zek N dst v σ fun σ=>zd4 P τ N ops late S rest Q σ w
     | false=>match zeC late i op with
      | true=>(match op with
       | .load t x=>match ro σ x,tl τ t with
        | some (.pointer (some ⟨b,o,none⟩)),some ⟨n,kd,_⟩=>(match kd.agg with
         | true=>LdG S b o n fun v=>zek N dst v σ fun σ=>zd4 P τ N ops late S rest Q σ w
         | false=>LdF S b o fun v=>zek N dst v σ fun σ=>zd4 P τ N ops late S rest Q σ w)
        | _,_=>False
       | _=>False)
      | false=>zdD P τ σ op w fun v w=>KeepC (S w) (zek N dst v σ fun σ=>zd4 P τ N ops late S rest Q σ w))
    (fun σ=>zek N dst undef σ fun σ=>zd4 P τ N ops late S rest Q σ w)
  | none=>False

def ziE (P:Program) (τ:Tab) (N:Nat) (ops:Array Oper) (late:List Nat) (S:World→Prop) (i:Nat) (K:zar→World→Prop) (σ:zar) (w:World):Prop :=
 match zt2 ops.toList i with
 | some ⟨dst,op,_,_,_,g⟩=>zdf N ops.toList g σ
   (fun σ=>match zcO op with
    | true=>zd8 P τ σ op fun v=>zek N dst v σ fun σ=>K σ w
    | false=>match zeC late i op with
     | true=>(match op with
      | .load t x=>match ro σ x,tl τ t with
       | some (.pointer (some ⟨b,o,none⟩)),some ⟨n,kd,_⟩=>(match kd.agg with
        | true=>LdG S b o n fun v=>zek N dst v σ fun σ=>K σ w
        | false=>LdF S b o fun v=>zek N dst v σ fun σ=>K σ w)
       | _,_=>False
      | _=>False)
     | false=>zdD P τ σ op w fun v w=>KeepC (S w) (zek N dst v σ fun σ=>K σ w))
   (fun σ=>zek N dst undef σ fun σ=>K σ w)
 | none=>False
def zfX (P:Program) (τ:Tab) (N:Nat) (ops:Array Oper) (late:List Nat) (S:World→Prop) (order:List Nat) (Q:zar→World→Prop):zar→World→Prop :=
 List.rec (motive:=fun _=>zar→World→Prop) Q (fun i _ ih=>ziE P τ N ops late S i ih) order
theorem zeu (P:Program) (τ:Tab) (N:Nat) (ops:Array Oper) (late:List Nat) (S:World→Prop) (Q:zar→World→Prop):∀ order:List Nat,zfX P τ N ops late S order Q=fun σ w=>zd4 P τ N ops late S order Q σ w
 | []=>rfl
 | i::r=>by
  have ih:=zeu P τ N ops late S Q r;show ziE P τ N ops late S i (zfX P τ N ops late S r Q)=_;rw [ih]
  funext σ w
  unfold ziE;rw [zd4]

def zdA (ops:Array Oper) (late:List Nat):List Nat→Array Bool→Bool
 | [],listed=>(Region.ready .any ops listed).isEmpty
 | i::r,listed=>(match ops[i]? with
  | some o=>(match zeC late i o.op with
   | true=>Region.free .any ops listed i&&(Region.ready .any ops listed).contains i
   | false=>Region.ready .any ops listed == [i])
  | none=>false)&&zdA ops late r (listed.setIfInBounds i true)

theorem zcL (hτ:TabOk P τ) {ops:Array Oper}{late:List Nat}{S:World→Prop}{Q:zar→World→Prop}{R:Exit→Act→World→Prop}(hs:Region.noSelect ops=true) (hR:∀ c a w,¬ R (.panic c) a w) (hQ:∀ a w σ,Fits N σ a→Q σ w→R .normal a w) :
  ∀ (order:List Nat) (listed:Array Bool) (σ:zar) (a:Act) (w:World),Fits N σ a→S w→zdA ops late order listed=true→zd4 P τ N ops late S order Q σ w→wpAnyH P .any ops R S order.length listed a w
 | [],listed,σ,a,w,hf,hS,hok,h=>by
  unfold zdA at hok;exact ⟨by simpa using hok,hQ a w σ hf h⟩
 | i::rest,listed,σ,a,w,hf,hS,hok,h=>by
  unfold zdA at hok;unfold zd4 at h;rw [zll] at h;cases ho:ops[i]? with
  | none =>
   have:ops.toList[i]?=none:=by simpa using ho
   rw [this] at h;exact h.elim
  | some o =>
   have hol:ops.toList[i]?=some o:=by simpa using ho
   rw [hol] at h;rw [ho] at hok;obtain ⟨dst,op,ty,pos,after,g⟩:=o;simp only [Bool.and_eq_true] at hok;obtain ⟨hok1,hok2⟩:=hok;simp only at h;have hpan:∀ (v:Value) (c:List PanicEntry) (a:Act) (w:World),R (.panic c) (a.put dst v) w→R (.panic c) a w:=fun v c a w hc=>absurd hc (hR c _ w)
   have take:∀ (v:Value),YieldsIf P ops S ⟨dst,op,ty,pos,after,g⟩ v a→zeC late i op=true→wpAnyH P .any ops R S rest.length (listed.setIfInBounds i true) (a.put dst v) w→wpAnyH P .any ops R S (i::rest).length listed a w:=by
    intro v hy hfl hgo;rw [hfl] at hok1;simp only [Bool.and_eq_true] at hok1;exact wpAnyH_take (oi:=⟨dst,op,ty,pos,after,g⟩) ho hs hok1.1 hok1.2 (hpan v) hy hS hgo
   rcases zdI (o:=⟨dst,op,ty,pos,after,g⟩) hf h with ⟨hw,σ',hf',h2⟩ | ⟨hw,σ',hf',h2⟩
   ·cases hp:zcO op with
    | true =>
     rw [hp] at h2;obtain ⟨v,hv,h3⟩:=zf1 (o:=⟨dst,op,ty,pos,after,g⟩) hτ hf' h2;obtain ⟨σ'',hf'',h4⟩:=za3 hf' h3;exact take v (.inl ⟨hw,fun w _=>hv w⟩) (by simp [zeC,hp]) (zcL hτ hs hR hQ rest _ σ'' _ w hf'' hS hok2 h4)
    | false =>
     rw [hp] at h2;simp only at h2;cases hfl:zeC late i op with
     | true =>
      rw [hfl] at h2;simp only at h2;split at h2
      ·rename_i t x;split at h2
       ·rename_i b o n kd z hx ht
        have hyield:∃ v,(∀ w,S w→(Instr.loadAt t (.pointer (some ⟨b,o,none⟩))).run P w = .ok v w)∧zek N dst v σ' fun σ=>zd4 P τ N ops late S rest Q σ w:=by
         cases hk:kd.agg with
         | true =>
          rw [hk] at h2;obtain ⟨l,hl,hc,hv⟩:=h2.ex;refine ⟨_,fun w' hw'=>?_,hv⟩;obtain ⟨v,hr,hv⟩:=zcF (P:=P) (w:=w') (b:=b) (o:=o) (k:=fun v=>v = .agg l.toArray) hτ ht (by rw [hk];exact ⟨l,hl,hc w' hw',rfl⟩);rw [hr,hv]
         | false =>
          rw [hk] at h2;obtain ⟨v,hc,hv⟩:=h2.ex;refine ⟨v,fun w' hw'=>?_,hv⟩;obtain ⟨u,hr,hu⟩:=zcF (P:=P) (w:=w') (b:=b) (o:=o) (k:=fun u=>u=v) hτ ht (by rw [hk];exact ⟨v,hc w' hw',rfl⟩);rw [hr,hu]
        obtain ⟨v,hv,h3⟩:=hyield;obtain ⟨σ'',hf'',h4⟩:=za3 hf' h3;refine take v (.inl ⟨hw,fun w' hw'=>?_⟩) hfl (zcL hτ hs hR hQ rest _ σ'' _ w hf'' hS hok2 h4);simp only [execOp,zaq hf' hx];exact zmV (hv w' hw')
       ·exact h2.elim
      ·exact h2.elim
     | false =>
      rw [hfl] at h2 hok1;simp only [beq_iff_eq] at h2 hok1;refine wpAnyH_all (rs:=[i]) hok1 (by simp) ?_;intro j hj;obtain rfl:j=i:=by simpa using hj
      unfold wpOp;rw [ho];simp only [hw,if_true];refine .inl (Oper.wp_mono ?_ (zeH (o:=⟨dst,op,ty,pos,after,g⟩) hτ hf' h2 R));rintro a' w' ⟨v,rfl,h3⟩;obtain ⟨σ'',hf'',h4⟩:=za3 hf' h3.go;exact ⟨h3.keep,zcL hτ hs hR hQ rest _ σ'' _ w' hf'' h3.keep hok2 h4⟩
   ·obtain ⟨σ'',hf'',h4⟩:=za3 hf' h2;cases hfl:zeC late i op with
    | true=>exact take undef (.inr ⟨hw,rfl⟩) hfl (zcL hτ hs hR hQ rest _ σ'' _ w hf'' hS hok2 h4)
    | false =>
     rw [hfl] at hok1;simp only [beq_iff_eq] at hok1;refine wpAnyH_all (rs:=[i]) hok1 (by simp) ?_;intro j hj;obtain rfl:j=i:=by simpa using hj
     unfold wpOp;rw [ho];simp only [hw,Bool.false_eq_true,if_false];exact ⟨hS,zcL hτ hs hR hQ rest _ σ'' _ w hf'' hS hok2 h4⟩

theorem zsY (hτ:TabOk P τ) (hm:P.follows .mixedOrders=true) {ops:Array Oper}{Q:zar→World→Prop}(late:List Nat) (S:World→World→Prop) (order:List Nat)
  (hok:(Region.noSelect ops&&Nat.beq order.length ops.size&&zdA ops late order (Array.replicate ops.size false))=true)
  (hS:S { w with drawn:=w.drawn+1 } { w with drawn:=w.drawn+1 }) (h:zd4 P τ N ops late (S { w with drawn:=w.drawn+1 }) order Q σ { w with drawn:=w.drawn+1 }):DrawC P τ N ops Q σ w:=by
 simp only [Bool.and_eq_true] at hok;refine ⟨fun id a hf=>?_⟩;refine wp_region_held (S:=S { w with drawn:=w.drawn+1 }) hm ?_;have hlen:order.length=ops.size:=Nat.eq_of_beq_eq_true hok.1.2;have:=zcL (R:=fun e a' w'=>e = .normal∧∃ σ',Fits N σ' a'∧Q σ' w') hτ hok.1.1 (by rintro c a w ⟨h,_⟩;cases h) (fun a w σ hf hq=>⟨rfl,σ,hf,hq⟩) order _ σ a _ hf hS hok.2 h;rw [hlen] at this;exact this
end
end Go.Proofs.YtogjajjdaoihdaaGreatDoor.Ev

namespace Go.Proofs.YtogjajjdaoihdaaGreatDoor.Ev
set_option maxRecDepth 20000
open Go

structure Ext (S:Nat→Prop) (w w':World):Prop where
 os:w'.os=w.os
 tape:w'.tape=w.tape
 output:w'.output=w.output
 size:w.heap.size≤w'.heap.size
 block:∀ k,k < w.heap.size→¬ S k→w'.heap[k]?=w.heap[k]?

abbrev No:Nat→Prop:=fun _=>False

section
variable {S T : Nat → Prop} {w w' w'' : World}
theorem Ext.refl (S:Nat→Prop) (w:World):Ext S w w:=⟨rfl,rfl,rfl,Nat.le_refl _,fun _ _ _=>rfl⟩
theorem Ext.trans (h:Ext S w w') (k:Ext S w' w''):Ext S w w'' :=
 ⟨k.os.trans h.os,k.tape.trans h.tape,k.output.trans h.output,Nat.le_trans h.size k.size,fun i hi hs=>(k.block i (Nat.lt_of_lt_of_le hi h.size) hs).trans (h.block i hi hs)⟩
theorem Ext.then (h:Ext S w w') (k:Ext T w' w'') (hT:∀ b,T b→S b∨w.heap.size≤b):Ext S w w'' :=
 ⟨k.os.trans h.os,k.tape.trans h.tape,k.output.trans h.output,Nat.le_trans h.size k.size,fun i hi hs=>(k.block i (Nat.lt_of_lt_of_le hi h.size) (fun ht=>by
  rcases hT i ht with h1|h1
  ·exact hs h1
  ·omega)).trans (h.block i hi hs)⟩
theorem Ext.mono (h:Ext S w w') (hT:∀ b,S b→T b):Ext T w w':=⟨h.os,h.tape,h.output,h.size,fun i hi hs=>h.block i hi fun hk=>hs (hT i hk)⟩
theorem Ext.of_no (h:Ext No w w'):Ext S w w':=h.mono fun _ h=>h.elim
theorem Ext.drawn (S:Nat→Prop) (w:World) (n:Nat):Ext S w { w with drawn:=n }:=⟨rfl,rfl,rfl,Nat.le_refl _,fun _ _ _=>rfl⟩
theorem Ext.push (S:Nat→Prop) (w:World) (t:TypeId) (cs:List Value):Ext S w (zbk w t cs) :=
 ⟨rfl,rfl,rfl,by simp [zbk],fun i hi _=>by
  show (w.heap.push _)[i]?=_;rw [Array.getElem?_push,if_neg (by omega)]⟩
theorem Ext.set {b:Nat}(hb:S b) (t:TypeId) (cs:List Value):Ext S w (zbE w b t cs) :=
 ⟨rfl,rfl,rfl,by simp [zbE],fun i hi hs=>by
  have:b≠i:=fun e=>hs (e ▸ hb)
  simp [zbE,this]⟩
theorem Ext.blk {b:Nat}{t:TypeId}{cs:List Value}(h:Ext S w w') (hb:Blk w b t cs) (hs:¬ S b):Blk w' b t cs:=(h.block b hb.lt hs).trans hb
theorem zbO {a:Addr}{v:Value}(h:w.cell? a=some v):a.block < w.heap.size:=by
 unfold World.cell? at h;split at h
 ·rename_i he;exact (Array.getElem?_eq_some_iff.1 he).1
 ·cases h
theorem Ext.cell {b o:Nat}{v:Value}(h:Ext S w w') (hc:w.cell? ⟨b,o,none⟩=some v) (hs:¬ S b):w'.cell? ⟨b,o,none⟩=some v:=by
 have:=h.block b (zbO hc) hs;rw [← hc];simp [World.cell?,this]
theorem Ext.cells {b o:Nat}{l:List Value}(h:Ext S w w') (hc:CellsAt w b o l) (hs:¬ S b):CellsAt w' b o l:=fun i v hi=>h.cell (hc i v hi) hs
theorem Blk.ne {b b':Nat}{t t':TypeId}{cs cs':List Value}(h:Blk w b t cs) (h':Blk w b' t' cs') (ht:t≠t'):b≠b':=by
 rintro rfl;unfold Blk at h h';rw [h] at h';injection h' with h'
 injection h' with _ h'
 exact ht h'
theorem Blk.cells {b:Nat}{t:TypeId}{cs:List Value}(h:Blk w b t cs) {o:Nat}{l:List Value}(hl:(cs.drop o).take l.length=l):CellsAt w b o l:=fun i v hi=>by
 rw [h.cell];have hlt:=(List.getElem?_eq_some_iff.1 hi).1;rw [← hl] at hi;rw [List.getElem?_take_of_lt hlt,List.getElem?_drop] at hi;exact hi
end

structure Ent where
 foot:List Nat
 holds:World→Prop

def Ent.Local (e:Ent):Prop:=∀ w w':World,(∀ b∈e.foot,w'.heap[b]?=w.heap[b]?)→e.holds w→e.holds w'

def blk (b:Nat) (t:TypeId) (cs:List Value):Ent:=⟨[b],fun w=>Blk w b t cs⟩
theorem zab (b:Nat) (t:TypeId) (cs:List Value):(blk b t cs).Local:=fun _ _ h hb=>(h b (by simp [blk])).trans hb

structure St (w0:World) (S:Nat→Prop) (w:World) (H:List Ent):Prop where
 ext:Ext S w0 w
 each:∀ e∈H,e.holds w
 loc:∀ e∈H,e.Local
 may:∀ e∈H,∀ b∈e.foot,(S b∨w0.heap.size≤b)∧b < w.heap.size
 apart:H.Pairwise fun e f=>∀ b∈e.foot,b ∉ f.foot

section
variable {w0 w w' : World} {S T : Nat → Prop} {H : List Ent}

theorem St.start (w0:World) (S:Nat→Prop):St w0 S w0 []:=⟨Ext.refl _ _,by simp,by simp,by simp,.nil⟩

theorem St.get (h:St w0 S w H) (i:Nat) {e:Ent}(hi:H[i]?=some e):e.holds w:=h.each e (List.mem_of_getElem? hi)
theorem St.blk (h:St w0 S w H) (i:Nat) {b:Nat}{t:TypeId}{cs:List Value}(hi:H[i]?=some (blk b t cs)):Blk w b t cs:=h.get i hi

theorem St.add (h:St w0 S w H) {e:Ent}(hl:e.Local) (hh:e.holds w) (hm:∀ b∈e.foot,(S b∨w0.heap.size≤b)∧b < w.heap.size) (ha:∀ f∈H,∀ b∈f.foot,b ∉ e.foot):St w0 S w (H++[e]):=by
 refine ⟨h.ext,?_,?_,?_,?_⟩
 ·intro f hf;rcases List.mem_append.1 hf with hf|hf
  ·exact h.each f hf
  ·obtain rfl:f=e:=by simpa using hf
   exact hh
 ·intro f hf;rcases List.mem_append.1 hf with hf|hf
  ·exact h.loc f hf
  ·obtain rfl:f=e:=by simpa using hf
   exact hl
 ·intro f hf;rcases List.mem_append.1 hf with hf|hf
  ·exact h.may f hf
  ·obtain rfl:f=e:=by simpa using hf
   exact hm
 ·rw [List.pairwise_append];refine ⟨h.apart,by simp,fun f hf g hg=>?_⟩;obtain rfl:g=e:=by simpa using hg
  exact ha f hf

theorem St.same (h:St w0 S w H) (k:Ext T w w') (hT:∀ b,T b→S b∨w0.heap.size≤b) (hn:∀ e∈H,∀ b∈e.foot,¬ T b):St w0 S w' H :=
 ⟨h.ext.then k hT,fun e he=>h.loc e he w w' (fun b hb=>k.block b (h.may e he b hb).2 (hn e he b hb)) (h.each e he),h.loc,fun e he b hb=>⟨(h.may e he b hb).1,Nat.lt_of_lt_of_le (h.may e he b hb).2 k.size⟩,h.apart⟩
theorem St.no (h:St w0 S w H) (k:Ext No w w'):St w0 S w' H:=h.same k (fun _ h=>h.elim) fun _ _ _ _ h=>h

theorem zgj {α:Type}{R:α→α→Prop}(hsymm:∀ a b,R a b→R b a):∀ {l:List α}{i:Nat}{e:α},l.Pairwise R→(∀ j f,l[j]?=some f→j≠i→R f e)→(l.set i e).Pairwise R
 | [],_,_,_,_=>by simp
 | x::l,0,e,h,hf=>by
  rw [List.set_cons_zero];refine .cons (fun y hy=>?_) (List.Pairwise.of_cons h);obtain ⟨j,hj,rfl⟩:=List.mem_iff_getElem.1 hy;exact hsymm _ _ (hf (j+1) _ (by simp [hj]) (by omega))
 | x::l,i+1,e,h,hf=>by
  rw [List.set_cons_succ];obtain ⟨h1,h2⟩:=List.pairwise_cons.1 h;refine .cons (fun y hy=>?_) (zgj hsymm h2 fun j f hj hne=>hf (j+1) f (by simpa using hj) (by omega));rcases List.mem_or_eq_of_mem_set hy with hy|rfl
  ·exact h1 y hy
  ·exact hf 0 x (by simp) (by omega)

theorem zaG {α:Type}{R:α→α→Prop}(hsymm:∀ a b,R a b→R b a) {l:List α}(h:l.Pairwise R) {i j:Nat}{a b:α}(hi:l[i]?=some a) (hj:l[j]?=some b) (hne:i≠j):R a b:=by
 rw [List.pairwise_iff_getElem] at h;obtain ⟨hi1,rfl⟩:=List.getElem?_eq_some_iff.1 hi;obtain ⟨hj1,rfl⟩:=List.getElem?_eq_some_iff.1 hj;rcases Nat.lt_or_gt_of_ne hne with hlt|hlt
 ·exact h i j hi1 hj1 hlt
 ·exact hsymm _ _ (h j i hj1 hi1 hlt)

theorem zaX:∀ e f:Ent,(∀ b∈e.foot,b ∉ f.foot)→∀ b∈f.foot,b ∉ e.foot:=fun _ _ h b hb hb'=>h b hb' hb

theorem St.upd (h:St w0 S w H) (i:Nat) {e e':Ent}(hi:H[i]?=some e) (k:Ext T w w') (hT:∀ b,T b→b∈e.foot) (hl:e'.Local) (hh:e'.holds w') (hf:∀ b∈e'.foot,b∈e.foot∨(w.heap.size≤b∧b < w'.heap.size)):St w0 S w' (H.set i e'):=by
 have hme:e∈H:=List.mem_of_getElem? hi;have hTS:∀ b,T b→S b∨w0.heap.size≤b:=fun b hb=>(h.may e hme b (hT b hb)).1
 have other:∀ j f,H[j]?=some f→j≠i→∀ b∈f.foot,b ∉ e.foot:=fun j f hj hne=>zaG zaX h.apart hj hi hne
 have hcase:∀ f∈H.set i e',f=e'∨∃ j,H[j]?=some f∧j≠i:=by
  intro f hf;obtain ⟨j,hj⟩:=List.mem_iff_getElem?.1 hf;rw [List.getElem?_set] at hj;split at hj
  ·split at hj
   ·exact .inl (by simpa using hj.symm)
   ·cases hj
  ·rename_i hne;exact .inr ⟨j,hj,fun e=>hne e.symm⟩
 refine ⟨h.ext.then k hTS,?_,?_,?_,?_⟩
 ·intro f hf;rcases hcase f hf with rfl | ⟨j,hj,hne⟩
  ·exact hh
  ·have hm:=List.mem_of_getElem? hj;exact h.loc f hm w w' (fun b hb=>k.block b (h.may f hm b hb).2 fun ht=>other j f hj hne b hb (hT b ht)) (h.each f hm)
 ·intro f hf;rcases hcase f hf with rfl | ⟨j,hj,hne⟩
  ·exact hl
  ·exact h.loc f (List.mem_of_getElem? hj)
 ·intro f hf' b hb;rcases hcase f hf' with rfl | ⟨j,hj,hne⟩
  ·rcases hf b hb with h1 | ⟨h1,h2⟩
   ·exact ⟨(h.may e hme b h1).1,Nat.lt_of_lt_of_le (h.may e hme b h1).2 k.size⟩
   ·exact ⟨.inr (Nat.le_trans h.ext.size h1),h2⟩
  ·have hm:=List.mem_of_getElem? hj;exact ⟨(h.may f hm b hb).1,Nat.lt_of_lt_of_le (h.may f hm b hb).2 k.size⟩
 ·refine zgj zaX h.apart fun j f hj hne b hb hb'=>?_
  rcases hf b hb' with h1 | ⟨h1,_⟩
  ·exact other j f hj hne b hb h1
  ·have:=(h.may f (List.mem_of_getElem? hj) b hb).2;omega

theorem St.made (h:St w0 S w H) {e:Ent}(k:Ext No w w') (hl:e.Local) (hh:e.holds w') (hf:∀ b∈e.foot,w.heap.size≤b∧b < w'.heap.size):St w0 S w' (H++[e]):=by
 refine (h.no k).add hl hh (fun b hb=>⟨.inr (Nat.le_trans h.ext.size (hf b hb).1),(hf b hb).2⟩) fun f hf' b hb hb'=>?_
 have h1:=(h.may f hf' b hb).2;have h2:=(hf b hb').1;omega

theorem St.weaken (h:St w0 S w H) {H':List Ent}(hs:H'.Sublist H):St w0 S w H' :=
 ⟨h.ext,fun e he=>h.each e (hs.subset he),fun e he=>h.loc e (hs.subset he),fun e he=>h.may e (hs.subset he),h.apart.sublist hs⟩

theorem St.ld (h:St w0 S w H) (i:Nat) {b o:Nat}{t:TypeId}{cs:List Value}{v:Value}{k:Value→Prop}(hi:H[i]?=some (Ev.blk b t cs)) (hv:cs[o]?=some v) (hk:k v):LdC w b o k :=
 ⟨v,by rw [(h.blk i hi).cell];exact hv,hk⟩
theorem St.la (h:St w0 S w H) (i:Nat) {b o n:Nat}{t:TypeId}{cs l:List Value}{k:Value→Prop}(hi:H[i]?=some (Ev.blk b t cs)) (hn:l.length=n) (hl:(cs.drop o).take l.length=l) (hk:k (.agg l.toArray)):LdA w b o n k :=
 ⟨l,hn,(h.blk i hi).cells hl,hk⟩
theorem St.ldr (h:St w0 S w H) {b o:Nat}{v:Value}{k:Value→Prop}(hc:w0.cell? ⟨b,o,none⟩=some v) (hs:¬ S b) (hk:k v):LdC w b o k:=⟨v,h.ext.cell hc hs,hk⟩
theorem St.lar (h:St w0 S w H) {b o n:Nat}{l:List Value}{k:Value→Prop}(hn:l.length=n) (hc:CellsAt w0 b o l) (hs:¬ S b) (hk:k (.agg l.toArray)):LdA w b o n k:=⟨l,hn,h.ext.cells hc hs,hk⟩
theorem St.st (h:St w0 S w H) (i:Nat) {b o:Nat}{t:TypeId}{cs vs:List Value}{k:World→Prop}(hi:H[i]?=some (Ev.blk b t cs)) (hle:o+vs.length≤cs.length) (h1:vs.all zcN=true)
  (hk:∀ w',St w0 S w' (H.set i (Ev.blk b t (zaO cs o vs)))→k w'):StC w b o vs k:=by
 have hb:=h.blk i hi;refine ⟨t,cs,hb,hle,by simpa using h1,hk _ ?_⟩;exact h.upd i hi (T:=(· = b)) (Ext.set (S:=(· = b)) (b:=b) rfl t _) (fun c hc=>by simp [Ev.blk,hc]) (zab _ _ _) (zcd hb.lt) (fun c hc=>.inl hc)
theorem St.new (h:St w0 S w H) {t:TypeId}{cs:List Value}{k:Value→World→Prop}(hk:∀ b w',w0.heap.size≤b→St w0 S w' (H++[Ev.blk b t cs])→k (.pointer (some ⟨b,0,none⟩)) w'):NewC w t cs k:=by
 refine ⟨hk _ _ h.ext.size (h.made (Ext.push _ _ _ _) (zab _ _ _) (show (w.heap.push _)[w.heap.size]?=_ by rw [Array.getElem?_push,if_pos rfl]) ?_)⟩;intro b hb;obtain rfl:b=w.heap.size:=by simpa [Ev.blk] using hb
 simp [zbk]
theorem St.drew (h:St w0 S w H):St w0 S { w with drawn:=w.drawn+1 } H:=h.no (Ext.drawn _ _ _)

theorem St.ldF (h:St w0 S w H) (i:Nat) {b o:Nat}{t:TypeId}{cs:List Value}{v:Value}{k:Value→Prop}(hi:H[i]?=some (Ev.blk b t cs)) (hv:cs[o]?=some v) (hT:¬ T b) (hk:k v):LdF (Ext T w) b o k :=
 ⟨v,fun w' hw'=>by rw [(hw'.blk (h.blk i hi) hT).cell];exact hv,hk⟩
theorem St.laF (h:St w0 S w H) (i:Nat) {b o n:Nat}{t:TypeId}{cs l:List Value}{k:Value→Prop}(hi:H[i]?=some (Ev.blk b t cs)) (hn:l.length=n) (hl:(cs.drop o).take l.length=l) (hT:¬ T b) (hk:k (.agg l.toArray)):LdG (Ext T w) b o n k :=
 ⟨l,hn,fun w' hw'=>(hw'.blk (h.blk i hi) hT).cells hl,hk⟩
theorem St.ldrF (h:St w0 S w H) {b o:Nat}{v:Value}{k:Value→Prop}(hc:w0.cell? ⟨b,o,none⟩=some v) (hs:¬ S b) (hT:¬ T b) (hk:k v):LdF (Ext T w) b o k:=⟨v,fun w' hw'=>hw'.cell (h.ext.cell hc hs) hT,hk⟩
end

theorem Blk.to {w:World}{b:Nat}{t:TypeId}{cs cs':List Value}(h:Blk w b t cs) (e:cs=cs'):Blk w b t cs':=e ▸ h
theorem zah {P:Program}{τ:Tab}{N:Nat}{σ:zar}{w:World}(hτ:TabOk P τ) (hm:P.follows .mixedOrders=true) {ops:Array Oper}{Q:zar→World→Prop}(late:List Nat) (T:Nat→Prop) (order:List Nat)
  (hok:(Region.noSelect ops&&Nat.beq order.length ops.size&&zdA ops late order (Array.replicate ops.size false))=true)
  (h:∀ w1,w1={ w with drawn:=w.drawn+1 }→zfX P τ N ops late (Ext T w1) order Q σ w1):DrawC P τ N ops Q σ w :=
 zsY hτ hm late (fun w1 w'=>Ext T w1 w') order hok (Ext.refl _ _) (by have:=h _ rfl;rwa [zeu] at this)
theorem zuC {P:Program}{τ:Tab}{N:Nat}{σ:zar}{w:World}(hτ:TabOk P τ) (hm:P.follows .mixedOrders=true) {ops:Array Oper}{Q:zar→World→Prop}(late:List Nat) (T:Nat→Prop) (order:List Nat) (_:order.length=ops.size)
  (hok:(Region.noSelect ops&&Nat.beq order.length ops.size&&zdA ops late order (Array.replicate ops.size false))=true)
  (h:∀ w1,w1={ w with drawn:=w.drawn+1 }→zfX P τ N ops late (Ext T w1) order Q σ w1):DrawC P τ N ops Q σ w:=zah hτ hm late T order hok h
end Go.Proofs.YtogjajjdaoihdaaGreatDoor.Ev

namespace Go.Proofs.YtogjajjdaoihdaaGreatDoor.Ev
set_option maxRecDepth 20000
open Go

section
variable {P : Program} {w0 w w' : World} {S T : Nat → Prop} {H : List Ent}

theorem St.keep (h:St w0 S w H) (n:Nat):St w0 S w (H.take n):=h.weaken (List.take_sublist n H)

theorem Ext.of_grown {row:Option Nat}(h:w.grownBy w' row):Ext (fun b=>row=some b) w w':=⟨h.os,h.tape,h.output,h.size,fun k hk hs=>h.block k hk fun e=>hs e.symm⟩

def own (e:TypeId) (size:Nat) (v:Value) (n:Nat) (xs:List Value):Ent:=⟨v.ownBlock.toList,fun w=>w.ownsRow 0 e size v n xs⟩
theorem zdY (e:TypeId) (size:Nat) (v:Value) (n:Nat) (xs:List Value):(own e size v n xs).Local:=by
 intro w w' h hh;obtain ⟨h1,h2 | ⟨g,cap,cur,rfl,h3,h4,h5⟩⟩:=hh
 ·exact ⟨h1,.inl h2⟩
 ·exact ⟨h1,.inr ⟨g,cap,cur,rfl,h3,(h g (by simp [own,Value.ownBlock])).trans h4,h5⟩⟩
theorem zcy (e:TypeId) (size:Nat) (w:World):(own e size (.slice none 0 0) 0 []).holds w:=⟨by simp,.inl ⟨rfl,rfl⟩⟩

theorem zrZ (w:World) (e:TypeId) (cs:List Value):w.alloc (.cells cs.toArray e)=zbk w e cs:=rfl

def zm4 (sz:Nat):List Value→List (Nat × Value)→Option (List Value)
 | z,[]=>some z
 | z,(i,v)::r=>match Nat.beq (zam v).length sz,Nat.ble (i * sz+sz) z.length with
  | true,true=>zm4 sz (zaO z (i * sz) (zam v)) r
  | _,_=>none
theorem zop {sz:Nat}:∀ (parts:List (Nat × Value)) (z cs:List Value),zm4 sz z parts=some cs→Instr.fill (fun i=>some (i * sz,sz)) z.toArray parts=some cs.toArray
 | [],z,cs,h=>by
  simp only [zm4,Option.some.injEq] at h;subst h;rfl
 | (i,v)::r,z,cs,h=>by
  unfold zm4 at h;split at h
  ·rename_i h1 h2;have hsz:=Nat.eq_of_beq_eq_true h1;have hle:=Nat.le_of_ble_eq_true h2;have ih:=zop r _ cs h;have e1:v.cells.size=sz:=by rw [← hsz,zbI];simp
   have e3:v.cells.zipIdx.foldl (fun (cs:Array Value) (x:Value × Nat)=>cs.setIfInBounds (i * sz+x.2) x.1) z.toArray=(zaO z (i * sz) (zam v)).toArray:=by
    have:=zmR (zam v) z (i * sz) 0 (by omega);rw [← Array.foldl_toList];simpa [zbI] using this
   unfold Instr.fill;simp only [];rw [if_neg (by simp only [List.size_toArray];rw [e1];simp;omega),← ih];congr 1
  ·cases h
def zmm (z:Value) (n:Nat):List Value:=(List.range n).map fun i=>(zam z)[i % (zam z).length]!
theorem zmP (z:Value) (n:Nat):(Array.range n).map (z.cells[· % z.cells.size]!)=(zmm z n).toArray:=by
 apply Array.ext';simp [zmm,zbI];intro k _;rw [getElem!_def];cases z.cells[k % z.cells.size]?<;>rfl

theorem St.lit (h:St w0 S w H) {t e:TypeId}{len sz:Nat}{z:Value}{parts:Array (Nat × Value)}{cs:List Value}{k:Value→World→Prop}
  (hu:P.underlying t=some (.slice e)) (hs:(P.info? e).map (·.size)=some sz) (hz:(P.info? e).bind (·.zero)=some z) (hsmall:Nat.ble (len * sz) (2 ^ 24)=true) (hpos:Nat.beq (len * sz) 0=false)
  (hf:zm4 sz (zmm z (len * sz)) parts.toList=some cs)
  (hk:∀ b w',w0.heap.size≤b→St w0 S w' (H++[Ev.blk b e cs])→k (.slice (some ⟨b,0,none⟩) len len) w'):RunC P (Instr.buildSlice t len parts) w k:=by
 obtain ⟨ie,h1,h2⟩:=Option.map_eq_some_iff.1 hs;obtain ⟨ie',h3,h4⟩:=Option.bind_eq_some_iff.1 hz;obtain rfl:=Option.some.inj (h1.symm.trans h3);subst h2;refine ⟨_,_,run_buildSlice w t e len parts cs.toArray ie z hu h1 h4 (by have:=Nat.le_of_ble_eq_true hsmall;omega) (Nat.ne_of_beq_eq_false hpos) (by rw [zmP];exact zop _ _ _ hf),?_⟩;rw [zrZ];refine hk _ _ h.ext.size (h.made (Ext.push _ _ _ _) (zab _ _ _) (show (w.heap.push _)[w.heap.size]?=_ by rw [Array.getElem?_push,if_pos rfl]) ?_);intro b hb;obtain rfl:b=w.heap.size:=by simpa [Ev.blk] using hb
 simp [zbk]

end
end Go.Proofs.YtogjajjdaoihdaaGreatDoor.Ev

namespace Go.Proofs.YtogjajjdaoihdaaGreatDoor.Ev
set_option maxRecDepth 20000
open Go

inductive Pr where
 | int (n:Int)
 | bool (b:Bool)
 | str (s:ByteArray)
 deriving DecidableEq
inductive PK where
 | int|bool|str
 deriving DecidableEq
def Pr.k:Pr→PK
 | .int _=>.int
 | .bool _=>.bool
 | .str _=>.str
def Pr.v:Pr→Value
 | .int n=>.int .i64 n
 | .bool b=>.bool b
 | .str s=>.string s

def zgr (P:Program) (rec_:TypeId→Option (List PK)):List Field→Nat→Option (List PK)
 | [],_=>some []
 | f :: r, off => match f.name != "_" && f.offset == off && (P.info? f.type).isSome && (P.underlying f.type).isSome with
  | false=>none
  | true=>match rec_ f.type with
   | none=>none
   | some k=>match P.cellsOf f.type == k.length&&(zfN P f.type||k.length == 1) with
    | false=>none
    | true=>(zgr P rec_ r (off+k.length)).map (k++·)
def zhX (P:Program):Nat→TypeId→Option (List PK)
 | 0,_=>none
 | d+1,t=>match P.underlying t with
  | some (.int .i64)=>some [.int]
  | some .bool=>some [.bool]
  | some .string=>some [.str]
  | some (.struct fs)=>match P.stoodInHeld t with
   | true=>none
   | false=>zgr P (zhX P d) fs.toList 0
  | _=>none

theorem zuT (a b:ByteArray):(a == b)=decide (a=b):=by
 obtain ⟨x⟩:=a;obtain ⟨y⟩:=b;show (x == y)=_;by_cases h:x=y<;>simp [h]

section
variable {P : Program}

def mkv (P:Program) (t:TypeId) (l:List Pr):Value:=match zfN P t with
 | true=>.agg (l.map Pr.v).toArray
 | false=>(l.map Pr.v).headD undef

theorem zdj {l:List Pr}{k:PK}(h:l.map Pr.k=[k]):∃ p,l=[p]∧p.k=k:=by
 match l,h with
 | [p],h=>exact ⟨p,rfl,by simpa using h⟩

theorem zmc {t:TypeId}{l:List Pr}{off n:Nat}(hi:(P.info? t).isSome=true) (hd:∃ d,P.underlying t=some d) (hn:P.cellsOf t=n) (h1:zfN P t=false→n=1) (hle:off+n≤l.length) (w:World) :
  (part t (l.map Pr.v).toArray off).run P w = .ok (mkv P t ((l.drop off).take n)) w:=by
 unfold mkv;cases hg:zfN P t with
 | true =>
  rw [ziO hi hd hn (by simpa using hle) hg w];simp
 | false =>
  have:=h1 hg;subst this;have hlt:off < l.length:=by omega
  have e:l.drop off=l[off]::l.drop (off+1):=by rw [List.drop_eq_getElem_cons hlt]
  rw [zeX (v:=l[off].v) hd (by simp [hlt]) hg w,e];rfl

theorem zot {rec_:TypeId→Option (List PK)}{D:Nat}(IH:∀ (t:TypeId) (ks:List PK) (a b:List Pr),rec_ t=some ks→a.map Pr.k=ks→b.map Pr.k=ks→∀ w,(Op.equalIn D t (mkv P t a) (mkv P t b)).run P w = .ok (decide (a=b)) w) :
  ∀ (fs:List Field) (off:Nat) (ks:List PK) (a b:List Pr),zgr P rec_ fs off=some ks→((a.drop off).take ks.length).map Pr.k=ks→((b.drop off).take ks.length).map Pr.k=ks→off+ks.length≤a.length→off+ks.length≤b.length →
  ∀ w,(Op.eqFields D (a.map Pr.v).toArray (b.map Pr.v).toArray fs).run P w = .ok (decide ((a.drop off).take ks.length=(b.drop off).take ks.length)) w:=by
 intro fs
 induction fs with
 | nil =>
  intro off ks a b h ha hb la lb w;simp only [zgr,Option.some.injEq] at h;subst h;simp [Op.eqFields]
 | cons f r ih =>
  intro off ks a b h ha hb la lb w;unfold zgr at h;split at h
  ·cases h
  ·rename_i hc;simp only [Bool.and_eq_true,bne_iff_ne,ne_eq,beq_iff_eq] at hc;obtain ⟨⟨⟨hn,rfl⟩,hi⟩,hu⟩:=hc;have hd':=Option.isSome_iff_exists.1 hu;split at h
   ·cases h
   ·rename_i k hk;split at h
    ·cases h
    ·rename_i hcs;simp only [Bool.and_eq_true,Bool.or_eq_true,beq_iff_eq] at hcs;obtain ⟨hcs,hone'⟩:=hcs;have hone:zfN P f.type=false→k.length=1:=fun hg=>hone'.resolve_left (by simp [hg])
     obtain ⟨ks',hr,rfl⟩:=Option.map_eq_some_iff.1 h;simp only [List.length_append] at la lb ha hb ⊢
     have sp:∀ (l:List Pr) (i m n:Nat),(l.drop i).take (m+n)=(l.drop i).take m++(l.drop (i+m)).take n:=by
      intro l i m n;rw [List.take_add,List.drop_drop]
     rw [sp,List.map_append] at ha hb;have ea:=List.append_inj ha (by simp;omega);have eb:=List.append_inj hb (by simp;omega);have pa:=zmc (P:=P) (t:=f.type) (l:=a) (off:=f.offset) hi hd' hcs hone (by omega);have pb:=zmc (P:=P) (t:=f.type) (l:=b) (off:=f.offset) hi hd' hcs hone (by omega);have he:=IH f.type k ((a.drop f.offset).take k.length) ((b.drop f.offset).take k.length) hk ea.1 eb.1;have hrest:=ih (f.offset+k.length) ks' a b hr ea.2 eb.2 (by omega) (by omega);rw [Op.eqFields,if_pos hn];simp only [Sem.run_bind,pa,pb,Result.andThen_ok,he];rw [sp,sp];by_cases h:(a.drop f.offset).take k.length=(b.drop f.offset).take k.length
     ·simp only [h,decide_true,Bool.not_true,Bool.false_eq_true,if_false,hrest,List.append_cancel_left_eq]
     ·have hne:¬ ((a.drop f.offset).take k.length++(a.drop (f.offset+k.length)).take ks'.length=(b.drop f.offset).take k.length++(b.drop (f.offset+k.length)).take ks'.length):=by
       intro e;exact h (List.append_inj e (by simp;omega)).1
      simp [h,hne]

theorem zsO:∀ (d:Nat) (t:TypeId) (ks:List PK) (D:Nat) (a b:List Pr),zhX P d t=some ks→d≤D→a.map Pr.k=ks→b.map Pr.k=ks→∀ w,(Op.equalIn D t (mkv P t a) (mkv P t b)).run P w = .ok (decide (a=b)) w:=by
 intro d
 induction d with
 | zero=>intro t ks D a b h;simp [zhX] at h
 | succ d ih =>
  intro t ks D a b h hD ha hb w;obtain ⟨D,rfl⟩:∃ D',D=D'+1:=⟨D - 1,by omega⟩;unfold zhX at h;split at h
  ·rename_i hu;simp only [Option.some.injEq] at h;subst h;obtain ⟨p,rfl,hp⟩:=zdj ha;obtain ⟨q,rfl,hq⟩:=zdj hb;cases p<;>simp [Pr.k] at hp;cases q<;>simp [Pr.k] at hq;rename_i x y;have hg:zfN P t=false:=by simp [zfN,hu]
   simp only [mkv,hg,List.map_cons,List.map_nil,List.headD_cons,Pr.v];have e:(Op.equalIn (D+1) t (.int .i64 x) (.int .i64 y)).run P w = .ok (x == y) w:=by simp [Op.equalIn,underlying,hu]
   rw [e];congr 1;by_cases h:x=y<;>simp [h]
  ·rename_i hu;simp only [Option.some.injEq] at h;subst h;obtain ⟨p,rfl,hp⟩:=zdj ha;obtain ⟨q,rfl,hq⟩:=zdj hb;cases p<;>simp [Pr.k] at hp;cases q<;>simp [Pr.k] at hq;rename_i x y;have hg:zfN P t=false:=by simp [zfN,hu]
   simp only [mkv,hg,List.map_cons,List.map_nil,List.headD_cons,Pr.v];have e:(Op.equalIn (D+1) t (.bool x) (.bool y)).run P w = .ok (x == y) w:=by simp [Op.equalIn,underlying,hu]
   rw [e];congr 1;by_cases h:x=y<;>simp [h]
  ·rename_i hu;simp only [Option.some.injEq] at h;subst h;obtain ⟨p,rfl,hp⟩:=zdj ha;obtain ⟨q,rfl,hq⟩:=zdj hb;cases p<;>simp [Pr.k] at hp;cases q<;>simp [Pr.k] at hq;rename_i x y;have hg:zfN P t=false:=by simp [zfN,hu]
   simp only [mkv,hg,List.map_cons,List.map_nil,List.headD_cons,Pr.v];have e:(Op.equalIn (D+1) t (.string x) (.string y)).run P w = .ok (x == y) w:=by simp [Op.equalIn,underlying,hu]
   rw [e,zuT];congr 1;by_cases h:x=y<;>simp [h]
  ·rename_i fs hu;split at h
   ·cases h
   ·rename_i hst;have hg:zfN P t=true:=by simp [zfN,hu]
    have hf:P.fieldsOf t=fs:=by simp [Program.fieldsOf,hu]
    have:=zot (P:=P) (D:=D) (fun t ks a b h ha hb=>ih t ks D a b h (by omega) ha hb) fs.toList 0 ks a b h (by rw [List.drop_zero,List.map_take,ha,List.take_length]) (by rw [List.drop_zero,List.map_take,hb,List.take_length]) (by rw [← ha];simp) (by rw [← hb];simp) w;simp only [mkv,hg];rw [run_equalIn_struct w D t _ _ (by rw [hf];exact hu) hst,hf,this];congr 2;have la:a.length=ks.length:=by rw [← ha];simp
    have lb:b.length=ks.length:=by rw [← hb];simp
    rw [List.drop_zero,List.drop_zero,← la,List.take_length,la,← lb,List.take_length]
  ·cases h

theorem eqS {t:TypeId}{ks:List PK}{a b:List Pr}{k:Value→Prop}(h:zhX P 50 t=some ks) (hs:zfN P t=true) (hg:P.eqGuardType P.depth t=false) (ha:a.map Pr.k=ks) (hb:b.map Pr.k=ks) (hk:k (.bool (decide (a=b)))) :
  PureC P (do eqGuard .eql t (.tmp 0) (.tmp 0) (.agg (a.map Pr.v).toArray) (.agg (b.map Pr.v).toArray);Go.binOp .eql t (.agg (a.map Pr.v).toArray) (.agg (b.map Pr.v).toArray)) k:=by
 refine ⟨_,fun w=>?_,hk⟩;have e:=zsO 50 t ks 10000 a b h (by decide) ha hb w;simp only [mkv,hs] at e
 have e1:(eqGuard .eql t (.tmp 0) (.tmp 0) (.agg (a.map Pr.v).toArray) (.agg (b.map Pr.v).toArray)).run P w = .ok () w:=by
  simp [eqGuard,run_program,hg,Sem.run_bind]
 rw [Sem.run_bind,e1,Result.andThen_ok];show (do pure (.bool (← Op.equal t _ _)):Sem Value).run P w=_;rw [Sem.run_bind];show (Result.andThen ((Op.equalIn 10000 t _ _).run P w) _)=_;rw [e];rfl
theorem zu4 {a b:ByteArray}{k:Value→Prop}{t:TypeId}(hk:k (.bool (decide (a=b)))):PureC P (Go.binOp .eql t (.string a) (.string b)) k:=by
 refine ⟨_,fun w=>?_,hk⟩;rw [← zuT,beq_toListBytes];rfl
theorem zvs {a b:ByteArray}{k:Value→Prop}{t:TypeId}(hk:k (.bool (!decide (a=b)))):PureC P (Go.binOp .neq t (.string a) (.string b)) k:=by
 refine ⟨_,fun w=>?_,hk⟩;rw [← zuT,beq_toListBytes];rfl
end
end Go.Proofs.YtogjajjdaoihdaaGreatDoor.Ev

namespace Go.Proofs.YtogjajjdaoihdaaGreatDoor.Ev
set_option maxRecDepth 20000
open Go Go.ChangeShapes Go.WideShapes Go.ChangeAt Go.RowKit

def Shp (P:Program) (w:World):Nat→TypeId→List Value→Prop
 | 0,_,_=>True
 | d+1,t,cs=>match P.underlying t with
  | some .bool=>∃ b,cs=[.bool b]
  | some (.int k)=>∃ n,cs=[.int k n]∧(Lit.int k n).wf=true
  | some .string=>∃ s:ByteArray,cs=[.string s]∧s.size≤maxLen
  | some (.slice e)=>cs=[.slice none 0 0]∨∃ a n c,cs=[.slice (some a) n c]∧n≤c∧c≤maxLen ∧
    ∀ i,i < n→∃ l:List Value,l.length=P.cellsOf e∧(∀ j v,l[j]?=some v→w.cell? ((a.add (i * P.cellsOf e)).add j)=some v)∧Shp P w d e l
  | some (.struct fs)=>cs.length=P.cellsOf t∧∀ (i:Nat) (f:Field),fs[i]?=some f→Shp P w d f.type ((cs.drop f.offset).take (P.cellsOf f.type))
  | _=>True

theorem zjt {H:Type}{enc:TypeId × Value→H}{P:Program}{w:World}{sp:Nat→Bool}{held:Bool}:∀ (d:Nat) (fuel:Nat) (t:TypeId) (cs:List Value) (x:DataW H × List MemPlace),DataW.trod enc P w 0 sp held fuel t cs=some x→Shp P w d t cs
 | 0,_,_,_,_,_=>trivial
 | d+1,fuel,t,cs,x,h=>by
  unfold Shp;split
  ·rename_i hu;obtain ⟨b,hb,_⟩:=DataW.trod_bool hu h;exact ⟨b,hb⟩
  ·rename_i hu;obtain ⟨n,hn,_,hw⟩:=DataW.trod_int hu h;exact ⟨n,hn,hw⟩
  ·rename_i hu;obtain ⟨s,hs,_,hw⟩:=DataW.trod_string hu h;exact ⟨s,hs,hw⟩
  ·rename_i e hu;rcases Go.Deep.open_slice hu h with ⟨hcs,_⟩ | ⟨a,len,cap,m,n,D,Pl,hcs,_,hl,hm,hmm,_,hi⟩
   ·exact .inl hcs
   ·refine .inr ⟨a,len,cap,hcs,hl,hm,fun i hilt=>?_⟩;obtain ⟨cs',hc,ht⟩:=hi i (by rw [hmm];split<;>omega);obtain ⟨_,hlen,hat⟩:=World.cells?_some hc;refine ⟨cs',hlen,fun j v hj=>?_,zjt d _ _ _ _ ht⟩;rw [hat j (by have:=(List.getElem?_eq_some_iff.1 hj).1;omega)];exact hj
  ·rename_i fs hu;obtain ⟨xs,n,_,_,hlen,hxl,hf⟩:=DataW.trod_struct hu h;refine ⟨hlen,fun i f hi=>?_⟩;have h1:=hf i f hi;have hil:i < xs.length:=by rw [hxl];exact (Array.getElem?_eq_some_iff.1 hi).1
   rw [List.getElem?_eq_getElem hil] at h1;exact zjt d _ _ _ _ h1
  ·trivial

structure Slc {α:Type} (w:World) (sz:Nat) (enc:α→List Value) (G:α→Prop) (a:Option Addr) (n:Nat) (xs:List α):Prop where
 len:xs.length=n
 max:n≤9223372036854775807
 cells:∀ k x,xs[k]?=some x→∃ b o,a=some ⟨b,o,none⟩∧b < w.heap.size∧CellsAt w b (o+k * sz) (enc x)
 good:∀ x∈xs,G x

def Dec {α:Type}(P:Program) (w:World) (d:Nat) (t:TypeId) (enc:α→List Value) (G:α→Prop):Prop:=∀ cs,Shp P w d t cs→∃ x,cs=enc x∧G x

theorem zp0 {α:Type}{p:Nat→α→Prop}:∀ n,(∀ i,i < n→∃ x,p i x)→∃ xs:List α,xs.length=n∧∀ i x,xs[i]?=some x→p i x
 | 0,_=>⟨[],rfl,by simp⟩
 | n+1,h=>by
  obtain ⟨xs,hl,hx⟩:=zp0 n fun i hi=>h i (by omega)
  obtain ⟨y,hy⟩:=h n (by omega);refine ⟨xs++[y],by simp [hl],fun i x hi=>?_⟩;rw [List.getElem?_append] at hi;split at hi
  ·exact hx i x hi
  ·rename_i hge
   have:i=n:=by
    have:=(List.getElem?_eq_some_iff.1 hi).1;simp at this;omega
   subst this;simp [hl] at hi;subst hi;exact hy

theorem zge (a:Addr) (h:a.spot=none) (i j:Nat):(a.add i).add j=⟨a.block,a.off+i+j,none⟩:=by
 obtain ⟨b,o,s⟩:=a;simp only at h;subst h;rw [zbl,zbl]

theorem zsp {α:Type}{P:Program}{w:World}{d:Nat}{t e:TypeId}{sz:Nat}{enc:α→List Value}{G:α→Prop}(hu:P.underlying t=some (.slice e)) (hc:P.cellsOf e=sz) (hsz:0 < sz) (hd:Dec P w d e enc G)
  {a:Option Addr} {n c:Nat} (h:Shp P w (d+1) t [.slice a n c]):∃ xs,Slc w sz enc G a n xs∧n≤c:=by
 unfold Shp at h;rw [hu] at h;simp only at h;rcases h with h | ⟨a',n',c',h,hnc,hm,hi⟩
 ·simp only [List.cons.injEq,Value.slice.injEq,and_true] at h;obtain ⟨rfl,rfl,rfl⟩:=h;exact ⟨[],⟨rfl,by omega,by simp,by simp⟩,Nat.le_refl _⟩
 ·simp only [List.cons.injEq,Value.slice.injEq,and_true] at h;obtain ⟨rfl,rfl,rfl⟩:=h
  have key:∀ i,i < n→∃ x,(∃ b o,some a'=some ⟨b,o,none⟩∧b < w.heap.size∧CellsAt w b (o+i * sz) (enc x))∧G x:=by
   intro i hil;obtain ⟨l,hl,hcell,hs⟩:=hi i hil;obtain ⟨x,rfl,hg⟩:=hd l hs;rw [hc] at hl hcell;have h0:∃ v,(enc x)[0]?=some v:=⟨_,List.getElem?_eq_getElem (by omega)⟩;obtain ⟨v,hv⟩:=h0;have hc0:=hcell 0 v hv
   have hspot:a'.spot=none:=by
    obtain ⟨l0,hl0,hcell0,_⟩:=hi 0 (by omega);rw [hc] at hl0;have h1:=World.cell?_spot (hcell0 0 _ (List.getElem?_eq_getElem (by omega)));simpa [Addr.add] using h1
   refine ⟨x,⟨a'.block,a'.off,?_,?_,fun j u hj=>?_⟩,hg⟩
   ·obtain ⟨b,o,s⟩:=a';simp only at hspot;subst hspot;rfl
   ·have:=zbO hc0;rw [zge _ hspot] at this;exact this
   ·have:=hcell j u hj
    rwa [zge _ hspot] at this
  obtain ⟨xs,hl,hx⟩:=zp0 n key;refine ⟨xs,⟨hl,by unfold maxLen at hm;omega,fun k x hk=>(hx k x hk).1,fun x hx'=>?_⟩,hnc⟩;obtain ⟨k,hk⟩:=List.mem_iff_getElem?.1 hx';exact (hx k x hk).2

theorem zs9 {P:Program}{w:World}{d:Nat}{t:TypeId}(hu:P.underlying t=some (.int .i64)):Dec P w (d+1) t (fun x:Int=>[.int .i64 x]) (fun x=>-9223372036854775808≤x∧x≤9223372036854775807):=by
 intro cs h;unfold Shp at h;rw [hu] at h;obtain ⟨n,rfl,hw⟩:=h;refine ⟨n,rfl,?_⟩;have h1:IntKind.i64.min = -9223372036854775808:=rfl;have h2:IntKind.i64.max=9223372036854775807:=rfl;simp only [Lit.wf,Bool.and_eq_true,decide_eq_true_eq] at hw;omega
theorem zhi {H:Type}{enc:TypeId × Value→H}{P:Program}(hl:laidOutB P=true) {W W':World}(hb:Below W.heap.size W W'):∀ (ts:List TypeId) (vs:List Value) (ds:List (DataW H)) (ps:List MemPlace),
  (ts.all fun t=>P.readableRec t&&decide (t < P.types.size))=true→DataW.TrodAll enc P W 0 (fun _=>true) true ts vs ds ps→(∀ x∈ps,x.block < W.heap.size)→DataW.TrodAll enc P W' 0 (fun b=>decide (b < W.heap.size)) true ts vs ds ps
 | [],vs,ds,ps,_,h,_=>by
  cases vs<;>cases ds<;>simp_all [DataW.TrodAll]
 | t::ts,vs,ds,ps,hr,h,hlt=>by
  obtain ⟨v,vs',d,ds',p,q,rfl,rfl,rfl,h1,h2⟩:=trodAll_cons h;simp only [List.all_cons,Bool.and_eq_true,decide_eq_true_eq] at hr;exact ⟨p,q,Below.trod hl hr.1.1 hr.1.2 h1 hb (fun x hx=>hlt x (List.mem_append_left _ hx)),zhi hl hb ts vs' ds' q hr.2 h2 (fun x hx=>hlt x (List.mem_append_right _ hx)),rfl⟩

theorem Ext.below {w w':World}(h:Ext No w w'):Below w.heap.size w w':=⟨h.os,h.tape,h.output,h.size,fun k hk=>h.block k hk fun h=>h⟩

def ztb (P:Program) (W:World) (t:TypeId) (v:Value):Prop:=(∃ base,Value.okWide P W .any base t v)∧∀ d,Shp P W d t v.cells.toList

theorem zjV {α:Type}{P:Program}{W:World}{t e:TypeId}{v:Value}{d sz:Nat}{enc:α→List Value}{G:α→Prop}(hu:P.underlying t=some (.slice e)) (hc:P.cellsOf e=sz) (hsz:0 < sz) (hd:Dec P W d e enc G) (h:ztb P W t v) :
  ∃ a n c xs,v = .slice a n c∧Slc W sz enc G a n xs∧n≤c:=by
 obtain ⟨⟨base,h1⟩,h2⟩:=h;obtain ⟨a,n,c,rfl⟩:=okWide_slice hu h1;obtain ⟨xs,hx,hn⟩:=zsp (n:=n) (c:=c) hu hc hsz hd (h2 (d+1));exact ⟨a,n,c,xs,rfl,hx,hn⟩
def ArgsOk (P:Program) (W:World):List TypeId→List Value→Prop
 | [],[]=>True
 | t::ts,v::vs=>ztb P W t v∧ArgsOk P W ts vs
 | _,_=>False

theorem ArgsOk.cons {P:Program}{W:World}{t:TypeId}{ts:List TypeId}{vs:List Value}(h:ArgsOk P W (t::ts) vs):∃ v vs',vs=v::vs'∧ztb P W t v∧ArgsOk P W ts vs':=by
 cases vs with
 | nil=>exact h.elim
 | cons v vs=>exact ⟨v,vs,rfl,h.1,h.2⟩
theorem ArgsOk.nil {P:Program}{W:World}{vs:List Value}(h:ArgsOk P W [] vs):vs=[]:=by
 cases vs with
 | nil=>rfl
 | cons v vs=>exact h.elim

theorem zkS {H:Type}{enc:TypeId × Value→H}{P:Program}{W:World}{base:Nat}{sp:Nat→Bool}{held:Bool}:∀ (ts:List TypeId) (vs:List Value) (ds:List (DataW H)) (ps:List MemPlace),
  (∀ (j:Nat) t v,ts[j]?=some t→vs[j]?=some v→Value.okWide P W .any base t v)→DataW.TrodAll enc P W 0 sp held ts vs ds ps→ArgsOk P W ts vs
 | [],vs,ds,ps,_,h=>by
  cases vs<;>cases ds<;>simp_all [DataW.TrodAll,ArgsOk]
 | t::ts,vs,ds,ps,hv,h=>by
  obtain ⟨v,vs',d,ds',p,q,rfl,rfl,rfl,h1,h2⟩:=trodAll_cons h;obtain ⟨fuel,hf⟩:=h1;exact ⟨⟨⟨base,hv 0 t v rfl rfl⟩,fun d=>zjt d _ _ _ _ hf⟩,zkS ts vs' ds' q (fun j t' v' ht hv'=>hv (j+1) t' v' ht hv') h2⟩

end Go.Proofs.YtogjajjdaoihdaaGreatDoor.Ev

namespace Go.Proofs.YtogjajjdaoihdaaGreatDoor.Ev
set_option maxRecDepth 20000
open Go

structure Codec {α:Type} (sz:Nat) (enc:α→List Value):Prop where
 len:∀ x,(enc x).length=sz
 one:∀ x,(enc x).all zcN=true
 pos:0 < sz

section
variable {α : Type} {sz : Nat} {enc : α → List Value}

theorem zas (C:Codec sz enc) (xs:List α):(xs.flatMap enc).length=xs.length * sz:=by
 induction xs with
 | nil=>simp
 | cons x xs ih=>rw [List.flatMap_cons,List.length_append,ih,C.len,List.length_cons];rw [Nat.succ_mul];omega
theorem zdH (C:Codec sz enc) (xs:List α):(xs.flatMap enc).all zcN=true:=by
 induction xs with
 | nil=>rfl
 | cons x xs ih=>rw [List.flatMap_cons,List.all_append,ih,C.one];rfl
theorem zdi (C:Codec sz enc):∀ {xs:List α}{k:Nat}{x:α},xs[k]?=some x→xs.flatMap enc=(xs.take k).flatMap enc++(enc x++(xs.drop (k+1)).flatMap enc)∧((xs.take k).flatMap enc).length=k * sz
 | [],_,_,h=>by simp at h
 | y::xs,0,x,h=>by
  simp only [List.getElem?_cons_zero,Option.some.injEq] at h;subst h;simp
 | y::xs,k+1,x,h=>by
  simp only [List.getElem?_cons_succ] at h;obtain ⟨h1,h2⟩:=zdi C h;constructor
  ·rw [List.flatMap_cons,List.take_succ_cons,List.flatMap_cons,List.drop_succ_cons,List.append_assoc,← h1]
  ·rw [List.take_succ_cons,List.flatMap_cons,List.length_append,h2,C.len,Nat.succ_mul];omega
theorem zdG (C:Codec sz enc) {xs:List α}{k j:Nat}{x:α}{v:Value}(hx:xs[k]?=some x) (hv:(enc x)[j]?=some v):(xs.flatMap enc)[k * sz+j]?=some v:=by
 obtain ⟨h1,h2⟩:=zdi C hx;have hj:=(List.getElem?_eq_some_iff.1 hv).1;rw [h1,List.getElem?_append_right (by omega),h2,Nat.add_sub_cancel_left,List.getElem?_append_left hj];exact hv
theorem zry (C:Codec sz enc) {xs:List α}{k j n:Nat}{x:α}(hx:xs[k]?=some x) (hn:j+n≤sz):((xs.flatMap enc).drop (k * sz+j)).take n=((enc x).drop j).take n:=by
 obtain ⟨h1,h2⟩:=zdi C hx;have hl:=C.len x;rw [h1,List.drop_append,h2,Nat.add_sub_cancel_left,List.drop_eq_nil_of_le (by omega),List.nil_append,List.drop_append,List.take_append_of_le_length (by simp;omega)]
theorem zdE (A B D vs:List Value) (j:Nat) (h:j+vs.length≤B.length):zaO (A++(B++D)) (A.length+j) vs=A++(zaO B j vs++D):=by
 unfold zaO;rw [List.take_append,List.drop_append,List.take_of_length_le (by omega),Nat.add_sub_cancel_left,List.drop_eq_nil_of_le (by omega),List.take_append_of_le_length (by omega),List.nil_append];rw [show A.length+j+vs.length - A.length=j+vs.length by omega,List.drop_append_of_le_length h];simp
theorem zdR (C:Codec sz enc) {xs:List α}{k j:Nat}{x y:α}{vs:List Value}(hx:xs[k]?=some x) (hn:j+vs.length≤sz) (hy:zaO (enc x) j vs=enc y):zaO (xs.flatMap enc) (k * sz+j) vs=(xs.set k y).flatMap enc:=by
 obtain ⟨h1,h2⟩:=zdi C hx;have hl:=C.len x;have hlt:=(List.getElem?_eq_some_iff.1 hx).1;rw [h1,← h2,zdE _ _ _ _ _ (by omega),hy];have hy':(xs.set k y)[k]?=some y:=by rw [List.getElem?_set_self hlt]
 rw [(zdi C hy').1,List.take_set_of_le (by omega),List.drop_set_of_lt (by omega)]
theorem zfZ {cs vs:List Value}(h:vs.length=cs.length):zaO cs 0 vs=vs:=by
 unfold zaO;rw [List.drop_eq_nil_of_le (by omega)];simp
theorem zgN (p:Value) (cs vs:List Value) (o:Nat):zaO (p::cs) (o+1) vs=p::zaO cs o vs:=by
 unfold zaO;rw [List.take_succ_cons,show o+1+vs.length=(o+vs.length)+1 by omega,List.drop_succ_cons];rfl

variable {G : α → Prop} {w w' : World} {S T : Nat → Prop} {a : Option Addr} {b o n : Nat} {xs : List α}
theorem Slc.ext (h:Slc w sz enc G a n xs) (hx:Ext S w w') (hS:∀ b o,a=some ⟨b,o,none⟩→¬ S b):Slc w' sz enc G a n xs :=
 ⟨h.len,h.max,fun k x hk=>by
  obtain ⟨b,o,ha,hb,hc⟩:=h.cells k x hk;exact ⟨b,o,ha,Nat.lt_of_lt_of_le hb hx.size,hx.cells hc (hS b o ha)⟩,h.good⟩
theorem Slc.no (h:Slc w sz enc G a n xs) (hx:Ext No w w'):Slc w' sz enc G a n xs:=h.ext hx fun _ _ _ h=>h
theorem Slc.at (h:Slc w sz enc G a n xs) {k:Nat}(hk:k < n):∃ b o x,xs[k]?=some x∧G x∧a=some ⟨b,o,none⟩∧b < w.heap.size∧CellsAt w b (o+k * sz) (enc x):=by
 have hlt:k < xs.length:=by rw [h.len];exact hk
 obtain ⟨b,o,ha,hb,hc⟩:=h.cells k _ (List.getElem?_eq_getElem hlt);exact ⟨b,o,_,List.getElem?_eq_getElem hlt,h.good _ (List.getElem_mem hlt),ha,hb,hc⟩
theorem CellsAt.one {l:List Value}(h:CellsAt w b o l) (j:Nat) {v:Value}(hv:l[j]?=some v):w.cell? ⟨b,o+j,none⟩=some v:=h j v hv
theorem CellsAt.sub {l:List Value}(h:CellsAt w b o l) (j:Nat) {l':List Value}(hl:(l.drop j).take l'.length=l'):CellsAt w b (o+j) l':=fun i v hi=>by
 rw [Nat.add_assoc];refine h (j+i) v ?_;have hlt:=(List.getElem?_eq_some_iff.1 hi).1;rw [← hl,List.getElem?_take_of_lt hlt,List.getElem?_drop] at hi;exact hi
theorem CellsAt.lt {l:List Value}(h:CellsAt w b o l) (hl:0 < l.length):b < w.heap.size:=zbO (h 0 _ (List.getElem?_eq_getElem hl))

theorem Slc.of_cells (C:Codec sz enc) (hl:xs.length=n) (hm:n≤9223372036854775807) (hg:∀ x∈xs,G x) (hc:∀ (j:Nat) v,(xs.flatMap enc)[j]?=some v→∃ b o,a=some ⟨b,o,none⟩∧w.cell? ⟨b,o+j,none⟩=some v):Slc w sz enc G a n xs :=
 ⟨hl,hm,fun k x hk=>by
  have hp:=C.pos;have hlx:=C.len x;obtain ⟨v0,hv0⟩:∃ v,(enc x)[0]?=some v:=⟨_,List.getElem?_eq_getElem (by omega)⟩;obtain ⟨b,o,ha,hc0⟩:=hc _ _ (zdG C hk hv0);refine ⟨b,o,ha,zbO hc0,fun j v hj=>?_⟩;obtain ⟨b',o',ha',hc'⟩:=hc _ _ (zdG C hk hj);rw [ha] at ha';simp only [Option.some.injEq,Addr.mk.injEq,and_true] at ha';obtain ⟨rfl,rfl⟩:=ha';rw [Nat.add_assoc];exact hc',hg⟩
theorem Slc.of_blk (C:Codec sz enc) {t:TypeId}{cs:List Value}(h:Blk w b t cs) (hl:xs.length=n) (hm:n≤9223372036854775807) (hg:∀ x∈xs,G x) (hs:(cs.drop o).take (xs.length * sz)=xs.flatMap enc):Slc w sz enc G (some ⟨b,o,none⟩) n xs :=
 Slc.of_cells C hl hm hg fun j v hj=>⟨b,o,rfl,by
  have hlt:=(List.getElem?_eq_some_iff.1 hj).1;rw [zas C] at hlt;rw [h.cell,← List.getElem?_drop,← List.getElem?_take_of_lt hlt,hs];exact hj⟩

def zaf {α:Type}(e:TypeId) (sz:Nat) (enc:α→List Value) (v:Value) (xs:List α):Ent:=own e sz v xs.length (xs.flatMap enc)
theorem zaj {e:TypeId}{v:Value}:(zaf e sz enc v xs).Local:=zdY _ _ _ _ _
theorem zap (C:Codec sz enc) {e:TypeId}{c:Nat}(h:(zaf e sz enc (.slice a n c) xs).holds w) (hg:∀ x∈xs,G x):Slc w sz enc G a n xs:=by
 obtain ⟨h1,⟨h2,h3⟩ | ⟨g,cap,cur,h2,h3,h4,h5,h6,h7,h8⟩⟩:=h
 ·cases h2;have hx:xs=[]:=List.eq_nil_of_length_eq_zero h3;subst hx;exact ⟨rfl,by decide,by simp,by simp⟩
 ·cases h2;refine Slc.of_cells C rfl (by unfold maxLen at h6;omega) hg fun j v hj=>⟨g,0,rfl,?_⟩
  have hlt:=(List.getElem?_eq_some_iff.1 hj).1;rw [zas C] at hlt;rw [← h8,List.getElem?_take_of_lt (by omega)] at hj;simp only [World.cell?,h4,Nat.zero_add];simpa using hj
end

section
variable {P : Program} {α : Type} {sz : Nat} {enc : α → List Value} {w0 w w' : World} {S T : Nat → Prop} {H : List Ent}

theorem znT {v:Value}(h:zcN v=true):v.oneCell'=true:=by cases v<;>simp_all [zcN,Value.oneCell']

theorem zvM (h:St w0 S w H) {i:Nat}{e:TypeId}{size:Nat}{v v':Value}{n n':Nat}{xs xs':List Value}(hi:H[i]?=some (own e size v n xs)) (ho:w'.ownsRow 0 e size v' n' xs') (hg:w.grownBy w' v.ownBlock) (hb:v'.ownBlock=v.ownBlock∨v'.ownBlock=some w.heap.size) :
  St w0 S w' (H.set i (own e size v' n' xs')):=by
 refine h.upd i hi (Ext.of_grown hg) (fun q hq=>by simp [own,hq]) (zdY _ _ _ _ _) ho ?_;intro q hq;have hq:v'.ownBlock=some q:=by simpa [own] using hq
 rcases hb with hb|hb
 ·left;simp only [own];rw [← hb,hq];simp
 ·right
  rw [hb] at hq;simp only [Option.some.injEq] at hq;subst hq;refine ⟨Nat.le_refl _,?_⟩;obtain ⟨_,⟨h6,_⟩ | ⟨g,cap,cur,h6,_,h7,_⟩⟩:=ho
  ·rw [h6] at hb;simp [Value.ownBlock] at hb
  ·rw [h6] at hb;simp only [Value.ownBlock,Option.some.injEq] at hb;subst hb;exact (Array.getElem?_eq_some_iff.1 h7).1

theorem St.appS (h:St w0 S w H) (C:Codec sz enc) (i:Nat) {t e:TypeId}{bytes:Nat}{z v:Value}{a:Option Addr}{m c:Nat}{G:α→Prop}{xs ys:List α}{k:Value→World→Prop}
  (hu:P.underlying t=some (.slice e)) (hs:(P.info? e).map (fun i=>(i.size,i.bytes))=some (sz,bytes)) (hz:(P.info? e).bind (·.zero)=some z) (hzs:Nat.beq z.cells.size sz=true)
  (hi:H[i]?=some (zaf e sz enc v xs)) (hy:Slc w sz enc G a m ys) (h63:xs.length+m≤maxLen) (hbytes:(xs.length+m) * bytes≤140737488355328)
  (hk:∀ a' c' w',St w0 S w' (H.set i (zaf e sz enc (.slice a' (xs.length+m) c') (xs++ys)))→k (.slice a' (xs.length+m) c') w') :
  RunC P (Builtin.append_ #[t,t] 0 #[v,.slice a m c]) w k:=by
 obtain ⟨ie,h1',h2⟩:=Option.map_eq_some_iff.1 hs;obtain ⟨ie',h3,h4⟩:=Option.bind_eq_some_iff.1 hz;obtain rfl:=Option.some.inj (h1'.symm.trans h3);simp only [Prod.mk.injEq] at h2;have hlen:=hy.len;have hen:xs.length+m=(xs++ys).length:=by simp [hlen]
 have hef:(xs++ys).flatMap enc=xs.flatMap enc++ys.flatMap enc:=by simp
 have form:∀ (v':Value) (w':World),w'.ownsRow 0 e sz v' (xs.length+m) (xs.flatMap enc++ys.flatMap enc)→∃ a' c',v' = .slice a' (xs.length+m) c':=by
  rintro v' w' ⟨_,⟨h6,h7⟩ | ⟨g,cap,cur,h6,_⟩⟩
  ·exact ⟨none,0,by rw [h6,h7]⟩
  ·exact ⟨_,_,h6⟩
 cases a with
 | none =>
  have hm:ys=[]:=by
   cases ys with
   | nil=>rfl
   | cons y ys=>obtain ⟨b,o,ha,_⟩:=hy.cells 0 y rfl;cases ha
  subst hm;have hm:m=0:=by simpa using hlen.symm
  subst hm;have ho:=h.get i hi;obtain ⟨a',c',hv⟩:=form v w (by simpa [zaf,own] using ho);subst hv
  have hle:xs.length≤c':=by
   obtain ⟨_,⟨h6,h7⟩ | ⟨g,cap,cur,h6,_,_,h8,_⟩⟩:=ho
   ·simp only [Value.slice.injEq] at h6;omega
   ·simp only [Value.slice.injEq] at h6;omega
  refine ⟨.slice a' (xs.length+0) c',w,?_,hk a' c' w ?_⟩
  ·refine run_append_nothing w t t 0 e ie hu h1' a' (xs.length+0) c' hle (.slice none 0 c) ⟨.inl ⟨_,hu⟩,fun w'=>rfl,rfl,rfl,by simp,by simp⟩
  ·have:H.set i (zaf e sz enc (.slice a' (xs.length+0) c') (xs++[]))=H:=by
    rw [List.append_nil];obtain ⟨hl,he⟩:=List.getElem?_eq_some_iff.1 hi;apply List.ext_getElem?;intro j;rw [List.getElem?_set];split
    ·rename_i he';subst he';simp [hl,he]
    ·rfl
   rw [this];exact h
 | some a =>
  have hsp:∀ j u,(ys.flatMap enc)[j]?=some u→w.cell? (a.add j)=some u:=by
   intro j u hj;have hlt:=(List.getElem?_eq_some_iff.1 hj).1;rw [zas C] at hlt;have hk:j / sz < ys.length:=by rw [Nat.div_lt_iff_lt_mul C.pos];exact hlt
   obtain ⟨b,o,ha,_,hc⟩:=hy.cells (j / sz) _ (List.getElem?_eq_getElem hk);simp only [Option.some.injEq] at ha;subst ha;rw [zbl];have e1:j=j / sz * sz+j % sz:=by rw [Nat.mul_comm];exact (Nat.div_add_mod j sz).symm
   have hmod:j % sz < (enc ys[j / sz]).length:=by rw [C.len];exact Nat.mod_lt _ C.pos
   have h5:=zdG C (List.getElem?_eq_getElem hk) (List.getElem?_eq_getElem hmod);rw [← e1,hj] at h5;simp only [Option.some.injEq] at h5;have:=hc (j % sz) u (by rw [List.getElem?_eq_getElem hmod,h5]);rw [Nat.add_assoc,← e1] at this;exact this
  obtain ⟨v',w',hr,ho,hg,hnil,hb⟩:=run_append_own_at (P:=P) w 0 t 0 e ie z sz bytes hu h1' h4 h2.1 h2.2 (Nat.eq_of_beq_eq_true hzs) C.pos v xs.length (xs.flatMap enc) (h.get i hi) a m c (ys.flatMap enc) (by rw [zas C,hlen])
   hsp (fun u hu=>znT (List.all_eq_true.1 (zdH C ys) u hu)) h63 hbytes (Nat.zero_le _)
  obtain ⟨a',c',rfl⟩:=form v' w' ho;refine ⟨_,_,hr,hk a' c' w' ?_⟩;have:=zvM h hi ho hg hb;simpa [zaf,hlen] using this

theorem St.lit0 (h:St w0 S w H) {t e:TypeId}{sz:Nat}{k:Value→World→Prop}
  (hu:P.underlying t=some (.slice e)) (hs:(P.info? e).map (·.size)=some sz)
  (hk:∀ b w',St w0 S w' (H++[own e sz (.slice (some ⟨b,0,none⟩) 0 0) 0 []])→k (.slice (some ⟨b,0,none⟩) 0 0) w'):RunC P (Instr.buildSlice t 0 #[]) w k:=by
 obtain ⟨ie,h1,h2⟩:=Option.map_eq_some_iff.1 hs;refine ⟨.slice (some ⟨w.heap.size,0,none⟩) 0 0,zbk w e [],?_,hk w.heap.size (zbk w e []) ?_⟩
 ·simp [Instr.buildSlice,underlying,hu,sizeOf,typeInfo,h1,Instr.fill,newRow,newObj,Sem.run,zbk];rw [show Array.range 0 = #[] from by simp];simp
 ·refine h.made (Ext.push _ _ _ _) (zdY _ _ _ _ _) ⟨by simp,.inr ⟨w.heap.size,0,#[],rfl,Nat.zero_le _,?_,Nat.le_refl _,Nat.zero_le _,by simp,by simp⟩⟩ ?_
  ·show (w.heap.push _)[w.heap.size]?=_;rw [Array.getElem?_push,if_pos rfl]
  ·intro q hq;obtain rfl:q=w.heap.size:=by simpa [own,Value.ownBlock] using hq
   simp [zbk]

theorem zcD {cs vs:List Value}{o:Nat}(h:o+vs.length≤cs.length):(zaO cs o vs).length=cs.length:=by
 simp only [zaO,List.length_append,List.length_take,List.length_drop];omega
theorem zox {cs vs:List Value}{o n:Nat}(h:o+vs.length≤n) (hn:n≤cs.length):(zaO cs o vs).take n=zaO (cs.take n) o vs:=by
 have e:=zdE [] (cs.take n) (cs.drop n) vs o (by rw [List.length_take];omega);simp only [List.nil_append,List.length_nil,Nat.zero_add,List.take_append_drop] at e;have hl:(zaO (cs.take n) o vs).length=n:=by rw [zcD (by rw [List.length_take];omega),List.length_take];omega
 rw [e,List.take_append_of_le_length (by omega),List.take_of_length_le (by omega)]

theorem St.ownSt (h:St w0 S w H) (i:Nat) {e:TypeId}{size n o b:Nat}{n' c:Nat}{xs vs:List Value}{k:World→Prop}(hi:H[i]?=some (own e size (.slice (some ⟨b,0,none⟩) n' c) n xs)) (hle:o+vs.length≤xs.length) (h1:vs.all zcN=true)
  (hk:∀ w',St w0 S w' (H.set i (own e size (.slice (some ⟨b,0,none⟩) n' c) n (zaO xs o vs)))→k w'):StC w b o vs k:=by
 obtain ⟨h2,⟨h3,_⟩ | ⟨g,cap,cur,h3,h4,h5,h6,h7,h8,h9⟩⟩:=h.get i hi
 ·cases h3
 cases h3;have hcl:n * size≤cur.size:=by rw [h8];exact Nat.mul_le_mul_right _ h6
 have hb:Blk w b e cur.toList:=by simpa [Blk] using h5
 have hx:xs.length=n * size:=h2;refine ⟨e,cur.toList,hb,by simp;omega,by simpa using h1,hk _ (h.upd i hi (T:=(· = b)) (Ext.set (S:=(· = b)) (b:=b) rfl e _) (fun q hq=>by simp [own,Value.ownBlock,hq]) (zdY _ _ _ _ _) ?_ fun q hq=>.inl hq)⟩
 have hov:(zaO cur.toList o vs).length=cur.size:=by
  have hl:o+vs.length≤cur.size:=by omega
  simp only [zaO,List.length_append,List.length_take,List.length_drop,Array.length_toList];omega
 refine ⟨by simp only [zaO,List.length_append,List.length_take,List.length_drop];omega,.inr ⟨b,c,(zaO cur.toList o vs).toArray,rfl,h4,?_,h6,h7,by rw [List.size_toArray,hov,h8],?_⟩⟩
 ·have:=zcd (t:=e) (cs:=zaO cur.toList o vs) hb.lt;exact this
 ·rw [List.toList_toArray,zox (by omega) (by simpa using hcl),h9]
end
end Go.Proofs.YtogjajjdaoihdaaGreatDoor.Ev

namespace Go.Proofs.YtogjajjdaoihdaaGreatDoor.Ev
set_option maxRecDepth 20000
open Go
section
variable {P : Program} {τ : Tab} {N d : Nat} {σ : zar} {w : World} {ops rest : List Oper} {x y : Operand} {v : Value} {ty : TypeId} {pos : String} {after : Array Edge} {Q : zar → World → Prop}
theorem zvD {k:zar→Prop}(h:Nat.blt d N=true) (hk:k ((d,v)::σ)):zek N (some d) v σ k:=by
 simp only [zek];rw [h];exact hk
theorem zvv (hx:ro σ x=some v) (hd:Nat.blt d N=true) (hk:zbv P τ N ops Q rest ((d,v)::σ) w) :
  zbv P τ N ops Q (⟨some d,.assign x,ty,pos,after,none⟩::rest) σ w:=by
 show zc6 P τ N ops ⟨some d,.assign x,ty,pos,after,none⟩ (zbv P τ N ops Q rest) σ w;unfold zc6;simp only [zdf,zcO,zgi,zd8,hx,zek,hd];exact hk
theorem zvt (hx:ro σ x=some v) (hd:Nat.blt d N=true) (hk:zbv P τ N ops Q rest ((d,v)::σ) w) :
  zbv P τ N ops Q (⟨some d,.move x,ty,pos,after,none⟩::rest) σ w:=by
 show zc6 P τ N ops ⟨some d,.move x,ty,pos,after,none⟩ (zbv P τ N ops Q rest) σ w;unfold zc6;simp only [zdf,zcO,zgi,zd8,hx,zek,hd];exact hk
theorem zvH {a:Addr}(hx:ro σ x=some (.pointer (some a))) (hd:Nat.blt d N=true) (hk:zbv P τ N ops Q rest ((d,.pointer (some a))::σ) w) :
  zbv P τ N ops Q (⟨some d,.nilCheck x,ty,pos,after,none⟩::rest) σ w:=by
 show zc6 P τ N ops ⟨some d,.nilCheck x,ty,pos,after,none⟩ (zbv P τ N ops Q rest) σ w;unfold zc6;simp only [zdf,zcO,zgi,zd8,hx,zek,hd];exact hk
theorem sSt {t b o n:Nat}{kd:TK}{z:List Value}(hx:ro σ x=some (.pointer (some ⟨b,o,none⟩))) (hy:ro σ y=some v) (ht:tl τ t=some ⟨n,kd,z⟩) (hn:Nat.beq (zam v).length n=true) (hk:StC w b o (zam v) fun w'=>zbv P τ N ops Q rest σ w') :
  zbv P τ N ops Q (⟨none,.store t x y,ty,pos,after,none⟩::rest) σ w:=by
 show zc6 P τ N ops ⟨none,.store t x y,ty,pos,after,none⟩ (zbv P τ N ops Q rest) σ w;unfold zc6;simp only [zdf,zcO,zdD,hx,hy,ht,hn,zek];exact hk
theorem zvK {t:TypeId}(hx:ro σ x=some v) (hd:Nat.blt d N=true) (hk:NewC w t (zam v) fun v w=>zbv P τ N ops Q rest ((d,v)::σ) w) :
  zbv P τ N ops Q (⟨some d,.box t x,ty,pos,after,none⟩::rest) σ w:=by
 show zc6 P τ N ops ⟨some d,.box t x,ty,pos,after,none⟩ (zbv P τ N ops Q rest) σ w;unfold zc6;simp only [zdf,zcO,zdD,hx,zek,hd];exact hk
theorem zsm {t:TypeId}{parts:Array (Nat × Operand)}{ps:List (Nat × Value)}{n:Nat}{fs:List (Nat × Nat × Bool)}(ht:tl τ t=some ⟨n,.struct fs,[]⟩) (hp:∀ k:List (Nat × Value)→Prop,k ps→zfO σ parts.toList k) (hr:∀ w,(Instr.build t ps.toArray).run P w = .ok v w) (hd:Nat.blt d N=true) (hk:zbv P τ N ops Q rest ((d,v)::σ) w) :
  zbv P τ N ops Q (⟨some d,.build t parts,ty,pos,after,none⟩::rest) σ w:=by
 show zc6 P τ N ops ⟨some d,.build t parts,ty,pos,after,none⟩ (zbv P τ N ops Q rest) σ w;unfold zc6;simp only [zdf,zcO,zgi,zd8,ht];refine hp _ ?_;refine PureC.of hr ?_;exact zvD hd hk
theorem zu2 (h:Q σ w):zbv P τ N ops Q [] σ w:=h
theorem zu8 {K:EV}{Q:EQ}(h:K Q σ w):zuw K Q .normal σ w:=h
theorem zvr {a b:Code}{Q:EQ}(h:evR P τ N a (zuw (evR P τ N b) Q) σ w):evR P τ N (.seq a b) Q σ w:=h
theorem zvf {id:Nat}{ops:Array Oper}{Q:EQ}(h:zbv P τ N ops.toList (Q .normal) ops.toList σ w):evR P τ N (.region id ops false) Q σ w:=h
end

theorem St.stX {w0 w:World}{S:Nat→Prop}{H:List Ent}(h:St w0 S w H) (i:Nat) {b o:Nat}{t:TypeId}{cs vs:List Value}{k:World→Prop}(hi:H[i]?=some (Ev.blk b t cs)) (hle:o+vs.length≤cs.length) (h1:vs.all zcN=true)
  (hk:∀ w',Ext (· = b) w w'→St w0 S w' (H.set i (Ev.blk b t (zaO cs o vs)))→k w'):StC w b o vs k:=by
 have hb:=h.blk i hi;have hx:Ext (· = b) w (zbE w b t (zaO cs o vs)):=Ext.set (S:=(· = b)) (b:=b) rfl t _;exact ⟨t,cs,hb,hle,by simpa using h1,hk _ hx (h.upd i hi (T:=(· = b)) hx (fun c hc=>by simp [Ev.blk,hc]) (zab _ _ _) (zcd hb.lt) (fun c hc=>.inl hc))⟩

theorem zkO {α:Type}{P:Program}{sz:Nat}{enc:α→List Value}(C:Codec sz enc) {t e:TypeId}{xs:List α}{k:Nat}{x:α}{i:Int}(hu:P.underlying t=some (.array xs.length e)) (hi:(P.info? e).isSome=true) (hd:∃ d,P.underlying e=some d) (hc:P.cellsOf e=sz) (hg:zfN P e=true) (hx:xs[k]?=some x) (hk:i=(k:Int)) (w:World) :
  (Instr.index t (.agg (xs.flatMap enc).toArray) (.int .i64 i)).run P w = .ok (.agg (enc x).toArray) w:=by
 subst hk;have hlt:=(List.getElem?_eq_some_iff.1 hx).1
 have hs:k * sz+sz≤(xs.flatMap enc).length:=by
  rw [zas C];have:(k+1) * sz≤xs.length * sz:=Nat.mul_le_mul_right _ hlt;rw [Nat.succ_mul] at this;exact this
 have h1:=ziO (P:=P) (cs:=xs.flatMap enc) (off:=k * sz) hi hd hc hs hg w;have h2:=zry C (j:=0) (n:=sz) hx (by omega);have h3:(enc x).take sz=enc x:=List.take_of_length_le (by rw [C.len];exact Nat.le_refl _);rw [Nat.add_zero,List.drop_zero,h3] at h2;rw [h2] at h1;have hcw:=zaQ (P:=P) hi w;rw [hc] at hcw;simp [Instr.index,underlying,hu,asIntOf,asAgg,hcw,h1,hlt]
end Go.Proofs.YtogjajjdaoihdaaGreatDoor.Ev
