/-
  Texts of this claim, joined: EvH, EvM, EvN, EvO, EvP, Tab, Err, Cells, Mirror, EvL, Mirrored, RefMirror.
-/
import Derived.Test.YtogjajjdaoihdaaGreatDoorScriptPlaysA
import Derived.Laws.Strings
import Derived.Laws.Strings2
import Derived.Laws.Strings3
import Derived.Laws.Concat
import Derived.Laws.BytesArg
import Derived.Laws.BitsAllLaws
import Derived.Laws.OwnMore
import Derived.Lib.AppendZerosOnto
import Derived.Laws.Slices
import Derived.Test.YtogjajjdaoihdaaGreatDoorProg
import Derived.LaidSub
import Derived.Stop.LaidTwo

namespace Go.Proofs.YtogjajjdaoihdaaGreatDoor.Ev
set_option maxRecDepth 20000
open Go

inductive OT where
 | fin
 | take (i:Nat) (r:OT)
 | alt (i:Nat) (r:OT) (more:OT)

def OT.heads:OT→List Nat
 | .alt i _ m=>i::m.heads
 | _=>[]

def zeY (P:Program) (τ:Tab) (N:Nat) (ops:Array Oper) (late:List Nat) (S:World→Prop) (i:Nat) (K:zar→World→Prop) (σ:zar) (w:World):Prop :=
 match zt2 ops.toList i with
 | some ⟨dst,op,_,_,_,g⟩=>zdf N ops.toList g σ
   (fun σ=>match zcO op with
    | true=>zd8 P τ σ op fun v=>zek N dst v σ fun σ=>K σ w
    | false=>match zeC late i op with
     | true=>(match op with
      | .load t x=>match ro σ x,tl τ t with
       | some (.pointer (some ⟨b,o,none⟩)),some ⟨n,kd,_⟩=>(match kd.agg with
        | true=>LdG S b o n fun v=>zek N dst v σ fun σ=>K σ w
        | false=>LdF S b o fun v=>zek N dst v σ fun σ=>K σ w)
       | _,_=>False
      | _=>False)
     | false=>zdD P τ σ op w fun v w=>KeepC (S w) (zek N dst v σ fun σ=>K σ w))
   (fun σ=>zek N dst undef σ fun σ=>K σ w)
 | none=>False

def zb5 (P:Program) (τ:Tab) (N:Nat) (ops:Array Oper) (late:List Nat) (S:World→Prop):OT→(zar→World→Prop)→zar→World→Prop
 | .fin,Q,σ,w=>Q σ w
 | .take i r,Q,σ,w=>zeY P τ N ops late S i (fun σ w=>zb5 P τ N ops late S r Q σ w) σ w
 | .alt i r .fin,Q,σ,w=>zeY P τ N ops late S i (fun σ w=>zb5 P τ N ops late S r Q σ w) σ w
 | .alt i r m,Q,σ,w=>zeY P τ N ops late S i (fun σ w=>zb5 P τ N ops late S r Q σ w) σ w∧zb5 P τ N ops late S m Q σ w

def fl (ops:Array Oper) (late:List Nat) (i:Nat):Bool:=match ops[i]? with
 | some o=>zeC late i o.op
 | none=>false

def zc1 (ops:Array Oper) (late:List Nat):OT→Nat→Bool→Array Bool→Bool
 | .fin,n,chain,listed=>chain||(Nat.beq n 0&&(Region.ready .any ops listed).isEmpty)
 | .take i r,n+1,chain,listed=>!chain&&fl ops late i&&Region.free .any ops listed i&&(Region.ready .any ops listed).contains i&&zc1 ops late r n false (listed.setIfInBounds i true)
 | .alt i r m,n+1,chain,listed=>(chain||Region.ready .any ops listed == i::m.heads)&&(ops[i]?).isSome&&!fl ops late i&&zc1 ops late r n false (listed.setIfInBounds i true)&&zc1 ops late m (n+1) true listed
 | _,0,_,_=>false

section
variable {P : Program} {τ : Tab} {N : Nat}

theorem zq3 (hτ:TabOk P τ) {ops:Array Oper}{late:List Nat}{S:World→Prop}{R:Exit→Act→World→Prop}(hs:Region.noSelect ops=true) (hR:∀ c a w,¬ R (.panic c) a w) {i fuel:Nat}{listed:Array Bool}{K:zar→World→Prop}{σ:zar}{a:Act}{w:World}
  (hf:Fits N σ a) (hS:S w) (h0:fl ops late i=true) (h1:Region.free .any ops listed i=true) (h2:(Region.ready .any ops listed).contains i=true) (h:zeY P τ N ops late S i K σ w)
  (hK:∀ σ a,Fits N σ a→K σ w→wpAnyH P .any ops R S fuel (listed.setIfInBounds i true) a w):wpAnyH P .any ops R S (fuel+1) listed a w:=by
 unfold zeY at h;rw [zll] at h;cases ho:ops[i]? with
 | none =>
  have:ops.toList[i]?=none:=by simpa using ho
  rw [this] at h;exact h.elim
 | some o =>
  have hol:ops.toList[i]?=some o:=by simpa using ho
  rw [hol] at h;unfold fl at h0;rw [ho] at h0;obtain ⟨dst,op,ty,pos,after,g⟩:=o;simp only at h h0
  have take:∀ (v:Value),YieldsIf P ops S ⟨dst,op,ty,pos,after,g⟩ v a→wpAnyH P .any ops R S fuel (listed.setIfInBounds i true) (a.put dst v) w→wpAnyH P .any ops R S (fuel+1) listed a w:=by
   intro v hy hgo;exact wpAnyH_take (oi:=⟨dst,op,ty,pos,after,g⟩) ho hs h1 h2 (fun c a w hc=>absurd hc (hR c _ w)) hy hS hgo
  rcases zdI (o:=⟨dst,op,ty,pos,after,g⟩) hf h with ⟨hw,σ',hf',h2⟩ | ⟨hw,σ',hf',h2⟩
  ·cases hp:zcO op with
   | true =>
    rw [hp] at h2;obtain ⟨v,hv,h3⟩:=zf1 (o:=⟨dst,op,ty,pos,after,g⟩) hτ hf' h2;obtain ⟨σ'',hf'',h4⟩:=za3 hf' h3;exact take v (.inl ⟨hw,fun w _=>hv w⟩) (hK σ'' _ hf'' h4)
   | false =>
    rw [hp] at h2;simp only at h2;rw [h0] at h2;simp only at h2;split at h2
    ·rename_i t x;split at h2
     ·rename_i b o n kd z hx ht
      have hyield:∃ v,(∀ w,S w→(Instr.loadAt t (.pointer (some ⟨b,o,none⟩))).run P w = .ok v w)∧zek N dst v σ' fun σ=>K σ w:=by
       cases hk:kd.agg with
       | true =>
        rw [hk] at h2;obtain ⟨l,hl,hc,hv⟩:=h2.ex;refine ⟨_,fun w' hw'=>?_,hv⟩;obtain ⟨v,hr,hv⟩:=zcF (P:=P) (w:=w') (b:=b) (o:=o) (k:=fun v=>v = .agg l.toArray) hτ ht (by rw [hk];exact ⟨l,hl,hc w' hw',rfl⟩);rw [hr,hv]
       | false =>
        rw [hk] at h2;obtain ⟨v,hc,hv⟩:=h2.ex;refine ⟨v,fun w' hw'=>?_,hv⟩;obtain ⟨u,hr,hu⟩:=zcF (P:=P) (w:=w') (b:=b) (o:=o) (k:=fun u=>u=v) hτ ht (by rw [hk];exact ⟨v,hc w' hw',rfl⟩);rw [hr,hu]
      obtain ⟨v,hv,h3⟩:=hyield;obtain ⟨σ'',hf'',h4⟩:=za3 hf' h3;refine take v (.inl ⟨hw,fun w' hw'=>?_⟩) (hK σ'' _ hf'' h4);simp only [execOp,zaq hf' hx];exact zmV (hv w' hw')
     ·exact h2.elim
    ·exact h2.elim
  ·obtain ⟨σ'',hf'',h4⟩:=za3 hf' h2;exact take undef (.inr ⟨hw,rfl⟩) (hK σ'' _ hf'' h4)

theorem zsE (hτ:TabOk P τ) {ops:Array Oper}{late:List Nat}{S:World→Prop}{R:Exit→Act→World→Prop}{i fuel:Nat}{listed:Array Bool}{K:zar→World→Prop}{σ:zar}{a:Act}{w:World}
  (hf:Fits N σ a) (hS:S w) (h0:fl ops late i=false) (h:zeY P τ N ops late S i K σ w)
  (hK:∀ σ a w,Fits N σ a→S w→K σ w→wpAnyH P .any ops R S fuel (listed.setIfInBounds i true) a w):wpOp P ops R i (fun a' w'=>S w'∧wpAnyH P .any ops R S fuel (listed.setIfInBounds i true) a' w') a w:=by
 unfold zeY at h;rw [zll] at h;cases ho:ops[i]? with
 | none =>
  have:ops.toList[i]?=none:=by simpa using ho
  rw [this] at h;exact h.elim
 | some o =>
  have hol:ops.toList[i]?=some o:=by simpa using ho
  rw [hol] at h;unfold fl at h0;rw [ho] at h0;obtain ⟨dst,op,ty,pos,after,g⟩:=o;simp only at h h0;unfold wpOp;rw [ho];rcases zdI (o:=⟨dst,op,ty,pos,after,g⟩) hf h with ⟨hw,σ',hf',h2⟩ | ⟨hw,σ',hf',h2⟩
  ·cases hp:zcO op with
   | true=>simp [zeC,hp] at h0
   | false =>
    rw [hp] at h2;simp only at h2;rw [h0] at h2;simp only at h2;simp only [hw,if_true];refine .inl (Oper.wp_mono ?_ (zeH (o:=⟨dst,op,ty,pos,after,g⟩) hτ hf' h2 R));rintro a' w' ⟨v,rfl,h3⟩;obtain ⟨σ'',hf'',h4⟩:=za3 hf' h3.go;exact ⟨h3.keep,hK σ'' _ w' hf'' h3.keep h4⟩
  ·obtain ⟨σ'',hf'',h4⟩:=za3 hf' h2;simp only [hw,Bool.false_eq_true,if_false];exact ⟨hS,hK σ'' _ w hf'' hS h4⟩

theorem zej (hτ:TabOk P τ) {ops:Array Oper}{late:List Nat}{S:World→Prop}{Q:zar→World→Prop}{R:Exit→Act→World→Prop}(hs:Region.noSelect ops=true) (hR:∀ c a w,¬ R (.panic c) a w) (hQ:∀ a w σ,Fits N σ a→Q σ w→R .normal a w) :
  ∀ (tr:OT) (n:Nat) (listed:Array Bool) (σ:zar) (a:Act) (w:World),Fits N σ a→S w →
   (zc1 ops late tr n false listed=true→zb5 P τ N ops late S tr Q σ w→wpAnyH P .any ops R S n listed a w) ∧
   (∀ m,n=m+1→zc1 ops late tr n true listed=true→(tr = .fin∨zb5 P τ N ops late S tr Q σ w)→∀ i∈tr.heads,wpOp P ops R i (fun a' w'=>S w'∧wpAnyH P .any ops R S m (listed.setIfInBounds i true) a' w') a w)
 | .fin,n,listed,σ,a,w,hf,hS=>by
  refine ⟨fun hok h=>?_,fun m hm hok h i hi=>by cases hi⟩;cases n with
  | succ n=>simp [zc1] at hok
  | zero =>
   simp only [zc1,Bool.false_or,Bool.and_eq_true,List.isEmpty_iff] at hok;exact ⟨hok.2,hQ a w σ hf h⟩
 | .take i r,n,listed,σ,a,w,hf,hS=>by
  cases n with
  | zero=>exact ⟨fun hok=>by simp [zc1] at hok,fun m hm=>by omega⟩
  | succ n =>
   refine ⟨fun hok h=>?_,fun m hm hok=>by simp [zc1] at hok⟩;simp only [zc1,Bool.not_false,Bool.true_and,Bool.and_eq_true] at hok;obtain ⟨⟨⟨h0,h1⟩,h2⟩,h3⟩:=hok;unfold zb5 at h;exact zq3 hτ hs hR hf hS h0 h1 h2 h fun σ a hf hk=>(zej hτ hs hR hQ r n _ σ a w hf hS).1 h3 hk
 | .alt i r m,n,listed,σ,a,w,hf,hS=>by
  cases n with
  | zero=>exact ⟨fun hok=>by simp [zc1] at hok,fun m hm=>by omega⟩
  | succ n =>
   have key:∀ chain,zc1 ops late (.alt i r m) (n+1) chain listed=true→zb5 P τ N ops late S (.alt i r m) Q σ w→∀ j∈(OT.alt i r m).heads,wpOp P ops R j (fun a' w'=>S w'∧wpAnyH P .any ops R S n (listed.setIfInBounds j true) a' w') a w:=by
    intro chain hok h j hj;simp only [zc1,Bool.and_eq_true,Bool.not_eq_true'] at hok;obtain ⟨⟨⟨⟨_,_⟩,h0⟩,h3⟩,h4⟩:=hok
    have hb:zeY P τ N ops late S i (fun σ w=>zb5 P τ N ops late S r Q σ w) σ w∧(m = .fin∨zb5 P τ N ops late S m Q σ w):=by
     cases m with
     | fin=>unfold zb5 at h;exact ⟨h,.inl rfl⟩
     | take i' r'=>unfold zb5 at h;exact ⟨h.1,.inr h.2⟩
     | alt i' r' m'=>unfold zb5 at h;exact ⟨h.1,.inr h.2⟩
    simp only [OT.heads,List.mem_cons] at hj;rcases hj with rfl|hj
    ·exact zsE hτ hf hS h0 hb.1 fun σ a w hf hS hk=>(zej hτ hs hR hQ r n _ σ a w hf hS).1 h3 hk
    ·exact (zej hτ hs hR hQ m (n+1) listed σ a w hf hS).2 n rfl h4 hb.2 j hj
   refine ⟨fun hok h=>?_,fun m' hm hok h=>?_⟩
   ·have hr:Region.ready .any ops listed=(OT.alt i r m).heads:=by
     simp only [zc1,Bool.false_or,Bool.and_eq_true,beq_iff_eq] at hok;exact hok.1.1.1.1
    exact wpAnyH_all hr (by simp [OT.heads]) (key false hok h)
   ·obtain rfl:n=m':=by omega
    rcases h with h|h
    ·cases h
    ·exact key true hok h

def zfS (P:Program) (τ:Tab) (N:Nat) (ops:Array Oper) (late:List Nat) (S:World→Prop) (Q:zar→World→Prop) (t:OT):zar→World→Prop :=
 OT.rec (motive:=fun _=>zar→World→Prop) Q (fun i _ ih=>zeY P τ N ops late S i ih) (fun i _ m ih im σ w=>match m with | .fin=>zeY P τ N ops late S i ih σ w|_=>zeY P τ N ops late S i ih σ w∧im σ w) t
theorem zen (P:Program) (τ:Tab) (N:Nat) (ops:Array Oper) (late:List Nat) (S:World→Prop) (Q:zar→World→Prop):∀ t:OT,zfS P τ N ops late S Q t=fun σ w=>zb5 P τ N ops late S t Q σ w
 | .fin=>by funext σ w;unfold zb5;rfl
 | .take i r=>by
  have ih:=zen P τ N ops late S Q r;show zeY P τ N ops late S i (zfS P τ N ops late S Q r)=_;rw [ih]
  funext σ w
  rw [zb5]
 | .alt i r m=>by
  have ih:=zen P τ N ops late S Q r;have im:=zen P τ N ops late S Q m
  funext σ w
  show (match m with | .fin=>zeY P τ N ops late S i (zfS P τ N ops late S Q r) σ w|_=>zeY P τ N ops late S i (zfS P τ N ops late S Q r) σ w∧zfS P τ N ops late S Q m σ w)=_;rw [ih,im];cases m<;>rw [zb5];all_goals intro h;cases h

theorem zeI (hτ:TabOk P τ) (hm:P.follows .mixedOrders=true) {σ:zar}{w:World}{ops:Array Oper}{Q:zar→World→Prop}(late:List Nat) (T:Nat→Prop) (tr:OT)
  (hok:(Region.noSelect ops&&zc1 ops late tr ops.size false (Array.replicate ops.size false))=true)
  (h:∀ w1,w1={ w with drawn:=w.drawn+1 }→zfS P τ N ops late (Ext T w1) Q tr σ w1):DrawC P τ N ops Q σ w:=by
 replace h:∀ w1,w1={ w with drawn:=w.drawn+1 }→zb5 P τ N ops late (Ext T w1) tr Q σ w1:=fun w1 h1=>by have:=h w1 h1;rwa [zen] at this
 simp only [Bool.and_eq_true] at hok;refine ⟨fun id a hf=>?_⟩;refine wp_region_held (S:=Ext T { w with drawn:=w.drawn+1 }) hm ?_;exact (zej (R:=fun e a' w'=>e = .normal∧∃ σ',Fits N σ' a'∧Q σ' w') hτ hok.1 (by rintro c a w ⟨h,_⟩;cases h) (fun a w σ hf hq=>⟨rfl,σ,hf,hq⟩) tr _ _ σ a _ hf (Ext.refl _ _)).1 hok.2 (h _ rfl)
end

structure CutE (M:zar→World→Prop) (σ:zar) (w:World):Prop where
 ex:∃ σ',Sub σ' σ∧M σ' w
theorem DrawC.cut {P:Program}{τ:Tab}{N:Nat}{ops:Array Oper}{Q:zar→World→Prop}{σ:zar}{w:World}(M:zar→World→Prop) (h:DrawC P τ N ops (CutE M) σ w) (hQ:∀ σ w,M σ w→Q σ w):DrawC P τ N ops Q σ w :=
 ⟨fun id a hf=>wp_mono (h.go id a hf) fun e a' w' ⟨he,σ',hf',hm⟩=>by
  obtain ⟨σ'',hs,hm⟩:=hm.ex;exact ⟨he,σ'',hf'.weaken hs.look_,hQ _ _ hm⟩⟩
end Go.Proofs.YtogjajjdaoihdaaGreatDoor.Ev

namespace Go.Proofs.YtogjajjdaoihdaaGreatDoor.Ev
set_option maxRecDepth 20000
open Go

section
variable {P : Program} {τ : Tab} {N : Nat} {σ σ' : zar} {w : World} {Q : EQ}

end
end Go.Proofs.YtogjajjdaoihdaaGreatDoor.Ev
namespace Go.Proofs.YtogjajjdaoihdaaGreatDoor.Ev
open Go
theorem St.updMade {w0 w w':World}{S T:Nat→Prop}{H:List Ent}(h:St w0 S w H) (i:Nat) {e e' f:Ent}(hi:H[i]?=some e) (k:Ext T w w') (hT:∀ b,T b→b∈e.foot) (hl:e'.Local) (hh:e'.holds w') (hf:∀ b∈e'.foot,b∈e.foot) (gl:f.Local) (gh:f.holds w') (gf:∀ b∈f.foot,w.heap.size≤b∧b < w'.heap.size):St w0 S w' (H.set i e'++[f]):=by
 refine (h.upd i hi k hT hl hh fun b hb=>.inl (hf b hb)).add gl gh (fun b hb=>⟨.inr (Nat.le_trans h.ext.size (gf b hb).1),(gf b hb).2⟩) ?_;intro q hq b hb hb'
 have lt:b < w.heap.size:=by
  rcases List.mem_or_eq_of_mem_set hq with hq|rfl
  ·exact (h.may q hq b hb).2
  ·exact (h.may e (List.mem_of_getElem? hi) b (hf b hb)).2
 have:=(gf b hb').1;omega
end Go.Proofs.YtogjajjdaoihdaaGreatDoor.Ev

namespace Go.Proofs.YtogjajjdaoihdaaGreatDoor.Ev
set_option maxRecDepth 20000
open Go

def bs (l:List UInt8):ByteArray:=⟨l.toArray⟩
theorem zug (s:ByteArray):∃ l,s=bs l:=⟨s.data.toList,by simp [bs]⟩
theorem zom {a b:List UInt8}:bs a=bs b↔a=b:=by
 constructor
 ·intro h;have:=congrArg (fun s=>s.data.toList) h;simpa [bs] using this
 ·rintro rfl;rfl
theorem zaN (l:List UInt8):(bs l).size=l.length:=by simp [bs,ByteArray.size]
theorem zoM (a b:List UInt8):bs a++bs b=bs (a++b):=by
 apply ByteArray.ext;simp [bs,ByteArray.data_append]
theorem zfG (l:List UInt8) (a b:Nat):(bs l).extract a b=bs ((l.drop a).take (b - a)):=ByteArray.extract_mk l a b
def zjP (x:UInt8):List Value:=[.int .u8 (x.toNat:Int)]
theorem zmT:Codec 1 zjP:=⟨fun _=>rfl,fun _=>rfl,by decide⟩

section
variable {P : Program} {k : Value → Prop} {l : List UInt8} {t : TypeId}
theorem zsz {kd:IntKind}{i:Int}{j:Nat}{x:UInt8}(hu:P.underlying t=some .string) (hi:i=(j:Int)) (hx:l[j]?=some x) (hk:k (.int .u8 (x.toNat:Int))):PureC P (Instr.index t (.string (bs l)) (.int kd i)) k:=by
 subst hi;refine PureC.of (fun w=>?_) hk;have lt:=(List.getElem?_eq_some_iff.1 hx).1;rw [run_index_string w t (bs l) kd j hu,dif_pos ⟨by omega,by rw [zaN];omega⟩];congr 1
 have:(bs l)[j]?=some x:=by
  rw [ByteArray.getElem?_lt' _ _ (by rw [zaN];exact lt)];show some ((bs l).data[j])=_;rw [← hx,List.getElem?_eq_getElem lt];simp [bs]
 have h2:(bs l)[j]'(by rw [zaN];exact lt)=x:=by
  rw [ByteArray.getElem?_lt' _ _ (by rw [zaN];exact lt)] at this;exact Option.some.inj this
 simp [h2]
theorem zoV (hu:P.underlying t=some .string) (x:Value) (lo hi:Option Value) (w:World):(Instr.sliceAt t x lo hi none).run P w=(Instr.slice t x lo hi none).run P w:=by
 unfold Instr.sliceAt;rw [Sem.run_bind,run_underlying hu,Result.andThen_ok]
theorem zsx {q q':IntKind}{i j:Int}{a b:Nat}{r:List UInt8}(hu:P.underlying t=some .string) (hi:i=(a:Int)) (hj:j=(b:Int)) (hab:a≤b) (hb:b≤l.length) (hr:(l.drop a).take (b - a)=r) (hk:k (.string (bs r))):PureC P (Instr.sliceAt t (.string (bs l)) (some (.int q i)) (some (.int q' j)) none) k:=by
 subst hi hj hr;refine PureC.of (fun w=>?_) hk;rw [zoV hu,run_slice_string w t (bs l) q q' a b hu (by omega) (by omega) (by rw [zaN];omega),zfG];rfl
theorem ze2 {q':IntKind}{j:Int}{b:Nat}{r:List UInt8}(hu:P.underlying t=some .string) (hj:j=(b:Int)) (hb:b≤l.length) (hr:l.take b=r) (hk:k (.string (bs r))):PureC P (Instr.sliceAt t (.string (bs l)) none (some (.int q' j)) none) k:=by
 subst hj hr;refine PureC.of (fun w=>?_) hk;rw [zoV hu,run_slice_string_to_if w t (bs l) q' b hu,if_pos ⟨by omega,by rw [zaN];omega⟩,zfG];rfl
theorem zd7 {q':IntKind}{j:Int}{b:Nat}{r:List UInt8}(hu:P.underlying t=some .string) (hj:j=(b:Int)) (hb:b≤l.length) (hr:l.drop b=r) (hk:k (.string (bs r))):PureC P (Instr.sliceAt t (.string (bs l)) (some (.int q' j)) none none) k:=by
 subst hj hr;refine PureC.of (fun w=>?_) hk;rw [zoV hu,run_slice_string_from_if w t (bs l) q' b hu,if_pos ⟨by omega,by rw [zaN];omega⟩,zfG,zaN];simp only [Int.toNat_natCast];rw [List.take_of_length_le (by simp)]
theorem zbp {a b:List UInt8}(h:a.length+b.length≤1000000) (hk:k (.string (bs (a++b)))):PureC P (Go.binOp .add t (.string (bs a)) (.string (bs b))) k :=
 PureC.of (fun w=>by
  rw [show Go.binOp .add t (.string (bs a)) (.string (bs b))=Op.stringOp .add (bs a) (bs b) from rfl,run_string_add_sum w _ _ (by rw [zaN,zaN];omega),zoM]) hk
theorem zbt {a b:List UInt8}(hk:k (.bool (decide (a=b)))):PureC P (Go.binOp .eql t (.string (bs a)) (.string (bs b))) k:=zu4 (by
 have:decide (bs a=bs b)=decide (a=b):=by simp only [zom]
 rw [this];exact hk)
theorem zuS {a b:List UInt8}(hk:k (.bool (!decide (a=b)))):PureC P (Go.binOp .neq t (.string (bs a)) (.string (bs b))) k:=zvs (by
 have:decide (bs a=bs b)=decide (a=b):=by simp only [zom]
 rw [this];exact hk)
theorem zkV {s d:TypeId}{q:IntKind}{n m:Int}{kd:IntKind}(hs:(P.underlying s).isSome=true) (hd:P.underlying d=some (.int kd)) (hw:kd.wrap n=m) {w:World}{kk:Value→World→Prop}(hk:kk (.int kd m) w):RunC P (Go.convert s d (.int q n)) w kk:=by
 have hk2:P.intKind d=kd:=by unfold Program.intKind;rw [hd]
 exact ⟨_,_,by rw [run_convert_int w s d q n hs (by rw [hk2];exact hd),hk2,hw],hk⟩
theorem zvA {kd yk:IntKind}{a:Int}{n:Nat}{y:Int}(hy:y=(n:Int)) (hn:n≤kd.bits) (hk:k (.int kd (a / 2 ^ n))):PureC P (Go.binOp .shr t (.int kd a) (.int yk y)) k:=by
 subst hy;refine PureC.of (fun w=>?_) hk;show (Op.shift .shr kd a yk n).run P w=_;unfold Op.shift;rw [if_neg (by omega)];simp only [Int.toNat_natCast,Nat.min_eq_left hn];rw [show ((2:Int) ^ n)=((2 ^ n:Nat):Int) by simp,Int.fdiv_eq_ediv_of_nonneg _ (by exact Int.natCast_nonneg _)];rfl
theorem zvb {kd yk:IntKind}{a n:Nat}{y:Int}(hy:y=(n:Int)) (hn:n≤kd.bits) (hk:k (.int kd ((a / 2 ^ n:Nat):Int))):PureC P (Go.binOp .shr t (.int kd (a:Int)) (.int yk y)) k :=
 zvA hy hn (by
  have:((a:Int) / 2 ^ n)=((a / 2 ^ n:Nat):Int):=by simp
  rw [this];exact hk)
theorem zvC {kd yk:IntKind}{a:Int}{n:Nat}{y m:Int}(hy:y=(n:Int)) (hn:n≤kd.bits) (hw:kd.wrap (a * 2 ^ n)=m) (hk:k (.int kd m)):PureC P (Go.binOp .shl t (.int kd a) (.int yk y)) k:=by
 subst hy hw;refine PureC.of (fun w=>?_) hk;show (Op.shift .shl kd a yk n).run P w=_;unfold Op.shift;rw [if_neg (by omega)];simp only [Int.toNat_natCast,Nat.min_eq_left hn];rfl
theorem zut {op:BinOp}{kd:IntKind}{a b r:Int}(ho:op = .xor∨op = .or∨op = .and∨op = .andNot) (hr:∀ w,(Op.intBits op kd a b).run P w = .ok (.int kd r) w) (hk:k (.int kd r)):PureC P (Go.binOp op t (.int kd a) (.int kd b)) k :=
 PureC.of (fun w=>by
  rw [← hr w];rcases ho with rfl|rfl|rfl|rfl<;>simp [Go.binOp]) hk
theorem neC {kd:IntKind}{a b:Int}(hk:k (.bool (a != b))):PureC P (Go.binOp .neq t (.int kd a) (.int kd b)) k :=
 PureC.of (fun w=>by simp [Go.binOp,Op.intCmp]) hk
theorem eqC {kd:IntKind}{a b:Int}(hk:k (.bool (a == b))):PureC P (Go.binOp .eql t (.int kd a) (.int kd b)) k :=
 PureC.of (fun w=>by simp [Go.binOp,Op.intCmp]) hk
theorem zvm {a b:Nat}(ha:a < 2 ^ 63) (hb:b < 2 ^ 63) (hk:k (.int .i64 ((a ||| b:Nat):Int))):PureC P (Go.binOp .or t (.int .i64 (a:Int)) (.int .i64 (b:Int))) k :=
 PureC.of (fun w=>by
  have hx:a ||| b < 2 ^ 63:=Nat.or_lt_two_pow ha hb
  rw [show Go.binOp .or t (.int .i64 (a:Int)) (.int .i64 (b:Int))=Op.intBits .or .i64 (a:Int) (b:Int) by simp [Go.binOp]];show (pure (Value.int .i64 (IntKind.i64.wrap ((BitVec.ofInt 64 (a:Int) ||| BitVec.ofInt 64 (b:Int)).toNat:Int))):Sem Value).run P w=_;rw [BitVec.toNat_or,BitVec.ofInt_natCast,BitVec.ofInt_natCast,BitVec.toNat_ofNat,BitVec.toNat_ofNat,Nat.mod_eq_of_lt (by omega),Nat.mod_eq_of_lt (by omega),IntKind.wrap_i64];rw [show ((((a ||| b:Nat):Int))+9223372036854775808) % 18446744073709551616 - 9223372036854775808=((a ||| b:Nat):Int) by omega];rfl) hk
theorem zoI {a b:Nat}(ha:a < 2 ^ 63) (hb:b < 2 ^ 63) (hk:k (.int .i64 ((a ^^^ b:Nat):Int))):PureC P (Go.binOp .xor t (.int .i64 (a:Int)) (.int .i64 (b:Int))) k :=
 PureC.of (fun w=>by
  have hx:a ^^^ b < 2 ^ 63:=Nat.xor_lt_two_pow ha hb;rw [show Go.binOp .xor t (.int .i64 (a:Int)) (.int .i64 (b:Int))=Op.intBits .xor .i64 (a:Int) (b:Int) by simp [Go.binOp]];show (pure (Value.int .i64 (IntKind.i64.wrap ((BitVec.ofInt 64 (a:Int) ^^^ BitVec.ofInt 64 (b:Int)).toNat:Int))):Sem Value).run P w=_;rw [BitVec.toNat_xor,BitVec.ofInt_natCast,BitVec.ofInt_natCast,BitVec.toNat_ofNat,BitVec.toNat_ofNat,Nat.mod_eq_of_lt (by omega),Nat.mod_eq_of_lt (by omega),IntKind.wrap_i64];rw [show ((((a ^^^ b:Nat):Int))+9223372036854775808) % 18446744073709551616 - 9223372036854775808=((a ^^^ b:Nat):Int) by omega];rfl) hk
theorem zsl {a b:Nat}(ha:a < 4294967296) (hb:b < 4294967296) (hk:k (.int .u32 ((a ^^^ b:Nat):Int))):PureC P (Go.binOp .xor t (.int .u32 (a:Int)) (.int .u32 (b:Int))) k :=
 zut (.inl rfl) (fun w=>by rw [← u32_xor_nat a b ha hb];rfl) hk
theorem zt9 {a b:Nat}(ha:a < 4294967296) (hb:b < 4294967296) (hk:k (.int .u32 ((a &&& b:Nat):Int))):PureC P (Go.binOp .and t (.int .u32 (a:Int)) (.int .u32 (b:Int))) k :=
 zut (.inr (.inr (.inl rfl))) (fun w=>by rw [← u32_and_nat a b ha hb];rfl) hk
theorem zud {a b:Nat}(h:a * b < 4294967296) (hk:k (.int .u32 ((a * b:Nat):Int))):PureC P (Go.binOp .mul t (.int .u32 (a:Int)) (.int .u32 (b:Int))) k :=
 PureC.of (fun w=>by
  rw [show Go.binOp .mul t (.int .u32 (a:Int)) (.int .u32 (b:Int))=Op.intArith .mul .u32 (a:Int) (b:Int) by simp [Go.binOp]];show (pure (Value.int .u32 (IntKind.u32.wrap ((a:Int) * (b:Int)))):Sem Value).run P w=_;rw [IntKind.wrap_u32',show ((a:Int) * (b:Int))=((a * b:Nat):Int) by simp,show (((a * b:Nat):Int)) % 4294967296=((a * b:Nat):Int) by omega];rfl) hk
theorem zuz {a:Nat}(ha:a < 4294967296) (hk:k (.int .u32 ((4294967295 ^^^ a:Nat):Int))):PureC P (Op.unary .xor (.int .u32 (a:Int))) k :=
 PureC.of (fun w=>by
  rw [← u32_xor_nat 4294967295 a (by omega) ha];rfl) hk

theorem zuV {w:World}{src dst e:TypeId}{b o n c:Nat}{kk:Value→World→Prop}(hs:P.underlying src=some (.slice e)) (he:P.underlying e=some (.int .u8)) (hd:P.underlying dst=some .string) (hc:CellsAt w b o (l.flatMap zjP)) (hl:l.length=n) (hk:kk (.string (bs l)) w) :
  RunC P (Go.convert src dst (.slice (some ⟨b,o,none⟩) n c)) w kk:=by
 refine ⟨_,_,run_convert_bytes_arg w src e hs he b o n c (l.map fun x=>(x.toNat:Int)) (by simpa using hl) (fun i hi=>?_) dst hd,?_⟩
 ·have hlt:i < l.length:=by omega
  have:=hc i (.int .u8 (l[i].toNat:Int)) (by
   have:=zdG zmT (j:=0) (List.getElem?_eq_getElem hlt) rfl;simpa [zjP] using this)
  rw [this];simp [List.getD,hlt]
 ·have:strOfNums (l.map fun x=>(x.toNat:Int))=bs l:=by
   unfold strOfNums bs;congr 2;rw [List.map_map]
   conv=>rhs;rw [← List.map_id l]
   apply List.map_congr_left;intro x _;simp
  rw [this];exact hk
theorem zml (v:Value) (n:Nat):(madeCells #[v] n).toList=List.replicate n v:=by
 unfold madeCells;apply List.ext_getElem?;intro i;by_cases h:i < n
 ·simp [h,Nat.mod_one]
 ·simp [h]
end
end Go.Proofs.YtogjajjdaoihdaaGreatDoor.Ev
namespace Go.Proofs.YtogjajjdaoihdaaGreatDoor
set_option maxRecDepth 20000
open Go Ev
theorem Ev.ldc {w:World}{b o:Nat}{v:Value}{k:Value→Prop}(hc:w.cell? ⟨b,o,none⟩=some v) (hk:k v):LdC w b o k:=⟨v,hc,hk⟩
theorem Ev.lac {w:World}{b o n:Nat}{l:List Value}{k:Value→Prop}(hn:l.length=n) (hc:CellsAt w b o l) (hk:k (.agg l.toArray)):LdA w b o n k:=⟨l,hn,hc,hk⟩
theorem Ev.ldFc {w:World}{T:Nat→Prop}{b o:Nat}{v:Value}{k:Value→Prop}(hc:w.cell? ⟨b,o,none⟩=some v) (hT:¬ T b) (hk:k v):LdF (Ext T w) b o k:=⟨v,fun _ hw=>hw.cell hc hT,hk⟩
theorem Ev.laFc {w:World}{T:Nat→Prop}{b o n:Nat}{l:List Value}{k:Value→Prop}(hn:l.length=n) (hc:CellsAt w b o l) (hT:¬ T b) (hk:k (.agg l.toArray)):LdG (Ext T w) b o n k:=⟨l,hn,fun _ hw=>hw.cells hc hT,hk⟩

theorem Ev.St.ownX {w0 w:World}{S:Nat→Prop}{H:List Ent}(h:St w0 S w H) (i:Nat) {e:TypeId}{size n o b:Nat}{n' c:Nat}{xs vs:List Value}{k:World→Prop}(hi:H[i]?=some (own e size (.slice (some ⟨b,0,none⟩) n' c) n xs)) (hle:o+vs.length≤xs.length) (h1:vs.all zcN=true)
  (hk:∀ w',Ext (· = b) w w'→St w0 S w' (H.set i (own e size (.slice (some ⟨b,0,none⟩) n' c) n (zaO xs o vs)))→k w'):StC w b o vs k:=by
 obtain ⟨t,cs,hb,hl,ho,_⟩:=(h.ownSt i hi hle h1 (k:=fun _=>True) fun _ _=>trivial).ex;have h2:=h.ownSt i hi hle h1 (k:=fun w'=>Ext (· = b) w w'→k w') fun w' hS hx=>hk w' hx hS
 obtain ⟨t',cs',hb',hl',ho',hk'⟩:=h2.ex;exact ⟨t',cs',hb',hl',ho',hk' (Ext.set (S:=(· = b)) (b:=b) rfl t' _)⟩

theorem Ev.St.mkSlice {P:Program}{α:Type}{w0 w:World}{S:Nat→Prop}{H:List Ent}(h:St w0 S w H) {t e:TypeId}{sz bytes n:Nat}{z:Value}{enc:α→List Value}{xs:List α}{kl kc:IntKind}{k:Value→World→Prop}
  (hu:P.underlying t=some (.slice e)) (hs:(P.info? e).map (fun i=>(i.size,i.bytes))=some (sz,bytes)) (hz:(P.info? e).bind (·.zero)=some z) (h1:n * sz≤16777216) (h2:bytes * n≤281474976710656) (h3:n≤maxLen)
  (hl:xs.length=n) (hcs:(madeCells z.cells (n * sz)).toList=xs.flatMap enc)
  (hk:∀ b w',w0.heap.size≤b→St w0 S w' (H++[zaf e sz enc (.slice (some ⟨b,0,none⟩) n n) xs])→k (.slice (some ⟨b,0,none⟩) n n) w'):RunC P (Instr.makeSlice t (.int kl (n:Int)) (.int kc (n:Int))) w k:=by
 obtain ⟨ie,e1,e2⟩:=Option.map_eq_some_iff.1 hs;obtain ⟨ie',e3,e4⟩:=Option.bind_eq_some_iff.1 hz;obtain rfl:=Option.some.inj (e1.symm.trans e3);simp only [Prod.mk.injEq] at e2;obtain ⟨w',hr,ho,hg⟩:=run_makeSlice_full (P:=P) w 0 t e ie z sz hu e1 e4 e2.1 kl kc n h1 (by rw [e2.2];exact h2) h3 (Nat.zero_le _);refine ⟨_,_,hr,hk _ _ h.ext.size (h.made (Ext.of_grown hg |>.mono fun _ hb=>by cases hb) zaj ?_ ?_)⟩
 ·unfold zaf own;rw [hl,← hcs];exact ho
 ·intro b hb;obtain rfl:b=w.heap.size:=by simpa [zaf,own,Value.ownBlock] using hb
  refine ⟨Nat.le_refl _,?_⟩;obtain ⟨_,⟨h6,_⟩ | ⟨g,cap,cur,h6,_,h7,_⟩⟩:=ho
  ·cases h6
  ·cases h6;exact (Array.getElem?_eq_some_iff.1 h7).1
theorem Ev.St.setL {α:Type}{sz:Nat}{enc:α→List Value}{w0 w:World}{S:Nat→Prop}{H:List Ent}(h:St w0 S w H) (C:Codec sz enc) (i:Nat) {e:TypeId}{b n c o k:Nat}{xs:List α}{d x:α}{vs:List Value}{K:World→Prop}(hi:H[i]?=some (zaf e sz enc (.slice (some ⟨b,0,none⟩) n c) xs)) (hd:xs[k]?=some d) (ho:o=k * sz) (hv:vs=enc x)
  (hk:∀ w',Ext (· = b) w w'→St w0 S w' (H.set i (zaf e sz enc (.slice (some ⟨b,0,none⟩) n c) (xs.set k x)))→K w'):StC w b o vs K:=by
 subst ho;subst hv;have hlt:=(List.getElem?_eq_some_iff.1 hd).1;have hle:k * sz+sz≤xs.length * sz:=by rw [← Nat.succ_mul];exact Nat.mul_le_mul_right _ hlt
 refine h.ownX i hi (by rw [zas C,C.len];exact hle) (C.one x) (fun w' hx hS=>hk w' hx ?_);have e:=zdR C (k:=k) (j:=0) (y:=x) (vs:=enc x) hd (by rw [C.len];omega) (zfZ (by rw [C.len,C.len]));rw [Nat.add_zero] at e;rw [e] at hS;unfold zaf;rw [List.length_set];exact hS
end Go.Proofs.YtogjajjdaoihdaaGreatDoor

namespace Go.Proofs.YtogjajjdaoihdaaGreatDoor.Ev
set_option maxRecDepth 20000
open Go Go.WideShapes

theorem zcc:∀ a b:Ent,(∀ x∈a.foot,x ∉ b.foot)→∀ x∈b.foot,x ∉ a.foot:=fun _ _ h x hx hy=>h x hy hx

section
variable {w0 w w' w'' : World} {S T : Nat → Prop} {H H' H'' A B : List Ent}

theorem St.sel (h:St w0 S w H) (is:List Nat) (hn:is.Nodup):St w0 S w (is.filterMap fun i=>H[i]?):=by
 have mem:∀ e∈is.filterMap (fun i=>H[i]?),e∈H:=fun e he=>by
  obtain ⟨i,_,hi⟩:=List.mem_filterMap.1 he;exact List.mem_of_getElem? hi
 refine ⟨h.ext,fun e he=>h.each e (mem e he),fun e he=>h.loc e (mem e he),fun e he=>h.may e (mem e he),?_⟩;rw [List.pairwise_filterMap];refine List.Pairwise.imp ?_ hn;intro i j hij e he f hf;exact zaG zcc h.apart he hf hij

theorem St.apartAt (h:St w0 S w H) (i j:Nat) {e f:Ent}(hi:H[i]?=some e) (hj:H[j]?=some f) (hne:i≠j) (b:Nat) (hb:b∈e.foot):b ∉ f.foot:=zaG zcc h.apart hi hj hne b hb
theorem St.ne (h:St w0 S w H) (i j:Nat) {b c:Nat}{t u:TypeId}{cs ds:List Value}(hi:H[i]?=some (Ev.blk b t cs)) (hj:H[j]?=some (Ev.blk c u ds)) (hne:i≠j):b≠c:=by
 have:=zaG zcc h.apart hi hj hne b (by simp [Ev.blk]);simpa [Ev.blk] using this

theorem St.laX (h:St w0 S w H) (i:Nat) {b o n:Nat}{t:TypeId}{cs:List Value}{k:Value→Prop}(hi:H[i]?=some (Ev.blk b t cs)) (hn:Nat.ble (o+n) cs.length=true) (hk:k (.agg ((cs.drop o).take n).toArray)):LdA w b o n k:=by
 have hle:=Nat.le_of_ble_eq_true hn;have hl:((cs.drop o).take n).length=n:=by rw [List.length_take,List.length_drop];omega
 exact h.la i hi hl (by rw [hl]) hk

theorem St.laXF (h:St w0 S w H) (i:Nat) {b o n:Nat}{t:TypeId}{cs:List Value}{k:Value→Prop}(hi:H[i]?=some (Ev.blk b t cs)) (hn:Nat.ble (o+n) cs.length=true) (hT:¬ T b) (hk:k (.agg ((cs.drop o).take n).toArray)):LdG (Ext T w) b o n k:=by
 have hle:=Nat.le_of_ble_eq_true hn;have hl:((cs.drop o).take n).length=n:=by rw [List.length_take,List.length_drop];omega
 exact h.laF i hi hl (by rw [hl]) hT hk

structure Has (w:World) (H:List Ent):Prop where
 each:∀ e∈H,e.holds w
 loc:∀ e∈H,e.Local
 lt:∀ e∈H,∀ b∈e.foot,b < w.heap.size
 apart:H.Pairwise fun e f=>∀ b∈e.foot,b ∉ f.foot

abbrev inF (H:List Ent):Nat→Prop:=fun b=>∃ e∈H,b∈e.foot

structure Turns (w w':World) (H H':List Ent):Prop where
 ext:Ext (inF H) w w'
 has:Has w' H'
 foot:∀ e∈H',∀ b∈e.foot,inF H b∨w.heap.size≤b

theorem St.has (h:St w0 S w H):Has w H:=⟨h.each,h.loc,fun e he b hb=>(h.may e he b hb).2,h.apart⟩
theorem Has.get (h:Has w H) (i:Nat) {e:Ent}(hi:H[i]?=some e):e.holds w:=h.each e (List.mem_of_getElem? hi)
theorem Has.start (h:Has w H):St w (inF H) w H:=⟨Ext.refl _ _,h.each,h.loc,fun e he b hb=>⟨.inl ⟨e,he,hb⟩,h.lt e he b hb⟩,h.apart⟩
theorem Has.read (h:Has w H) (hx:Ext No w w'):Has w' H :=
 ⟨fun e he=>h.loc e he w w' (fun b hb=>hx.block b (h.lt e he b hb) id) (h.each e he),h.loc,fun e he b hb=>Nat.lt_of_lt_of_le (h.lt e he b hb) hx.size,h.apart⟩
theorem Has.sub (h:Has w H) (hs:H'.Sublist H):Has w H':=⟨fun e he=>h.each e (hs.subset he),fun e he=>h.loc e (hs.subset he),fun e he=>h.lt e (hs.subset he),h.apart.sublist hs⟩
theorem St.turns (h:St w (inF H) w' H'):Turns w w' H H':=⟨h.ext,h.has,fun e he b hb=>(h.may e he b hb).1⟩
theorem Turns.refl (h:Has w H):Turns w w H H:=⟨Ext.refl _ _,h,fun e he b hb=>.inl ⟨e,he,hb⟩⟩
theorem Turns.of_no (h:Has w H) (hx:Ext No w w'):Turns w w' H H:=⟨hx.mono fun _ h=>h.elim,h.read hx,fun e he b hb=>.inl ⟨e,he,hb⟩⟩
theorem Turns.trans (h:Turns w w' H H') (k:Turns w' w'' H' H''):Turns w w'' H H'':=by
 refine ⟨h.ext.then k.ext fun b hb=>?_,k.has,fun e he b hb=>?_⟩
 ·obtain ⟨e,he,hb⟩:=hb;exact h.foot e he b hb
 ·rcases k.foot e he b hb with ⟨f,hf,hb⟩|hb
  ·exact h.foot f hf b hb
  ·exact .inr (Nat.le_trans h.ext.size hb)

theorem inF_app {b:Nat}:inF (A++B) b↔inF A b∨inF B b:=by
 constructor
 ·rintro ⟨e,he,hb⟩;rcases List.mem_append.1 he with he|he
  ·exact .inl ⟨e,he,hb⟩
  ·exact .inr ⟨e,he,hb⟩
 ·rintro (⟨e,he,hb⟩ | ⟨e,he,hb⟩)
  ·exact ⟨e,List.mem_append_left _ he,hb⟩
  ·exact ⟨e,List.mem_append_right _ he,hb⟩

theorem St.call (h:St w0 S w (H++B)) (k:Turns w w' H H'):St w0 S w' (H'++B):=by
 have hap:=List.pairwise_append.1 h.apart;have hB:∀ e∈B,∀ b∈e.foot,¬ inF H b:=fun e he b hb ⟨f,hf,hb'⟩=>hap.2.2 f hf e he b hb' hb
 have hmB:∀ e∈B,e∈H++B:=fun e he=>List.mem_append_right _ he
 refine ⟨h.ext.then k.ext fun b ⟨e,he,hb⟩=>(h.may e (List.mem_append_left _ he) b hb).1,?_,?_,?_,?_⟩
 ·intro e he;rcases List.mem_append.1 he with he|he
  ·exact k.has.each e he
  ·exact h.loc e (hmB e he) w w' (fun b hb=>k.ext.block b (h.may e (hmB e he) b hb).2 (hB e he b hb)) (h.each e (hmB e he))
 ·intro e he;rcases List.mem_append.1 he with he|he
  ·exact k.has.loc e he
  ·exact h.loc e (hmB e he)
 ·intro e he b hb;rcases List.mem_append.1 he with he|he
  ·refine ⟨?_,k.has.lt e he b hb⟩;rcases k.foot e he b hb with ⟨f,hf,hb'⟩|hb'
   ·exact (h.may f (List.mem_append_left _ hf) b hb').1
   ·exact .inr (Nat.le_trans h.ext.size hb')
  ·exact ⟨(h.may e (hmB e he) b hb).1,Nat.lt_of_lt_of_le (h.may e (hmB e he) b hb).2 k.ext.size⟩
 ·rw [List.pairwise_append];refine ⟨k.has.apart,hap.2.1,fun f hf e he b hb hb'=>?_⟩;rcases k.foot f hf b hb with hb''|hb''
  ·exact hB e he b hb' hb''
  ·have:=(h.may e (hmB e he) b hb').2;omega
theorem St.callAt (h:St w0 S w (A++(H++B))) (k:Turns w w' H H'):St w0 S w' (A++(H'++B)):=by
 have p1:(A++(H++B)).Perm (H++(A++B)):=by
  rw [← List.append_assoc,← List.append_assoc];exact List.Perm.append_right _ List.perm_append_comm
 have p2:(H'++(A++B)).Perm (A++(H'++B)):=by
  rw [← List.append_assoc,← List.append_assoc];exact List.Perm.append_right _ List.perm_append_comm
 have perm:∀ {w:World} {X Y:List Ent},X.Perm Y→St w0 S w X→St w0 S w Y:=fun {w X Y} p h =>
  ⟨h.ext,fun e he=>h.each e (p.mem_iff.2 he),fun e he=>h.loc e (p.mem_iff.2 he),fun e he=>h.may e (p.mem_iff.2 he),(p.pairwise_iff (fun {a b} h=>zcc a b h)).1 h.apart⟩
 exact perm p2 ((perm p1 h).call k)
theorem Has.left (h:Has w (A++B)):Has w A:=h.sub (List.sublist_append_left _ _)
theorem Has.right (h:Has w (A++B)):Has w B:=h.sub (List.sublist_append_right _ _)
def zc0 (w w':World) (v:Value):Prop:=∀ g,v.ownBlock=some g→w.heap.size≤g∧g < w'.heap.size
theorem St.freshAt {w0 w:World}{H:List Ent}(h:St w0 No w H) (i:Nat) {α:Type}{e:TypeId}{sz:Nat}{enc:α→List Value}{v:Value}{xs:List α}(hi:H[i]?=some (zaf e sz enc v xs)):zc0 w0 w v:=fun g hg=>by
 rcases h.may _ (List.mem_of_getElem? hi) g (by simpa [zaf,own] using hg) with ⟨h1|h1,h2⟩
 ·exact h1.elim
 ·exact ⟨h1,h2⟩
theorem St.madeL {w0 w w':World}{S:Nat→Prop}{H:List Ent}(h:St w0 S w H) (hx:Ext No w w') {α:Type}{e:TypeId}{sz:Nat}{enc:α→List Value}{v:Value}{xs:List α}(ho:(zaf e sz enc v xs).holds w') (hf:zc0 w w' v):St w0 S w' (H++[zaf e sz enc v xs]) :=
 h.made hx (zdY _ _ _ _ _) ho fun g hg=>hf g (by simpa [zaf,own] using hg)
end
end Go.Proofs.YtogjajjdaoihdaaGreatDoor.Ev

namespace Go.Proofs.YtogjajjdaoihdaaGreatDoor.Ev
set_option maxRecDepth 20000
open Go Go.WideShapes

section
variable {P : Program} {α : Type} {sz : Nat} {enc : α → List Value} {w0 w w' : World} {S : Nat → Prop} {H : List Ent} {G : α → Prop} {a : Option Addr} {n c : Nat} {xs : List α}

theorem zb1 {t e:TypeId}(hu:P.underlying t=some (.slice e)):P.elem t=e:=by simp [Program.elem,hu]

theorem Slc.drop (h:Slc w sz enc G a n xs) (l:Nat) (hl:l≤n) (a':Option Addr) (ha:l < n→a'=a.map (·.add (l * sz))):Slc w sz enc G a' (n - l) (xs.drop l):=by
 refine ⟨by rw [List.length_drop,h.len],by have:=h.max;omega,fun k x hx=>?_,fun x hx=>h.good x (List.mem_of_mem_drop hx)⟩;rw [List.getElem?_drop] at hx;have lt:=(List.getElem?_eq_some_iff.1 hx).1;rw [h.len] at lt;obtain ⟨b,o,rfl,hb,hc⟩:=h.cells _ _ hx;refine ⟨b,o+l * sz,by rw [ha (by omega),Option.map_some,zbl],hb,?_⟩;have:o+l * sz+k * sz=o+(l+k) * sz:=by rw [Nat.add_mul];omega
 rw [this];exact hc
theorem Slc.take (h:Slc w sz enc G a n xs) (l:Nat) (hl:l≤n) (a':Option Addr) (ha:0 < n→a'=a):Slc w sz enc G a' l (xs.take l):=by
 refine ⟨by rw [List.length_take,h.len];omega,by have:=h.max;omega,fun k x hx=>?_,fun x hx=>h.good x (List.mem_of_mem_take hx)⟩;have lt:=(List.getElem?_eq_some_iff.1 hx).1;rw [List.length_take] at lt;rw [List.getElem?_take_of_lt (by omega)] at hx;have lt2:=(List.getElem?_eq_some_iff.1 hx).1;rw [h.len] at lt2;obtain ⟨b,o,hab,hb,hc⟩:=h.cells _ _ hx;exact ⟨b,o,by rw [ha (by omega),hab],hb,hc⟩
theorem zpc {t e:TypeId}{q:IntKind}{i:Int}{j:Nat}{k:Value→Prop}(hx:Slc w sz enc G a n xs) (hnc:n≤c) (hu:P.underlying t=some (.slice e)) (he:(P.info? e).isSome=true) (hi:i=(j:Int)) (hj:j≤n)
  (hk:∀ a' c',Slc w sz enc G a' j (xs.take j)→k (.slice a' j c')):PureC P (Instr.sliceAt t (.slice a n c) none (some (.int q i)) none) k:=by
 subst hi;have ht:P.underlying t=some (.slice (P.elem t)):=by rw [zb1 hu];exact hu
 refine ⟨.slice (if c=0 then a else a.map (·.add 0)) j c,fun w=>?_,hk _ _ (hx.take j hj _ fun h0=>?_)⟩
 ·rw [run_sliceAt_slice w t _ _ _ _ ht,run_slice_h w t a n c ht q _ (by omega) (by omega),zb1 hu,zaQ he];simp [sliced]
 ·obtain ⟨x,hx0⟩:∃ x,xs[0]?=some x:=⟨_,List.getElem?_eq_getElem (by rw [hx.len];exact h0)⟩;obtain ⟨b,o,rfl,_⟩:=hx.cells 0 x hx0;split<;>rfl
theorem ziW {t e:TypeId}{q:IntKind}{i:Int}{j:Nat}{k:Value→Prop}(hx:Slc w sz enc G a n xs) (hnc:n≤c) (hu:P.underlying t=some (.slice e)) (he:(P.info? e).isSome=true) (hsz:P.cellsOf e=sz) (hi:i=(j:Int)) (hj:j≤n)
  (hk:∀ a' c',Slc w sz enc G a' (n - j) (xs.drop j)→n - j≤c'→k (.slice a' (n - j) c')):PureC P (Instr.sliceAt t (.slice a n c) (some (.int q i)) none none) k:=by
 subst hi;have ht:P.underlying t=some (.slice (P.elem t)):=by rw [zb1 hu];exact hu
 refine ⟨.slice (if c=j then a else a.map (·.add (j * sz))) (n - j) (c - j),fun w=>?_,hk _ _ (hx.drop j hj _ fun h0=>if_neg (by omega)) (by omega)⟩;rw [run_sliceAt_slice w t _ _ _ _ ht,run_slice_l w t a n c ht q _ (by omega) (by omega),zb1 hu,zaQ he,hsz];simp [sliced]

end

theorem zoT {α:Type}{w:World}{sz n:Nat}{e:TypeId}{v:Value}{enc:α→List Value}{xs:List α}(h:(zaf e sz enc v xs).holds w) (hg:v.ownBlock=some n):n < w.heap.size:=by
 obtain ⟨_,⟨h1,_⟩ | ⟨g',cap,cur,h1,_,h2,_⟩⟩:=h
 ·rw [h1] at hg;simp [Value.ownBlock] at hg
 ·rw [h1] at hg;simp only [Value.ownBlock,Option.some.injEq] at hg;subst hg;exact (Array.getElem?_eq_some_iff.1 h2).1
theorem St.appX {P:Program}{α:Type}{sz:Nat}{enc:α→List Value}{w0 w:World}{S:Nat→Prop}{H:List Ent}(h:St w0 S w H) (C:Codec sz enc) (i:Nat) {t e:TypeId}{bytes:Nat}{z v:Value}{a:Option Addr}{m c:Nat}{G:α→Prop}{xs ys:List α}{k:Value→World→Prop}
  (hu:P.underlying t=some (.slice e)) (hs:(P.info? e).map (fun i=>(i.size,i.bytes))=some (sz,bytes)) (hz:(P.info? e).bind (·.zero)=some z) (hzs:Nat.beq z.cells.size sz=true)
  (hi:H[i]?=some (zaf e sz enc v xs)) (hy:Slc w sz enc G a m ys) (h63:xs.length+m≤maxLen) (hbytes:(xs.length+m) * bytes≤140737488355328)
  (hk:∀ a' c' w',Ext (fun q=>v.ownBlock=some q) w w'→St w0 S w' (H.set i (zaf e sz enc (.slice a' (xs.length+m) c') (xs++ys)))→k (.slice a' (xs.length+m) c') w') :
  RunC P (Builtin.append_ #[t,t] 0 #[v,.slice a m c]) w k:=by
 have ho:=h.get i hi
 have hs1:St w (fun q=>v.ownBlock=some q) w [zaf e sz enc v xs]:=(St.start w _).add zaj ho (fun q hq=>by
  have hq:v.ownBlock=some q:=by simpa [zaf,own] using hq
  exact ⟨.inl hq,zoT ho hq⟩) (by simp)
 refine hs1.appS C 0 hu hs hz hzs rfl hy h63 hbytes (fun a' c' w' hS'=>?_);refine hk a' c' w' hS'.ext (h.upd i hi hS'.ext (fun q hq=>by simp [zaf,own,hq]) zaj (hS'.get 0 rfl) fun q hq=>?_);have hm:=hS'.may _ (List.mem_of_getElem? (i:=0) rfl) q (by simpa using hq);rcases hm with ⟨h1|h1,h2⟩
 ·exact .inl (by simp [zaf,own,h1])
 ·exact .inr ⟨h1,h2⟩
theorem St.litX {P:Program}{w0 w:World}{S:Nat→Prop}{H:List Ent}(h:St w0 S w H) {t e:TypeId}{len sz:Nat}{z:Value}{parts:Array (Nat × Value)}{cs:List Value}{k:Value→World→Prop}
  (hu:P.underlying t=some (.slice e)) (hs:(P.info? e).map (·.size)=some sz) (hz:(P.info? e).bind (·.zero)=some z) (hsmall:Nat.ble (len * sz) (2 ^ 24)=true) (hpos:Nat.beq (len * sz) 0=false)
  (hf:zm4 sz (zmm z (len * sz)) parts.toList=some cs)
  (hk:∀ b w',w.heap.size≤b→Ext No w w'→St w0 S w' (H++[Ev.blk b e cs])→k (.slice (some ⟨b,0,none⟩) len len) w'):RunC P (Instr.buildSlice t len parts) w k:=by
 refine (St.start w No).lit hu hs hz hsmall hpos hf (fun b w' hb hS=>?_);refine hk b w' hb hS.ext (h.made hS.ext (zab _ _ _) (hS.get 0 rfl) fun q hq=>?_);obtain rfl:q=b:=by simpa [Ev.blk] using hq
 exact ⟨hb,(hS.blk 0 rfl).lt⟩
end Go.Proofs.YtogjajjdaoihdaaGreatDoor.Ev

namespace Go.Proofs.YtogjajjdaoihdaaGreatDoor
set_option maxRecDepth 20000
open Go Ev
abbrev oF:TI:=⟨1,.other,[.nilFunc]⟩
def tab:Tab:=[
 (1,oF),
 (2,⟨1,.int,[.int .i64 0]⟩),
 (3,⟨1,.int,[.int .i64 0]⟩),
 (4,⟨1,.bool,[.bool false]⟩),
 (5,⟨1,.other,[.int .u8 0]⟩),
 (9,⟨1,.str,[.string ByteArray.empty]⟩),
 (12,⟨1,.other,[.int .u64 0]⟩),
 (13,⟨2,.struct [(0,1,false),(1,1,false)],[.string ByteArray.empty,.int .u64 0]⟩),
 (20,⟨1,.iface,[.nilIface]⟩),
 (21,⟨1,.other,[.int .i32 0]⟩),
 (22,⟨1,.slice 9 1 false,[.slice none 0 0]⟩),
 (23,oF),
 (24,⟨1,.iface,[.nilIface]⟩),
 (25,⟨1,.iface,[.nilIface]⟩),
 (27,oF),
 (28,⟨1,.slice 98 5 true,[.slice none 0 0]⟩),
 (29,⟨2,.struct [(0,1,false),(1,1,false)],[.int .i64 0,.int .i64 0]⟩),
 (30,⟨2,.struct [(0,1,false),(1,1,false)],[.int .i64 0,.int .i64 0]⟩),
 (32,oF),
 (33,oF),
 (34,oF),
 (36,oF),
 (37,oF),
 (38,⟨2,.struct [(0,1,false),(1,1,false)],[.int .i64 0,.int .i64 0]⟩),
 (39,⟨2,.struct [(0,1,false),(1,1,false)],[.int .i64 0,.int .i64 0]⟩),
 (40,⟨6,.struct [(0,1,false),(1,2,true),(3,2,true),(5,1,false)],[.int .i64 0,.int .i64 0,.int .i64 0,.int .i64 0,.int .i64 0,.int .i64 0]⟩),
 (41,⟨6,.struct [(0,1,false),(1,2,true),(3,2,true),(5,1,false)],[.int .i64 0,.int .i64 0,.int .i64 0,.int .i64 0,.int .i64 0,.int .i64 0]⟩),
 (43,oF),
 (44,oF),
 (45,⟨1,.slice 49 8 true,[.slice none 0 0]⟩),
 (46,oF),
 (47,⟨1,.slice 3 1 false,[.slice none 0 0]⟩),
 (48,⟨8,.struct [(0,1,false),(1,1,false),(2,6,true)],[.string ByteArray.empty,.slice none 0 0,.int .i64 0,.int .i64 0,.int .i64 0,.int .i64 0,.int .i64 0,.int .i64 0]⟩),
 (49,⟨8,.struct [(0,1,false),(1,1,false),(2,6,true)],[.string ByteArray.empty,.slice none 0 0,.int .i64 0,.int .i64 0,.int .i64 0,.int .i64 0,.int .i64 0,.int .i64 0]⟩),
 (50,oF),
 (51,oF),
 (52,oF),
 (53,oF),
 (54,⟨1,.ptr,[.pointer none]⟩),
 (55,oF),
 (56,oF),
 (57,oF),
 (58,⟨1,.slice 28 1 false,[.slice none 0 0]⟩),
 (60,oF),
 (61,oF),
 (63,oF),
 (64,oF),
 (65,oF),
 (66,⟨1,.slice 47 1 false,[.slice none 0 0]⟩),
 (67,⟨1,.slice 75 2 true,[.slice none 0 0]⟩),
 (69,oF),
 (70,oF),
 (71,oF),
 (72,oF),
 (73,⟨1,.slice 157 2 true,[.slice none 0 0]⟩),
 (74,⟨2,.struct [(0,1,false),(1,1,false)],[.slice none 0 0,.slice none 0 0]⟩),
 (75,⟨2,.struct [(0,1,false),(1,1,false)],[.slice none 0 0,.slice none 0 0]⟩),
 (76,oF),
 (77,⟨1,.slice 156 2 true,[.slice none 0 0]⟩),
 (78,oF),
 (79,⟨1,.slice 111 1 false,[.slice none 0 0]⟩),
 (80,⟨1,.slice 109 1 false,[.slice none 0 0]⟩),
 (81,⟨1,.slice 200 5 true,[.slice none 0 0]⟩),
 (82,⟨7,.struct [(0,1,false),(1,1,false),(2,1,false),(3,1,false),(4,1,false),(5,1,false),(6,1,false)],[.slice none 0 0,.slice none 0 0,.slice none 0 0,.slice none 0 0,.int .i64 0,.int .i64 0,.slice none 0 0]⟩),
 (83,⟨7,.struct [(0,1,false),(1,1,false),(2,1,false),(3,1,false),(4,1,false),(5,1,false),(6,1,false)],[.slice none 0 0,.slice none 0 0,.slice none 0 0,.slice none 0 0,.int .i64 0,.int .i64 0,.slice none 0 0]⟩),
 (84,oF),
 (85,⟨1,.ptr,[.pointer none]⟩),
 (87,oF),
 (88,⟨1,.ptr,[.pointer none]⟩),
 (89,⟨1,.struct [(0,1,false)],[.pointer none]⟩),
 (90,⟨1,.struct [(0,1,false)],[.pointer none]⟩),
 (92,oF),
 (93,oF),
 (94,oF),
 (95,oF),
 (96,oF),
 (97,⟨5,.struct [(0,1,false),(1,1,false),(2,1,false),(3,1,false),(4,1,false)],[.bool false,.bool false,.int .i64 0,.int .i64 0,.int .i64 0]⟩),
 (98,⟨5,.struct [(0,1,false),(1,1,false),(2,1,false),(3,1,false),(4,1,false)],[.bool false,.bool false,.int .i64 0,.int .i64 0,.int .i64 0]⟩),
 (100,oF),
 (102,oF),
 (103,oF),
 (105,oF),
 (106,oF),
 (107,oF),
 (108,oF),
 (109,⟨1,.ptr,[.pointer none]⟩),
 (110,oF),
 (111,⟨1,.ptr,[.pointer none]⟩),
 (113,oF),
 (114,oF),
 (115,oF),
 (116,oF),
 (118,oF),
 (119,oF),
 (120,⟨4,.struct [(0,1,false),(1,1,false),(2,1,false),(3,1,false)],[.int .i64 0,.int .i64 0,.int .i64 0,.bool false]⟩),
 (121,⟨4,.struct [(0,1,false),(1,1,false),(2,1,false),(3,1,false)],[.int .i64 0,.int .i64 0,.int .i64 0,.bool false]⟩),
 (122,⟨1,.ptr,[.pointer none]⟩),
 (123,⟨1,.ptr,[.pointer none]⟩),
 (124,⟨1,.ptr,[.pointer none]⟩),
 (125,⟨1,.ptr,[.pointer none]⟩),
 (126,⟨1,.ptr,[.pointer none]⟩),
 (127,⟨8,.struct [(0,1,false),(1,1,false),(2,1,false),(3,1,false),(4,1,false),(5,1,false),(6,1,false),(7,1,false)],[.int .i64 0,.int .i64 0,.pointer none,.pointer none,.pointer none,.pointer none,.pointer none,.slice none 0 0]⟩),
 (128,⟨8,.struct [(0,1,false),(1,1,false),(2,1,false),(3,1,false),(4,1,false),(5,1,false),(6,1,false),(7,1,false)],[.int .i64 0,.int .i64 0,.pointer none,.pointer none,.pointer none,.pointer none,.pointer none,.slice none 0 0]⟩),
 (129,⟨1,.slice 207 8 true,[.slice none 0 0]⟩),
 (130,oF),
 (131,⟨1,.slice 209 10 true,[.slice none 0 0]⟩),
 (132,⟨2,.struct [(0,1,false),(1,1,false)],[.int .i64 0,.slice none 0 0]⟩),
 (133,⟨2,.struct [(0,1,false),(1,1,false)],[.int .i64 0,.slice none 0 0]⟩),
 (134,⟨2,.struct [(0,1,false),(1,1,false)],[.int .i64 0,.slice none 0 0]⟩),
 (135,⟨2,.struct [(0,1,false),(1,1,false)],[.int .i64 0,.slice none 0 0]⟩),
 (136,⟨5,.struct [(0,1,false),(1,1,false),(2,1,false),(3,1,false),(4,1,false)],[.pointer none,.int .i64 0,.int .i64 0,.int .i64 0,.bool false]⟩),
 (137,⟨5,.struct [(0,1,false),(1,1,false),(2,1,false),(3,1,false),(4,1,false)],[.pointer none,.int .i64 0,.int .i64 0,.int .i64 0,.bool false]⟩),
 (138,oF),
 (139,⟨1,.slice 25 1 false,[.slice none 0 0]⟩),
 (141,oF),
 (142,oF),
 (143,⟨1,.ptr,[.pointer none]⟩),
 (144,oF),
 (145,⟨1,.ptr,[.pointer none]⟩),
 (146,⟨2,.struct [(0,1,false),(1,1,false)],[.int .i64 0,.nilIface]⟩),
 (147,⟨2,.struct [(0,1,false),(1,1,false)],[.int .i64 0,.nilIface]⟩),
 (148,oF),
 (149,oF),
 (151,oF),
 (152,oF),
 (153,oF),
 (154,oF),
 (155,⟨2,.struct [(0,1,false),(1,1,false)],[.int .i64 0,.int .i64 0]⟩),
 (156,⟨2,.struct [(0,1,false),(1,1,false)],[.int .i64 0,.int .i64 0]⟩),
 (157,⟨2,.struct [(0,1,false),(1,1,false)],[.int .i64 0,.int .i64 0]⟩),
 (158,⟨1,.ptr,[.pointer none]⟩),
 (159,⟨2,.arr 2 158 1 false,[.pointer none,.pointer none]⟩),
 (160,⟨1,.slice 350 5 true,[.slice none 0 0]⟩),
 (161,⟨7,.struct [(0,2,true),(2,1,false),(3,1,false),(4,1,false),(5,1,false),(6,1,false)],[.pointer none,.pointer none,.slice none 0 0,.slice none 0 0,.int .i64 0,.int .i64 0,.slice none 0 0]⟩),
 (162,⟨7,.struct [(0,2,true),(2,1,false),(3,1,false),(4,1,false),(5,1,false),(6,1,false)],[.pointer none,.pointer none,.slice none 0 0,.slice none 0 0,.int .i64 0,.int .i64 0,.slice none 0 0]⟩),
 (163,⟨1,.ptr,[.pointer none]⟩),
 (164,oF),
 (165,⟨1,.ptr,[.pointer none]⟩),
 (167,oF),
 (168,⟨2,.struct [(0,1,false),(1,1,false)],[.pointer none,.pointer none]⟩),
 (169,⟨2,.struct [(0,1,false),(1,1,false)],[.pointer none,.pointer none]⟩),
 (171,oF),
 (172,oF),
 (173,oF),
 (174,oF),
 (175,⟨2,.struct [(0,1,false),(1,1,false)],[.string ByteArray.empty,.nilFunc]⟩),
 (176,⟨2,.struct [(0,1,false),(1,1,false)],[.string ByteArray.empty,.nilFunc]⟩),
 (178,⟨1,.other,[.map none]⟩),
 (179,oF),
 (181,oF),
 (182,oF),
 (183,oF),
 (184,oF),
 (186,oF),
 (187,oF),
 (188,⟨4,.arr 4 9 1 false,[.string ByteArray.empty,.string ByteArray.empty,.string ByteArray.empty,.string ByteArray.empty]⟩),
 (189,oF),
 (190,oF),
 (191,oF),
 (192,⟨1,.slice 5 1 false,[.slice none 0 0]⟩),
 (193,⟨4,.struct [(0,1,false),(1,1,false),(2,1,false),(3,1,false)],[.string ByteArray.empty,.bool false,.int .i64 0,.bool false]⟩),
 (194,⟨4,.struct [(0,1,false),(1,1,false),(2,1,false),(3,1,false)],[.string ByteArray.empty,.bool false,.int .i64 0,.bool false]⟩),
 (195,oF),
 (196,oF),
 (197,oF),
 (198,oF),
 (199,⟨5,.struct [(0,1,false),(1,1,false),(2,1,false),(3,1,false),(4,1,false)],[.int .i64 0,.int .i64 0,.int .i64 0,.bool false,.slice none 0 0]⟩),
 (200,⟨5,.struct [(0,1,false),(1,1,false),(2,1,false),(3,1,false),(4,1,false)],[.int .i64 0,.int .i64 0,.int .i64 0,.bool false,.slice none 0 0]⟩),
 (202,oF),
 (203,oF),
 (204,oF),
 (205,oF),
 (206,⟨8,.struct [(0,1,false),(1,2,true),(3,2,true),(5,1,false),(6,1,false),(7,1,false)],[.int .i64 0,.int .i64 0,.int .i64 0,.int .i64 0,.int .i64 0,.int .i64 0,.int .i64 0,.int .i64 0]⟩),
 (207,⟨8,.struct [(0,1,false),(1,2,true),(3,2,true),(5,1,false),(6,1,false),(7,1,false)],[.int .i64 0,.int .i64 0,.int .i64 0,.int .i64 0,.int .i64 0,.int .i64 0,.int .i64 0,.int .i64 0]⟩),
 (208,⟨10,.struct [(0,1,false),(1,1,false),(2,8,true)],[.int .i64 0,.int .i64 0,.int .i64 0,.int .i64 0,.int .i64 0,.int .i64 0,.int .i64 0,.int .i64 0,.int .i64 0,.int .i64 0]⟩),
 (209,⟨10,.struct [(0,1,false),(1,1,false),(2,8,true)],[.int .i64 0,.int .i64 0,.int .i64 0,.int .i64 0,.int .i64 0,.int .i64 0,.int .i64 0,.int .i64 0,.int .i64 0,.int .i64 0]⟩),
 (216,⟨1,.other,[.int .u64 0]⟩),
 (219,⟨1,.other,[.int .u32 0]⟩),
 (222,oF),
 (223,⟨3,.struct [(0,1,false),(1,1,false),(2,1,false)],[.int .i64 0,.slice none 0 0,.nilIface]⟩),
 (224,⟨3,.struct [(0,1,false),(1,1,false),(2,1,false)],[.int .i64 0,.slice none 0 0,.nilIface]⟩),
 (228,⟨3,.struct [(0,1,false),(1,1,false),(2,1,false)],[.pointer none,.pointer none,.int .u64 0]⟩),
 (231,⟨1,.iface,[.nilIface]⟩),
 (233,⟨1,.other,[.int .u8 0]⟩),
 (237,oF),
 (238,⟨3,.arr 3 9 1 false,[.string ByteArray.empty,.string ByteArray.empty,.string ByteArray.empty]⟩),
 (240,oF),
 (241,oF),
 (242,oF),
 (243,oF),
 (246,⟨4,.struct [(0,1,false),(1,2,true),(3,1,false)],[.int .i64 0,.slice none 0 0,.slice none 0 0,.nilIface]⟩),
 (247,⟨4,.struct [(0,1,false),(1,2,true),(3,1,false)],[.int .i64 0,.slice none 0 0,.slice none 0 0,.nilIface]⟩),
 (248,oF),
 (249,oF),
 (250,oF),
 (251,⟨64,.arr 64 5 1 false,[]⟩),
 (252,⟨66,.struct [(0,64,true),(64,1,false),(65,1,false)],[]⟩),
 (253,⟨66,.struct [(0,64,true),(64,1,false),(65,1,false)],[]⟩),
 (254,⟨1,.ptr,[.pointer none]⟩),
 (256,oF),
 (257,⟨1,.ptr,[.pointer none]⟩),
 (259,oF),
 (260,⟨1,.ptr,[.pointer none]⟩),
 (262,oF),
 (263,⟨1,.ptr,[.pointer none]⟩),
 (264,oF),
 (265,⟨1,.ptr,[.pointer none]⟩),
 (266,oF),
 (267,⟨8,.struct [(0,1,false),(1,1,false),(2,1,false),(3,1,false),(4,1,false),(5,1,false),(6,1,false),(7,1,false)],[.pointer none,.int .i64 0,.int .i64 0,.pointer none,.pointer none,.pointer none,.pointer none,.slice none 0 0]⟩),
 (268,⟨8,.struct [(0,1,false),(1,1,false),(2,1,false),(3,1,false),(4,1,false),(5,1,false),(6,1,false),(7,1,false)],[.pointer none,.int .i64 0,.int .i64 0,.pointer none,.pointer none,.pointer none,.pointer none,.slice none 0 0]⟩),
 (270,oF),
 (271,oF),
 (272,oF),
 (273,oF),
 (274,oF),
 (275,oF),
 (276,oF),
 (277,oF),
 (278,oF),
 (279,oF),
 (280,oF),
 (282,oF),
 (283,oF),
 (284,oF),
 (285,oF),
 (286,⟨1,.ptr,[.pointer none]⟩),
 (287,⟨2,.struct [(0,1,false),(1,1,false)],[.pointer none,.slice none 0 0]⟩),
 (288,⟨2,.struct [(0,1,false),(1,1,false)],[.pointer none,.slice none 0 0]⟩),
 (289,oF),
 (290,oF),
 (291,oF),
 (292,oF),
 (293,⟨3,.struct [(0,1,false),(1,1,false),(2,1,false)],[.pointer none,.slice none 0 0,.int .i64 0]⟩),
 (294,⟨3,.struct [(0,1,false),(1,1,false),(2,1,false)],[.pointer none,.slice none 0 0,.int .i64 0]⟩),
 (296,oF),
 (297,oF),
 (298,oF),
 (299,oF),
 (300,oF),
 (301,oF),
 (302,oF),
 (303,oF),
 (304,oF),
 (305,⟨1,.ptr,[.pointer none]⟩),
 (306,oF),
 (307,⟨1,.other,[.int .u64 0]⟩),
 (308,oF),
 (309,oF),
 (310,oF),
 (311,oF),
 (312,⟨1,.ptr,[.pointer none]⟩),
 (313,oF),
 (319,⟨1,.iface,[.nilIface]⟩),
 (321,oF),
 (322,⟨1,.iface,[.nilIface]⟩),
 (323,oF),
 (324,⟨1,.iface,[.nilIface]⟩),
 (325,oF),
 (326,oF),
 (327,oF),
 (328,⟨320,.arr 32 209 10 true,[]⟩),
 (329,⟨321,.struct [(0,1,false),(1,320,true)],[]⟩),
 (330,⟨321,.struct [(0,1,false),(1,320,true)],[]⟩),
 (331,⟨5,.struct [(0,1,false),(1,1,false),(2,1,false),(3,1,false),(4,1,false)],[.pointer none,.int .i64 0,.int .i64 0,.int .i64 0,.bool false]⟩),
 (332,⟨5,.struct [(0,1,false),(1,1,false),(2,1,false),(3,1,false),(4,1,false)],[.pointer none,.int .i64 0,.int .i64 0,.int .i64 0,.bool false]⟩),
 (333,oF),
 (334,⟨4,.struct [(0,1,false),(1,1,false),(2,1,false),(3,1,false)],[.int .i64 0,.int .i64 0,.int .i64 0,.bool false]⟩),
 (335,⟨4,.struct [(0,1,false),(1,1,false),(2,1,false),(3,1,false)],[.int .i64 0,.int .i64 0,.int .i64 0,.bool false]⟩),
 (336,⟨32,.arr 32 3 1 false,[]⟩),
 (337,⟨34,.struct [(0,1,false),(1,32,true),(33,1,false)],[]⟩),
 (338,⟨34,.struct [(0,1,false),(1,32,true),(33,1,false)],[]⟩),
 (339,⟨321,.struct [(0,1,false),(1,320,true)],[]⟩),
 (340,⟨321,.struct [(0,1,false),(1,320,true)],[]⟩),
 (341,oF),
 (342,oF),
 (344,oF),
 (345,oF),
 (347,oF),
 (348,oF),
 (349,oF),
 (350,⟨5,.struct [(0,1,false),(1,1,false),(2,1,false),(3,1,false),(4,1,false)],[.int .i64 0,.int .i64 0,.int .i64 0,.bool false,.slice none 0 0]⟩),
 (351,oF),
 (352,oF),
 (353,oF),
 (354,oF),
 (355,⟨1,.iface,[.nilIface]⟩),
 (357,oF),
 (359,oF),
 (360,oF),
 (361,⟨1,.int,[.int .i64 0]⟩),
 (363,oF),
 (364,⟨1,.ptr,[.pointer none]⟩),
 (365,oF),
 (366,oF),
 (367,⟨1,.ptr,[.pointer none]⟩),
 (368,oF),
 (369,oF),
 (370,oF),
 (371,oF),
 (372,oF),
 (373,⟨1,.int,[.int .i64 0]⟩),
 (374,oF),
 (375,oF),
 (376,oF),
 (377,oF),
 (378,oF),
 (379,⟨1,.ptr,[.pointer none]⟩),
 (380,oF),
 (381,⟨1,.ptr,[.pointer none]⟩),
 (382,oF),
 (384,oF),
 (385,oF),
 (386,⟨4,.arr 4 3 1 false,[.int .i64 0,.int .i64 0,.int .i64 0,.int .i64 0]⟩),
 (387,oF),
 (388,oF),
 (389,oF),
 (390,oF),
 (392,oF),
 (393,oF),
 (394,oF),
 (395,⟨1,.ptr,[.pointer none]⟩),
 (397,oF),
 (398,oF),
 (399,oF),
 (400,oF),
 (401,oF),
 (402,oF),
 (404,oF),
 (405,oF),
 (406,⟨3,.struct [(0,1,false),(1,1,false),(2,1,false)],[.string ByteArray.empty,.string ByteArray.empty,.nilIface]⟩),
 (407,⟨3,.struct [(0,1,false),(1,1,false),(2,1,false)],[.string ByteArray.empty,.string ByteArray.empty,.nilIface]⟩),
 (408,oF),
 (409,oF),
 (410,oF),
 (411,⟨1,.slice 4 1 false,[.slice none 0 0]⟩),
 (412,oF),
 (413,oF),
 (414,oF),
 (415,oF),
 (416,oF),
 (418,oF),
 (419,oF),
 (420,oF),
 (421,⟨1,.other,[.map none]⟩),
 (422,oF),
 (423,⟨2,.struct [(0,1,false),(1,1,false)],[.int .i64 0,.int .i64 0]⟩),
 (424,⟨2,.struct [(0,1,false),(1,1,false)],[.int .i64 0,.int .i64 0]⟩),
 (425,oF),
 (426,oF),
 (427,⟨24,.arr 24 5 1 false,[]⟩),
 (428,oF),
 (429,oF),
 (431,oF),
 (432,⟨256,.arr 256 5 1 false,[]⟩),
 (433,⟨2,.struct [(0,1,false),(1,1,false)],[.int .u8 0,.int .u8 0]⟩),
 (434,⟨2,.struct [(0,1,false),(1,1,false)],[.int .u8 0,.int .u8 0]⟩),
 (435,⟨32,.arr 16 434 2 true,[]⟩),
 (436,oF),
 (437,oF),
 (438,⟨1,.ptr,[.pointer none]⟩),
 (439,⟨1,.struct [(0,1,false)],[.string ByteArray.empty]⟩),
 (440,⟨1,.struct [(0,1,false)],[.string ByteArray.empty]⟩),
 (441,oF),
 (442,oF),
 (443,⟨1,.other,[.map none]⟩),
 (444,oF),
 (445,oF),
 (446,⟨20,.arr 20 216 1 false,[]⟩),
 (447,⟨65,.arr 65 5 1 false,[]⟩),
 (448,oF),
 (449,oF),
 (450,⟨32,.arr 32 5 1 false,[]⟩),
 (458,oF),
 (463,oF),
 (467,oF),
 (468,oF),
 (469,oF),
 (470,oF),
 (471,oF),
 (472,⟨1,.other,[.int .u16 0]⟩),
 (473,⟨1,.slice 472 1 false,[.slice none 0 0]⟩),
 (474,oF),
 (475,⟨1,.slice 219 1 false,[.slice none 0 0]⟩),
 (476,oF),
 (485,⟨1,.ptr,[.pointer none]⟩)]
theorem zrf:TIok Tryz.prog 251 ⟨64,.arr 64 5 1 false,[]⟩:=⟨by kernel_rfl,by kernel_rfl,.inl rfl⟩
theorem zqK:TIok Tryz.prog 252 ⟨66,.struct [(0,64,true),(64,1,false),(65,1,false)],[]⟩:=⟨by kernel_rfl,by kernel_rfl,.inl rfl⟩
theorem zq6:TIok Tryz.prog 253 ⟨66,.struct [(0,64,true),(64,1,false),(65,1,false)],[]⟩:=⟨by kernel_rfl,by kernel_rfl,.inl rfl⟩
theorem zqx:TIok Tryz.prog 328 ⟨320,.arr 32 209 10 true,[]⟩:=⟨by kernel_rfl,by kernel_rfl,.inl rfl⟩
theorem zql:TIok Tryz.prog 329 ⟨321,.struct [(0,1,false),(1,320,true)],[]⟩:=⟨by kernel_rfl,by kernel_rfl,.inl rfl⟩
theorem zqA:TIok Tryz.prog 330 ⟨321,.struct [(0,1,false),(1,320,true)],[]⟩:=⟨by kernel_rfl,by kernel_rfl,.inl rfl⟩
theorem zsa:TIok Tryz.prog 336 ⟨32,.arr 32 3 1 false,[]⟩:=⟨by kernel_rfl,by kernel_rfl,.inl rfl⟩
theorem zrY:TIok Tryz.prog 337 ⟨34,.struct [(0,1,false),(1,32,true),(33,1,false)],[]⟩:=⟨by kernel_rfl,by kernel_rfl,.inl rfl⟩
theorem zrN:TIok Tryz.prog 338 ⟨34,.struct [(0,1,false),(1,32,true),(33,1,false)],[]⟩:=⟨by kernel_rfl,by kernel_rfl,.inl rfl⟩
theorem zr2:TIok Tryz.prog 339 ⟨321,.struct [(0,1,false),(1,320,true)],[]⟩:=⟨by kernel_rfl,by kernel_rfl,.inl rfl⟩
theorem zq8:TIok Tryz.prog 340 ⟨321,.struct [(0,1,false),(1,320,true)],[]⟩:=⟨by kernel_rfl,by kernel_rfl,.inl rfl⟩
theorem zrt:TIok Tryz.prog 427 ⟨24,.arr 24 5 1 false,[]⟩:=⟨by kernel_rfl,by kernel_rfl,.inl rfl⟩
theorem zrn:TIok Tryz.prog 432 ⟨256,.arr 256 5 1 false,[]⟩:=⟨by kernel_rfl,by kernel_rfl,.inl rfl⟩
theorem zqm:TIok Tryz.prog 435 ⟨32,.arr 16 434 2 true,[]⟩:=⟨by kernel_rfl,by kernel_rfl,.inl rfl⟩
theorem zq7:TIok Tryz.prog 446 ⟨20,.arr 20 216 1 false,[]⟩:=⟨by kernel_rfl,by kernel_rfl,.inl rfl⟩
theorem zrW:TIok Tryz.prog 447 ⟨65,.arr 65 5 1 false,[]⟩:=⟨by kernel_rfl,by kernel_rfl,.inl rfl⟩
theorem zrK:TIok Tryz.prog 450 ⟨32,.arr 32 5 1 false,[]⟩:=⟨by kernel_rfl,by kernel_rfl,.inl rfl⟩
set_option maxRecDepth 100000 in
theorem tabOk:TabOk Tryz.prog tab:=TabOk.of_all (by repeat' first|exact trivial|refine ⟨zrf,?_⟩|refine ⟨zqK,?_⟩|refine ⟨zq6,?_⟩|refine ⟨zqx,?_⟩|refine ⟨zql,?_⟩|refine ⟨zqA,?_⟩|refine ⟨zsa,?_⟩|refine ⟨zrY,?_⟩|refine ⟨zrN,?_⟩|refine ⟨zr2,?_⟩|refine ⟨zq8,?_⟩|refine ⟨zrt,?_⟩|refine ⟨zrn,?_⟩|refine ⟨zqm,?_⟩|refine ⟨zq7,?_⟩|refine ⟨zrW,?_⟩|refine ⟨zrK,?_⟩|refine ⟨tiO,?_⟩)
theorem mixed:Tryz.prog.follows .mixedOrders=true:=by kernel_rfl

abbrev zcw (x:Int):List Value:=[.int .i64 x]
theorem Ev.St.fresh {w0 w:World}{H:List Ent}(h:St w0 No w H) (i:Nat) {b:Nat}{t:TypeId}{cs:List Value}(hi:H[i]?=some (Ev.blk b t cs)):w0.heap.size≤b:=by
 rcases (h.may _ (List.mem_of_getElem? hi) b (by simp [Ev.blk])).1 with h|h
 ·exact h.elim
 ·exact h
def zc9 (E:Nat→Addr):Nat→Value
 | 0=>.nilIface
 | k+1=>.iface 438 (.pointer (some (E (k+1))))

def zlm:Nat→Nat
 | 1=>1
 | 2=>0
 | 3=>2
 | 4=>3
 | 5=>4
 | 6=>5
 | 7=>6
 | 8=>7
 | 9=>8
 | 10=>9
 | _=>10

def zdJ {H:Type}:Nat→String × DataW H
 | 1 => ("twinrampart/api.ErrText", .iface "*errors.errorString" (.ptr (.agg [.lit (.string [116, 119, 105, 110, 114, 97, 109, 112, 97, 114, 116, 58, 32, 116, 101, 120, 116])])))
 | 2 => ("twinrampart/api.ErrBound", .iface "*errors.errorString" (.ptr (.agg [.lit (.string [116, 119, 105, 110, 114, 97, 109, 112, 97, 114, 116, 58, 32, 98, 111, 117, 110, 100])])))
 | 3 => ("twinrampart/api.ErrShape", .iface "*errors.errorString" (.ptr (.agg [.lit (.string [116, 119, 105, 110, 114, 97, 109, 112, 97, 114, 116, 58, 32, 115, 104, 97, 112, 101])])))
 | 4 => ("twinrampart/api.ErrNone", .iface "*errors.errorString" (.ptr (.agg [.lit (.string [116, 119, 105, 110, 114, 97, 109, 112, 97, 114, 116, 58, 32, 110, 111, 110, 101])])))
 | 5 => ("twinrampart/api.ErrExist", .iface "*errors.errorString" (.ptr (.agg [.lit (.string [116, 119, 105, 110, 114, 97, 109, 112, 97, 114, 116, 58, 32, 101, 120, 105, 115, 116])])))
 | 6 => ("twinrampart/api.ErrFull", .iface "*errors.errorString" (.ptr (.agg [.lit (.string [116, 119, 105, 110, 114, 97, 109, 112, 97, 114, 116, 58, 32, 102, 117, 108, 108])])))
 | 7 => ("twinrampart/api.ErrOff", .iface "*errors.errorString" (.ptr (.agg [.lit (.string [116, 119, 105, 110, 114, 97, 109, 112, 97, 114, 116, 58, 32, 111, 102, 102])])))
 | 8 => ("twinrampart/api.ErrDeny", .iface "*errors.errorString" (.ptr (.agg [.lit (.string [116, 119, 105, 110, 114, 97, 109, 112, 97, 114, 116, 58, 32, 100, 101, 110, 121])])))
 | 9 => ("twinrampart/api.ErrState", .iface "*errors.errorString" (.ptr (.agg [.lit (.string [116, 119, 105, 110, 114, 97, 109, 112, 97, 114, 116, 58, 32, 115, 116, 97, 116, 101])])))
 | 10 => ("twinrampart/api.ErrOld", .iface "*errors.errorString" (.ptr (.agg [.lit (.string [116, 119, 105, 110, 114, 97, 109, 112, 97, 114, 116, 58, 32, 111, 108, 100])])))
 | _ => ("twinrampart/api.ErrHeld", .iface "*errors.errorString" (.ptr (.agg [.lit (.string [116, 119, 105, 110, 114, 97, 109, 112, 97, 114, 116, 58, 32, 104, 101, 108, 100])])))

theorem zbU (k:Nat):Tryz.prog.globalNamed (zdJ (H:=Unit) k).1=some (zlm k)∧(Tryz.prog.globals[zlm k]?).map (·.type)=some 25:=by
 unfold zdJ zlm;split<;>exact ⟨by kernel_rfl,by kernel_rfl⟩

theorem zdF (k : Nat) : ∃ n text, zdJ (H := Unit) k = (n, .iface "*errors.errorString" (.ptr (.agg [.lit (.string text)]))) := by
 unfold zdJ;split<;>exact ⟨_,_,rfl⟩

theorem zpH : "*" ++ "errors.errorString" = "*errors.errorString" := by decide
theorem zdy (u : TypeId) (h : Tryz.prog.typeName? 3 u = some "*errors.errorString") : u = 438 :=
 typeName_ptr_named (nm := "errors.errorString") (by rw [zpH]; kernel_rfl) (by kernel_rfl) (by decide) u (by rw [zpH]; exact h)

structure Errs (w:World) (E:Nat→Addr) (n:Nat) (ks:List Nat):Prop where
 at_:∀ k,ks.contains k=true→w.cell? ⟨zlm k,0,none⟩=some (.iface 438 (.pointer (some (E k))))
 lt:∀ k,ks.contains k=true→zlm k < n
 row:∀ k,ks.contains k=true→(∃ c t,w.heap[(E k).block]?=some (.cells c t (0,0)))∧(E k).block < n
 inj:∀ j k,ks.contains j=true→ks.contains k=true→j≠k→E j≠E k

theorem Errs.ext {w w':World}{E:Nat→Addr}{n:Nat}{ks:List Nat}{S:Nat→Prop}(h:Errs w E n ks) (hx:Ext S w w') (hS:∀ b,S b→n≤b):Errs w' E n ks :=
 ⟨fun k hk=>hx.cell (h.at_ k hk) (fun hs=>by have:=hS _ hs;have:=h.lt k hk;omega),h.lt,fun k hk=>by
  obtain ⟨⟨c,t,hc⟩,hb⟩:=h.row k hk;refine ⟨⟨c,t,?_⟩,hb⟩;rw [hx.block _ (Array.getElem?_eq_some_iff.1 hc).1 (fun hs=>by have:=hS _ hs;omega)];exact hc,h.inj⟩
theorem Errs.sub {w:World}{E:Nat→Addr}{n:Nat}{ks ks':List Nat}(h:Errs w E n ks) (hs:ks'.all (fun k=>ks.contains k)=true):Errs w E n ks':=by
 have key:∀ k,ks'.contains k=true→ks.contains k=true:=fun k hk=>List.all_eq_true.1 hs k (by simpa using hk)
 exact ⟨fun k hk=>h.at_ k (key k hk),fun k hk=>h.lt k (key k hk),fun k hk=>h.row k (key k hk),fun j k hj hk=>h.inj j k (key j hj) (key k hk)⟩
theorem Errs.ne {w:World}{E:Nat→Addr}{n:Nat}{ks:List Nat}(h:Errs w E n ks) (k:Nat) (hk:ks.contains k=true) {b:Nat}(hb:n≤b):zlm k≠b:=by
 have:=h.lt k hk;omega

theorem zkI {P:Program}{w:World}{l l':List (String × DataW Unit)}(hs:l'.Sublist l):∀ {ps:List MemPlace},DataW.LaidVars P w l ps→∃ ps',DataW.LaidVars P w l' ps'∧ps'.Sublist ps:=by
 induction hs with
 | slnil=>exact fun {ps} h=>⟨ps,h,List.Sublist.refl _⟩
 | cons x hs ih =>
  intro ps h;obtain ⟨n,d⟩:=x;obtain ⟨g,t,cs,fuel,p,q,e1,e2,e3,e4,hr,rfl⟩:=h;obtain ⟨q',hq,hs⟩:=ih hr;exact ⟨q',hq,hs.trans (List.sublist_append_right _ _)⟩
 | cons_cons x hs ih =>
  intro ps h;obtain ⟨n,d⟩:=x;obtain ⟨g,t,cs,fuel,p,q,e1,e2,e3,e4,hr,rfl⟩:=h;obtain ⟨q',hq,hs⟩:=ih hr;exact ⟨_,⟨g,t,cs,fuel,p,q',e1,e2,e3,e4,hq,rfl⟩,List.Sublist.append (List.Sublist.refl _) hs⟩
theorem zeO {P:Program}{w:World}{l l':List (String × DataW Unit)}(hs:l'.Sublist l) (h:laidMet P l w):laidMet P l' w:=by
 obtain ⟨ps,hl,hnd,hrows⟩:=h;obtain ⟨ps',hl',hs⟩:=zkI hs hl;exact ⟨ps',hl',hnd.sublist hs,fun b off hp=>hrows b off (hs.subset hp)⟩
theorem zro {α:Type}{x y:α}(hne:x≠y) {l:List α}(hx:x∈l) (hy:y∈l):[x,y].Sublist l∨[y,x].Sublist l:=by
 induction l with
 | nil=>cases hx
 | cons z l ih =>
  rcases List.mem_cons.1 hx with h1|h1
  ·rcases List.mem_cons.1 hy with h2|h2
   ·exact absurd (h1.trans h2.symm) hne
   ·subst h1;exact .inl (.cons_cons _ (List.singleton_sublist.2 h2))
  ·rcases List.mem_cons.1 hy with h2|h2
   ·subst h2;exact .inr (.cons_cons _ (List.singleton_sublist.2 h1))
   ·rcases ih h1 h2 with h|h
    ·exact .inl (.cons _ h)
    ·exact .inr (.cons _ h)

theorem zsc (j:Nat) (hj:j < 12) (k:Nat) (hk:k < 12) (j0:1≤j) (k0:1≤k) (hne:j≠k):zlm j≠zlm k:=by
 have h:((List.range 12).all fun j=>(List.range 12).all fun k=>Nat.ble j 0||Nat.ble k 0||Nat.beq j k||!Nat.beq (zlm j) (zlm k))=true:=by rfl
 have h1:=List.all_eq_true.1 (List.all_eq_true.1 h j (List.mem_range.2 hj)) k (List.mem_range.2 hk);intro he;rw [he] at h1;simp at h1;omega

theorem zkN {P:Program}{n nm:String}{text:List UInt8}{W:World}{g:Nat}{ti tp te ts:TypeId}{ms:Array (String × TypeId)}{f:Field}
  (h:laidMet P [(n,.iface nm (.ptr (.agg [.lit (.string text)])))] W)
  (hg:P.globalNamed n=some g) (ht:(P.globals[g]?).map (·.type)=some ti) (hi:P.underlying ti=some (.interface ms)) (hrow:∀ u,P.typeName? 3 u=some nm→u=tp)
  (hp:P.underlying tp=some (.pointer te)) (he:P.underlying te=some (.struct #[f])) (hft:f.type=ts) (hfo:f.offset=0) (hs:P.underlying ts=some .string) (hc:P.cellsOf te=1) (hcs:P.cellsOf ts=1) :
  ∃ (a:Addr),W.cell? ⟨g,0,none⟩=some (.iface tp (.pointer (some a)))∧(∃ c t,W.heap[a.block]?=some (.cells c t (0,0))):=by
 obtain ⟨ps,⟨g0,t0,cs0,f0,p0,q0,hg0,ht0,hv0,hd0,_,e0⟩,_,hrows⟩:=h;obtain rfl:=Option.some.inj (hg.symm.trans hg0);obtain rfl:=Option.some.inj (ht.symm.trans ht0);subst e0;obtain ⟨l0⟩:=cs0
 have ok0:∀ u v,l0=[.iface u v]→Value.okWide P W .any 0 u v:=fun u v e=>by
  subst e;exact (hrows g 0 (by simp [MemPlace.row])).2 u v (by simpa using World.var?_cell hg0 hv0 0)
 obtain ⟨a0,s0,rfl,hc0,hs0,hz0,rfl⟩:=errorString_of_trod hi hrow hp he hft hfo hs hc hcs hd0 ok0;refine ⟨a0,by simpa using World.var?_cell hg0 hv0 0,?_⟩;obtain ⟨c,t,hb⟩:=(hrows a0.block a0.off (by simp [MemPlace.row])).1;exact ⟨c,t,hb⟩

theorem errs_of {L:List (String × DataW Unit)}{W:World}(ks:List Nat) (hks:ks.all (fun k=>decide (1≤k∧k < 12))=true) (hl:laidMetH Tryz.prog L W) (hm:∀ k∈ks,zdJ k∈L):∃ E,Errs W E W.heap.size ks:=by
 have h1:=(laidMetH_iff.1 hl).1
 have hin:∀ k,k∈ks→zdJ (H:=Unit) k∈L.filter fun x=>x.2.handleName?.isNone:=fun k hk=>by
  obtain ⟨n,text,hf⟩:=zdF k;refine List.mem_filter.2 ⟨hm k hk,?_⟩;rw [hf];rfl
 have key:∀ k,∃ a:Addr,k∈ks→W.cell? ⟨zlm k,0,none⟩=some (.iface 438 (.pointer (some a)))∧(∃ c t,W.heap[a.block]?=some (.cells c t (0,0))):=by
  intro k;by_cases hk:k∈ks
  ·have hk2:=hin k hk;obtain ⟨hg,ht⟩:=zbU k;obtain ⟨n,text,hf⟩:=zdF k;rw [hf] at hk2 hg;have h2:=zeO (List.singleton_sublist.2 hk2) h1;obtain ⟨a,h3,h4⟩:=zkN (P:=Tryz.prog) h2 hg ht Tryz.underlying25 zdy Tryz.underlying438 Tryz.underlying440 rfl rfl Tryz.underlying9 (by kernel_rfl) (by kernel_rfl);exact ⟨a,fun _=>⟨h3,h4⟩⟩
  ·exact ⟨⟨0,0,none⟩,fun h=>absurd h hk⟩
 have spec:∀ k,ks.contains k=true→_:=fun k hk=>(key k).choose_spec (by simpa using hk)
 refine ⟨fun k=>(key k).choose,fun k hk=>(spec k hk).1,fun k hk=>?_,fun k hk=>?_,fun j k hj hk hne=>?_⟩
 ·exact zbO (spec k hk).1
 ·obtain ⟨_,c,t,hc⟩:=spec k hk;exact ⟨⟨c,t,hc⟩,(Array.getElem?_eq_some_iff.1 hc).1⟩
 ·have bj:=of_decide_eq_true (List.all_eq_true.1 hks j (by simpa using hj));have bk:=of_decide_eq_true (List.all_eq_true.1 hks k (by simpa using hk));have gne:=zsc j bj.2 k bk.2 bj.1 bk.1 hne
  have two:∀ j k,ks.contains j=true→ks.contains k=true→[zdJ (H:=Unit) j,zdJ k].Sublist (L.filter fun x=>x.2.handleName?.isNone)→(key j).choose≠(key k).choose:=by
   intro j k hj hk hsub;have h2:=zeO hsub h1;obtain ⟨hgj,htj⟩:=zbU j;obtain ⟨hgk,htk⟩:=zbU k;obtain ⟨nj,textj,hfj⟩:=zdF j;obtain ⟨nk,textk,hfk⟩:=zdF k;rw [hfj] at hgj;rw [hfk] at hgk;rw [hfj,hfk] at h2;obtain ⟨a0,a1,_,_,_,_,_,_,v0,v1,_,_,_,_,_,_,hne2,_⟩:=laid_sentinels2 (P:=Tryz.prog) h2 hgj htj hgk htk Tryz.underlying25 zdy Tryz.underlying438 Tryz.underlying440 rfl rfl Tryz.underlying9 (by kernel_rfl) (by kernel_rfl);have c0:W.cell? ⟨zlm j,0,none⟩=some (.iface 438 (.pointer (some a0))):=by simpa using World.var?_cell hgj v0 0
   have c1:W.cell? ⟨zlm k,0,none⟩=some (.iface 438 (.pointer (some a1))):=by simpa using World.var?_cell hgk v1 0
   have d0:=(spec j hj).1;have d1:=(spec k hk).1;have d0:=c0.symm.trans d0;have d1:=c1.symm.trans d1;simp only [Option.some.injEq,Value.iface.injEq,Value.pointer.injEq,true_and] at d0 d1;intro he;exact hne2 (d0.trans (he.trans d1.symm))
  have hrne:zdJ (H:=Unit) j≠zdJ k:=by
   intro he;have a:=(zbU j).1;rw [he,(zbU k).1] at a;exact gne (Option.some.inj a).symm
  rcases zro hrne (hin j (by simpa using hj)) (hin k (by simpa using hk)) with h|h
  ·exact two j k hj hk h
  ·exact (two k j hk hj h).symm

structure FlowS where
 proto:Int
 ia:Int
 ip:Int
 fa:Int
 fp:Int
 port:Int
 state:Int
 til:Int
 deriving DecidableEq
structure CellS where
 slot:Int
 ver:Int
 f:FlowS
 deriving DecidableEq

def zai (f:FlowS):List Value:=[.int .i64 f.proto,.int .i64 f.ia,.int .i64 f.ip,.int .i64 f.fa,.int .i64 f.fp,.int .i64 f.port,.int .i64 f.state,.int .i64 f.til]
def zac (c:CellS):List Value:=[.int .i64 c.slot,.int .i64 c.ver,.int .i64 c.f.proto,.int .i64 c.f.ia,.int .i64 c.f.ip,.int .i64 c.f.fa,.int .i64 c.f.fp,.int .i64 c.f.port,.int .i64 c.f.state,.int .i64 c.f.til]
def FlowS.pr (f:FlowS):List Pr:=[.int f.proto,.int f.ia,.int f.ip,.int f.fa,.int f.fp,.int f.port,.int f.state,.int f.til]
def CellS.pr (c:CellS):List Pr:=[.int c.slot,.int c.ver,.int c.f.proto,.int c.f.ia,.int c.f.ip,.int c.f.fa,.int c.f.fp,.int c.f.port,.int c.f.state,.int c.f.til]
def zpv (a p:Int):List Pr:=[.int a,.int p]
def zay:FlowS:=⟨0,0,0,0,0,0,0,0⟩

theorem zau:Codec 10 zac:=⟨fun _=>rfl,fun _=>rfl,by decide⟩
theorem zf2:Codec 8 zai:=⟨fun _=>rfl,fun _=>rfl,by decide⟩
def zc3 {α:Type}(p:α→Bool):List α→Nat→Int
 | [],_=>-1
 | x::xs,k=>match p x with|true=>(k:Int)|false=>zc3 p xs (k+1)
theorem zeW {α:Type}(p:α→Bool) {xs:List α}{k:Nat}{x:α}(hx:xs[k]?=some x):zc3 p (xs.drop k) k=match p x with|true=>(k:Int)|false=>zc3 p (xs.drop (k+1)) (k+1):=by
 obtain ⟨hlt,rfl⟩:=List.getElem?_eq_some_iff.1 hx;rw [List.drop_eq_getElem_cons hlt];rfl
theorem zhk {α:Type}(p:α→Bool):∀ (xs:List α) (k:Nat),(0≤zc3 p xs k)=(xs.any p=true)
 | [],k=>by simp [zc3]
 | x::xs,k=>by
  unfold zc3;cases h:p x
  ·simp [h,zhk p xs (k+1)]
  ·simp [h]

section
variable {w : World} {G : CellS → Prop} {a b : Option Addr} {n m c d : Nat} {xs ys : List CellS}

theorem zee (p:CellS→Bool) (g:FuncId) (caps:List Value) (hx:Slc w 10 zac G a n xs)
  (hg:∀ x∈xs,G x→∀ w',Ext No w w'→CallC Tryz.prog g ([Value.agg (zac x).toArray]++caps).toArray w' fun v w''=>v = .bool (p x)∧Ext No w' w'') :
  CallC Tryz.prog 324 #[.slice a n c,.func (.func g) #[] caps.toArray] w fun v w'=>v = .int .i64 (zc3 p xs 0)∧Ext No w w':=by
 have hm:=hx.max;have hl:=hx.len;refine zaa tabOk Tryz.func324 (by kernel_rfl) rfl Tryz.ntmps324 (lbO rfl) ?_;have hS:=St.start w No;(conv=>whnf)
 refine zaL tabOk (fun σ w' q=>∃ k:Nat,σ=[(8,.int .i64 k),(7,.int .i64 n),(1,.func (.func g) #[] caps.toArray),(0,.slice a n c)]∧q=n - k∧k≤n∧St w No w' []∧zc3 p xs 0=zc3 p (xs.drop k) k)
  (σ':=[(8,.int .i64 ((0:Nat):Int)),(7,.int .i64 n),(1,.func (.func g) #[] caps.toArray),(0,.slice a n c)]) (n:=n) ⟨rfl,rfl,rfl,rfl,trivial⟩ ⟨0,rfl,rfl,Nat.zero_le _,hS,by simp⟩ ?_
 clear hS;rintro _ w1 q ⟨k,rfl,rfl,hk,hS,hi⟩;(conv=>whnf);refine brD (fun h3=>?_) (fun h3=>?_)
 ·obtain ⟨b0,o0,x,hxk,hgx,rfl,_,hc⟩:=hx.at (k:=k) (by omega);have hst:=zeW p hxk;(conv=>whnf);refine ixO ?_;(conv=>whnf);refine hS.lar (l:=zac x) rfl hc id ?_;have key:=hg x (List.mem_of_getElem? hxk) hgx w1 hS.ext
  have fin:∀ (K:Value→World→Prop),(∀ w',Ext No w1 w'→K (.bool (p x)) w')→CallC Tryz.prog g ([Value.agg (zac x).toArray]++caps).toArray w1 K:=by
   intro K hK;refine key.mono ?_;rintro v w' ⟨rfl,hx'⟩;exact hK w' hx'
  clear key;cases caps
  all_goals
   (conv=>whnf);refine fin _ ?_;intro w' hx';replace hS:=hS.no hx';(conv=>whnf);refine brI (fun h4=>?_) (fun h4=>?_)
   ·repeat' ((conv=>whnf);first|apply RetC.mk|refine rgO ?_|refine ixO ?_|(first|apply brD|apply zad|apply brN|apply brI)<;>(intro))
    rw [hi,hst,h4];exact ⟨rfl,hS.ext⟩
   ·(conv=>whnf)
    refine rgO ?_;(conv=>whnf);refine LoopE.mk ⟨_,[(8,.int .i64 ((k+1:Nat):Int)),(7,_),(1,_),(0,_)],?_,⟨rfl,rfl,rfl,rfl,trivial⟩,⟨k+1,rfl,rfl,by omega,hS,?_⟩⟩
    ·omega
    ·rw [hi,hst,h4]
 ·repeat' ((conv=>whnf);first|apply RetC.mk|refine rgO ?_|refine ixO ?_|(first|apply brD|apply zad|apply brN|apply brI)<;>(intro))
  have:k=n:=by omega
  subst this;rw [hi,List.drop_of_length_le (by omega)];exact ⟨rfl,hS.ext⟩

theorem zhl (p:CellS→Bool) (g:FuncId) (caps:List Value) (hx:Slc w 10 zac G a n xs)
  (hg:∀ x∈xs,G x→∀ w',Ext No w w'→CallC Tryz.prog g ([Value.agg (zac x).toArray]++caps).toArray w' fun v w''=>v = .bool (p x)∧Ext No w' w'') :
  CallC Tryz.prog 330 #[.slice a n c,.func (.func g) #[] caps.toArray] w fun v w'=>v = .bool (xs.any p)∧Ext No w w':=by
 refine zaa tabOk Tryz.func330 (by kernel_rfl) rfl Tryz.ntmps330 (lbO rfl) ?_;(conv=>whnf);refine (zee p g caps hx hg).mono ?_;rintro v w' ⟨rfl,hx'⟩;repeat' ((conv=>whnf);first|apply RetC.mk|refine rgO ?_|refine ixO ?_|(first|apply brD|apply zad|apply brN|apply brI)<;>(intro))
 have e:decide (zc3 p xs 0≥0)=xs.any p:=by
  show decide (0≤_)=_;simp only [zhk];cases xs.any p<;>rfl
 rw [e];exact ⟨rfl,hx'⟩

end
theorem Ev.St.ownNe {w0 w:World}{S:Nat→Prop}{H:List Ent}(h:St w0 S w H) (i j:Nat) {α:Type}{b:Nat}{t e:TypeId}{cs:List Value}{sz n c:Nat}{enc:α→List Value}{a:Option Addr}{xs:List α}(hi:H[i]?=some (Ev.blk b t cs)) (hj:H[j]?=some (zaf e sz enc (.slice a n c) xs)) (hne:i≠j):∀ b0 o0,a=some ⟨b0,o0,none⟩→b0≠b:=by
 rintro b0 o0 rfl rfl;have:=zaG zaX h.apart hi hj hne b0 (by simp [Ev.blk]);simp [zaf,own,Value.ownBlock] at this

structure MirS where
 life:Int
 cells:List CellS
def zaZ (m:MirS):List Value:=.int .i64 m.life::m.cells.flatMap zac
def emptyCells:List CellS:=(List.range 32).map fun (i:Nat)=>(⟨(i:Int),0,zay⟩:CellS)
theorem zeZ {s:Nat}(h:s < 32):emptyCells[s]?=some ⟨s,0,zay⟩:=by simp [emptyCells,h]
theorem zaS:emptyCells.length=32:=by simp [emptyCells]
def zce (c:CellS):Bool:=decide (c.slot < 0)||decide (c.slot≥32)
def zbK (l:List CellS) (c:CellS):List CellS:=match l[c.slot.toNat]? with
 | some d=>if c.ver > d.ver then l.set c.slot.toNat c else l
 | none=>l
def MirS.tell (m:MirS) (life:Int) (xs:List CellS):Nat × MirS :=
 if life < 1∨xs.length > 8∨xs.any zce=true then (2,m) else if life < m.life then (10,m) else
 (0,⟨if life > m.life then life else m.life,xs.foldl zbK (if life > m.life then emptyCells else m.cells)⟩)
def zaV (l:List CellS):List FlowS:=(l.filter fun c=>decide (c.f.proto≠0)).map (·.f)

theorem zqd (l:List CellS) (c:CellS):(zbK l c).length=l.length:=by
 unfold zbK;split
 ·split
  ·exact List.length_set
  ·rfl
 ·rfl
theorem ze1 (xs:List CellS):∀ l:List CellS,(xs.foldl zbK l).length=l.length:=by
 induction xs with
 | nil=>intro l;rfl
 | cons x xs ih=>intro l;rw [List.foldl_cons,ih,zqd]
theorem MirS.tell_len {m:MirS}(h:m.cells.length=32) (life:Int) (xs:List CellS):(m.tell life xs).2.cells.length=32:=by
 unfold MirS.tell;repeat' split
 all_goals first|exact h|skip
 all_goals
  simp only [ze1]
  first|exact h|exact zaS
theorem zbf {m:MirS}(h:m.cells.length=32):(zaZ m).length=321:=by
 unfold zaZ;rw [List.length_cons,zas zau,h]

theorem zeg (xs:List CellS):(xs.flatMap zac).take (xs.length * 10)=xs.flatMap zac:=List.take_of_length_le (by rw [zas zau];exact Nat.le_refl _)

section
variable {w : World} {b : Nat} {m : MirS}
theorem zti (hb:Blk w b 340 (zaZ m)) (hm:m.cells.length=32):Slc w 10 zac (fun _=>True) (some ⟨b,1,none⟩) 32 m.cells :=
 Slc.of_blk zau hb hm (by decide) (fun _ _=>trivial) (by simp only [zaZ,List.drop_succ_cons,List.drop_zero];exact zeg _)

theorem zdp {v:Value}{k j o:Nat}{c:CellS}(hc:m.cells[k]?=some c) (hv:(zac c)[j]?=some v) (ho:o=1+(k * 10+j)):(zaZ m)[o]?=some v:=by
 subst ho;rw [Nat.add_comm 1];exact zdG zau hc hv
theorem zbX {vs:List Value}{k j o:Nat}{c c':CellS}(hc:m.cells[k]?=some c) (hn:j+vs.length≤10) (hy:zaO (zac c) j vs=zac c') (ho:o=1+(k * 10+j)):zaO (zaZ m) o vs=zaZ ⟨m.life,m.cells.set k c'⟩:=by
 subst ho;rw [Nat.add_comm 1];unfold zaZ;rw [zgN,zdR zau hc hn hy]

theorem zk3 (life:Int) (w:World):(Instr.build 340 #[(0,.int .i64 life)]).run Tryz.prog w = .ok (.agg (zaZ ⟨life,List.replicate 32 ⟨0,0,zay⟩⟩).toArray) w:=by kernel_rfl
theorem zpJ (w:World):(Instr.build 340 #[]).run Tryz.prog w = .ok (.agg (zaZ ⟨0,List.replicate 32 ⟨0,0,zay⟩⟩).toArray) w:=by kernel_rfl

def zax (k:Nat):List CellS:=(List.range k).map (fun (i:Nat)=>(⟨(i:Int),0,zay⟩:CellS))++List.replicate (32 - k) ⟨0,0,zay⟩
theorem zdz {k:Nat}(h:k≤32):(zax k).length=32:=by simp [zax];omega
theorem zgf {k:Nat}(h:k < 32):(zax k)[k]?=some ⟨0,0,zay⟩:=by
 unfold zax;rw [List.getElem?_append_right (by simp),List.getElem?_replicate];simp;omega
theorem zfB {k:Nat}(h:k < 32):(zax k).set k ⟨(k:Int),0,zay⟩=zax (k+1):=by
 unfold zax;rw [List.set_append_right _ _ (by simp),List.range_succ,List.map_append,List.append_assoc];congr 1;rw [show 32 - k=(32 - (k+1))+1 by omega,List.replicate_succ];simp

theorem zeE:zax 32=emptyCells:=by simp [zax,emptyCells]

theorem zmd (life:Int) (hb:Blk w b 340 (zaZ m)) (hm:m.cells.length=32) :
  CallC Tryz.prog 223 #[.pointer (some ⟨b,0,none⟩),.int .i64 life] w fun v w'=>Ext (· = b) w w'∧Blk w' b 340 (zaZ ⟨life,emptyCells⟩):=by
 obtain ⟨V,hV,hl,h1,hbld⟩:∃ V:List Value,V=zaZ ⟨life,zax 0⟩∧V.length=321∧V.all zcN=true∧∀ w,(Instr.build 340 #[(0,.int .i64 life)]).run Tryz.prog w = .ok (.agg V.toArray) w:=⟨_,rfl,zbf (by simp [zax]),by unfold zaZ;rw [List.all_cons,zdH zau];rfl,zk3 life⟩;refine zaa tabOk Tryz.func223 (by kernel_rfl) rfl Tryz.ntmps223 (lbO rfl) ?_;have hS:=(St.start w (· = b)).add (zab b _ _) hb (by simp [blk];exact hb.lt) (by simp);refine zvr ?_;refine zvf ?_;refine zvt (d:=5) rfl rfl ?_;refine zvt (d:=6) rfl rfl ?_;refine zsm (d:=7) rfl (fun k h=>h) hbld rfl ?_;refine zvH (d:=8) rfl rfl ?_;refine sSt (v:=.agg V.toArray) rfl rfl rfl (by simp [zam,hl]) ?_;refine hS.st 0 rfl (by rw [zbf hm];simp [zam,hl]) (by simpa [zam] using h1) (fun w' hS=>?_)
 have ho:zaO (zaZ m) 0 (zam (.agg V.toArray))=zaZ ⟨life,zax 0⟩:=by
  rw [zfZ (by rw [zbf hm];simp [zam,hl])];simp [zam,hV]
 replace hS:St w (· = b) w' [blk b 340 (zaZ ⟨life,zax 0⟩)]:=by rw [← ho];exact hS
 clear ho hV hl h1 hbld;refine zu2 ?_;(conv=>whnf)
 refine zaL tabOk (fun σ w' q=>∃ k:Nat,σ=[(9,.int .i64 k),(0,.pointer (some ⟨b,0,none⟩))]∧q=32 - k∧k≤32∧St w (· = b) w' [blk b 340 (zaZ ⟨life,zax k⟩)])
  (σ':=[(9,.int .i64 ((0:Nat):Int)),(0,.pointer (some ⟨b,0,none⟩))]) (n:=32) ⟨rfl,rfl,trivial⟩ ⟨0,rfl,rfl,Nat.zero_le _,hS⟩ ?_
 clear hS;rintro _ w1 q ⟨k,rfl,rfl,hk,hS⟩;(conv=>whnf);refine brD (fun h3=>?_) (fun h3=>?_)
 ·have hk:k < 32:=by omega
  have hc:=zgf hk;(conv=>whnf);refine ixO ?_;(conv=>whnf);refine hS.st 0 rfl (by rw [zbf (zdz (by omega))];simp [zam];omega) rfl (fun w' hS=>?_)
  have ho:zaO (zaZ ⟨life,zax k⟩) (0+1+Int.toNat (k:Int) * 10+0) [.int .i64 (k:Int)]=zaZ ⟨life,zax (k+1)⟩:=by
   rw [zbX (k:=k) (j:=0) (c':=⟨(k:Int),0,zay⟩) hc (by simp) rfl (by simp<;>omega)];simp only [zfB hk]
  replace hS:St w (· = b) w' [blk b 340 (zaZ ⟨life,zax (k+1)⟩)]:=by rw [← ho];exact hS
  clear ho;(conv=>whnf);refine rgO ?_;(conv=>whnf);refine LoopE.mk ⟨_,[(9,.int .i64 ((k+1:Nat):Int)),(0,_)],?_,⟨rfl,rfl,trivial⟩,⟨k+1,rfl,rfl,by omega,hS⟩⟩;omega
 ·obtain rfl:k=32:=by omega
  rw [zeE] at hS;repeat' ((conv=>whnf);first|apply RetC.mk|refine rgO ?_|refine ixO ?_|(first|apply brD|apply zad|apply brN|apply brI)<;>(intro))
  exact ⟨hS.ext,hS.blk 0 rfl⟩

theorem zuI (w:World):CallC Tryz.prog 131 #[] w fun v w'=>∃ b,v = .pointer (some ⟨b,0,none⟩)∧w.heap.size≤b∧Ext No w w'∧Blk w' b 340 (zaZ ⟨0,emptyCells⟩):=by
 obtain ⟨V,hV,hl,h1,hbld⟩:∃ V:List Value,V=zaZ ⟨0,zax 0⟩∧V.length=321∧V.all zcN=true∧∀ w,(Instr.build 340 #[]).run Tryz.prog w = .ok (.agg V.toArray) w:=⟨_,rfl,zbf (by simp [zax]),by unfold zaZ;rw [List.all_cons,zdH zau];rfl,zpJ⟩;refine zaa tabOk Tryz.func131 (by kernel_rfl) rfl Tryz.ntmps131 (lbO rfl) ?_;have hS:=St.start w No;refine zvr ?_;refine zvf ?_;refine zvv (d:=0) rfl rfl ?_;refine zu2 ?_;refine zu8 ?_;refine zvr ?_;refine zvf ?_;refine zsm (d:=2) rfl (fun k h=>h) hbld rfl ?_;refine zvK (d:=3) rfl rfl ?_;refine hS.new (fun b w' hb hS=>?_);have ho:zam (.agg V.toArray)=zaZ ⟨0,zax 0⟩:=by simp [zam,hV]
 rw [ho] at hS;clear ho hV hl h1 hbld;refine zvv (d:=1) rfl rfl ?_;refine zu2 ?_;(conv=>whnf);refine (zmd 0 (hS.blk 0 rfl) (zdz (by omega))).mono ?_;rintro v w' ⟨hx,hB⟩;replace hS:=hS.upd 0 rfl hx (fun c hc=>by subst hc;exact List.mem_singleton.2 rfl) (zab _ _ _) hB (fun c hc=>.inl hc);repeat' ((conv=>whnf);first|apply RetC.mk|refine rgO ?_|refine ixO ?_|(first|apply brD|apply zad|apply brN|apply brI)<;>(intro))
 exact ⟨b,rfl,hb,hS.ext,hS.blk 0 rfl⟩

theorem zl1 {G:CellS→Prop}{a:Option Addr}{n c:Nat}{xs:List CellS}(hx:Slc w 10 zac G a n xs) (hn:n≤1000) (ha:a.isSome=true) :
  CallC Tryz.prog 304 #[.slice a n c] w fun v w'=>∃ a' c',v = .slice a' n c'∧Ext No w w'∧(zaf 209 10 zac v xs).holds w'∧∀ g,v.ownBlock=some g→w.heap.size≤g∧g < w'.heap.size:=by
 refine zaa tabOk Tryz.func304 (by kernel_rfl) rfl Tryz.ntmps304 (lbO rfl) ?_;have hS:=St.start w No;(conv=>whnf);refine brF (by cases a<;>simp_all) ?_;(conv=>whnf);refine hS.lit0 Tryz.underlying131 (sz:=10) (by kernel_rfl) (fun b0 w1 hS=>?_);(conv=>whnf);refine hS.appS zau 0 (xs:=[]) Tryz.underlying131 (bytes:=80) (by kernel_rfl) (z:=.agg (zac ⟨0,0,zay⟩).toArray) (by kernel_rfl) rfl rfl (hx.no hS.ext) (by unfold maxLen;simp;omega) (by simp;omega) (fun a' c' w' hS=>?_);repeat' ((conv=>whnf);first|apply RetC.mk|refine rgO ?_|refine ixO ?_|(first|apply brD|apply zad|apply brN|apply brI)<;>(intro))
 have hn0:([]:List CellS).length+n=n:=by simp
 rw [hn0] at hS ⊢
 exact ⟨a',c',rfl,hS.ext,hS.get 0 rfl,fun g hg=>by
  rcases hS.may _ (List.mem_of_getElem? (i:=0) rfl) g (by simpa [zaf,own] using hg) with ⟨h1|h1,h2⟩
  ·exact h1.elim
  ·exact ⟨h1,h2⟩⟩

theorem zqH (hb:Blk w b 340 (zaZ m)) (hm:m.cells.length=32) :
  CallC Tryz.prog 244 #[.pointer (some ⟨b,0,none⟩)] w fun v w'=>∃ a' c',v = .slice a' 32 c'∧Ext No w w'∧(zaf 209 10 zac v m.cells).holds w'∧∀ g,v.ownBlock=some g→w.heap.size≤g∧g < w'.heap.size:=by
 refine zaa tabOk Tryz.func244 (by kernel_rfl) rfl Tryz.ntmps244 (lbO rfl) ?_;(conv=>whnf);refine (zl1 (zti hb hm) (by decide) rfl).mono ?_;rintro v w' ⟨a',c',rfl,h⟩;repeat' ((conv=>whnf);first|apply RetC.mk|refine rgO ?_|refine ixO ?_|(first|apply brD|apply zad|apply brN|apply brI)<;>(intro))
 exact ⟨a',c',rfl,h⟩

theorem zr7 (c:CellS) (w:World):CallC Tryz.prog 331 ([Value.agg (zac c).toArray]++[]).toArray w fun v w'=>v = .bool (zce c)∧Ext No w w':=by
 refine zaa tabOk Tryz.func331 (by kernel_rfl) rfl Tryz.ntmps331 (lbO rfl) ?_;have hS:=St.start w No;(conv=>whnf);refine hS.new (fun b w' hb hS=>?_);repeat' ((conv=>whnf);first|apply RetC.mk|refine rgO ?_|refine ixO ?_|refine hS.ld 0 rfl rfl ?_|(first|apply brD|apply zad|apply brN|apply brI)<;>(intro))
 all_goals refine ⟨?_,hS.ext⟩
 all_goals simp_all [zce]
 all_goals omega

theorem zgD {l:List CellS}{c d:CellS}(h:l[c.slot.toNat]?=some d):zbK l c=if c.ver > d.ver then l.set c.slot.toNat c else l:=by
 unfold zbK;rw [h]
theorem zfx {xs l:List CellS}{k:Nat}{x:CellS}(hx:xs[k]?=some x):(xs.take (k+1)).foldl zbK l=zbK ((xs.take k).foldl zbK l) x:=by
 rw [List.take_add_one,hx,List.foldl_append];rfl

theorem ztH {E:Nat→Addr}{q:Nat}{G:CellS→Prop}{a:Option Addr}{n c:Nat}{xs:List CellS}(life:Int) (hb:Blk w b 340 (zaZ m)) (hm:m.cells.length=32) (hE:Errs w E q [2,10]) (hq:q≤b) (hx:Slc w 10 zac G a n xs) (hsrc:0 < n→∀ b0 o0,a=some ⟨b0,o0,none⟩→b0≠b) :
  CallC Tryz.prog 300 #[.pointer (some ⟨b,0,none⟩),.int .i64 life,.slice a n c] w fun v w'=>v=zc9 E (m.tell life xs).1∧Ext (· = b) w w'∧Blk w' b 340 (zaZ (m.tell life xs).2):=by
 have hmax:=hx.max;have hlen:=hx.len;have hbw:=hb.lt;refine zaa tabOk Tryz.func300 (by kernel_rfl) rfl Tryz.ntmps300 (lbO rfl) ?_;have hS:=(St.start w (· = b)).add (zab b _ _) hb (by simp [blk];exact hb.lt) (by simp);(conv=>whnf);refine (zhl zce _ [] hx (fun x _ _ w' _=>zr7 x w')).mono ?_;rintro v w' ⟨rfl,hx'⟩;replace hS:=hS.no hx';clear hx';cases hany:xs.any zce;all_goals repeat' ((conv=>whnf);first|apply RetC.mk|refine rgO ?_|refine ixO ?_|refine hS.ldr (hE.at_ 2 rfl) (hE.ne 2 rfl hq) ?_|refine hS.ldr (hE.at_ 10 rfl) (hE.ne 10 rfl hq) ?_|refine hS.ld 0 rfl rfl ?_|(refine (zmd life (hS.blk 0 rfl) hm).mono ?_;rintro v w' ⟨hx',hB⟩;replace hS:=hS.upd 0 rfl hx' (fun c hc=>by subst hc;exact List.mem_singleton.2 rfl) (zab _ _ _) hB (fun c hc=>.inl hc))|(first|apply brD|apply zad|apply brN|apply brI)<;>(intro))
 all_goals first|(rw [show m.tell life xs=(2,m) from if_pos (by first|(left;assumption)|(right;left;omega)|(right;right;assumption))];exact ⟨rfl,hS.ext,hS.blk 0 rfl⟩)|skip
 ·rename_i h1 h2 h3
  rw [show m.tell life xs=(10,m) by
   unfold MirS.tell;rw [if_neg (by rintro (h|h|h);omega;omega;simp [hany] at h),if_pos h3]]
  exact ⟨rfl,hS.ext,hS.blk 0 rfl⟩
 ·have hgood:∀ x∈xs,0≤x.slot∧x.slot < 32:=fun x hx=>by
   have:=List.any_eq_false.1 hany x hx;simp [zce] at this;omega
  have htell:m.tell life xs=(0,⟨life,xs.foldl zbK emptyCells⟩):=by
   unfold MirS.tell;rw [if_neg (by rintro (h|h|h);omega;omega;simp [hany] at h),if_neg (show ¬ life < m.life by assumption),if_pos (show life > m.life by assumption),if_pos (show life > m.life by assumption)]
  have hl1:((⟨life,emptyCells⟩:MirS)).cells.length=32:=by first|exact hm|exact zaS
  refine zaL tabOk (fun σ w' q=>∃ k:Nat,σ=[(44,.int .i64 k),(43,.int .i64 n),(42,.slice a n c),(0,.pointer (some ⟨b,0,none⟩))]∧q=n - k∧k≤n∧St w (· = b) w' [blk b 340 (zaZ ⟨((⟨life,emptyCells⟩:MirS)).life,(xs.take k).foldl zbK ((⟨life,emptyCells⟩:MirS)).cells⟩)])
   (σ':=[(44,.int .i64 ((0:Nat):Int)),(43,.int .i64 n),(42,.slice a n c),(0,.pointer (some ⟨b,0,none⟩))]) (n:=n) ⟨rfl,rfl,rfl,rfl,trivial⟩ ⟨0,rfl,rfl,Nat.zero_le _,hS⟩ ?_
  clear hS;rintro _ w1 q ⟨k,rfl,rfl,hk,hS⟩;(conv=>whnf);refine brD (fun h3=>?_) (fun h3=>?_)
  ·obtain ⟨b0,o0,x,hxk,_,rfl,hb0,hc⟩:=hx.at (k:=k) (by omega);have hnb:¬ b0=b:=hsrc (by omega) b0 o0 rfl;have hin:=hgood x (List.mem_of_getElem? hxk);have hlk:((xs.take k).foldl zbK ((⟨life,emptyCells⟩:MirS)).cells).length=32:=by rw [ze1,hl1]
   have hstep:=zfx (l:=((⟨life,emptyCells⟩:MirS)).cells) hxk;generalize hL:(xs.take k).foldl zbK ((⟨life,emptyCells⟩:MirS)).cells=L at hS hlk hstep;obtain ⟨d,hd⟩:∃ d,L[x.slot.toNat]?=some d:=⟨_,List.getElem?_eq_getElem (by omega)⟩;rw [zgD hd] at hstep;(conv=>whnf);refine ixO ?_;(conv=>whnf);refine hS.lar (l:=zac x) rfl hc hnb ?_;(conv=>whnf);refine hS.new (fun bc w' hbc hS=>?_);have hbcb:¬ bc=b:=by omega
   (conv=>whnf);refine hS.st 1 rfl (lbO rfl) rfl (fun w' hS=>?_);replace hS:St w (· = b) w' [blk b 340 (zaZ ⟨((⟨life,emptyCells⟩:MirS)).life,L⟩),blk bc 209 (zac x)]:=hS;(conv=>whnf)
   (refine zah tabOk mixed [] No [0,1,2,3,4,5,6,7,8,9,10] (by kernel_rfl) ?_;rintro w1 rfl;replace hS:=hS.drew)
   repeat' ((conv=>whnf);first|apply RetC.mk|refine rgO ?_|refine ixO ?_|refine hS.ldF 1 rfl rfl id ?_|refine hS.ldF 0 rfl (zdp (k:=x.slot.toNat) (j:=1) hd rfl (by simp<;>omega)) id ?_|(refine zah tabOk mixed [] ((· = b)) [0,1,2,3,4,5,6,7] (by kernel_rfl) ?_;rintro w1 rfl;replace hS:=hS.drew)|(first|apply brD|apply zad|apply brN|apply brI)<;>(intro))
   ·rename_i hv;rw [if_pos hv] at hstep;repeat' ((conv=>whnf);first|refine ixO ?_|refine hS.ldF 1 rfl rfl hbcb ?_|refine hS.laF 1 rfl (l:=zac x) rfl rfl hbcb ?_)
    refine hS.stX 0 rfl (by rw [zbf hlk];simp [zam,zac];omega) rfl (fun w' hx' hS=>?_);refine KeepC.mk hx' ?_;replace hS:=hS.keep 1
    have ho:zaO (zaZ ⟨((⟨life,emptyCells⟩:MirS)).life,L⟩) (0+1+x.slot.toNat * 10) (zam (.agg (zac x).toArray))=zaZ ⟨((⟨life,emptyCells⟩:MirS)).life,(xs.take (k+1)).foldl zbK ((⟨life,emptyCells⟩:MirS)).cells⟩:=by
     rw [zbX (k:=x.slot.toNat) (j:=0) (c':=x) hd (by simp [zam,zac]) rfl (by simp<;>omega),hstep]
    replace hS:St w (· = b) w' [blk b 340 (zaZ ⟨((⟨life,emptyCells⟩:MirS)).life,(xs.take (k+1)).foldl zbK ((⟨life,emptyCells⟩:MirS)).cells⟩)]:=by rw [← ho];exact hS
    (conv=>whnf);refine rgO ?_;(conv=>whnf);refine LoopE.mk ⟨_,[(44,.int .i64 ((k+1:Nat):Int)),(43,_),(42,_),(0,_)],?_,⟨rfl,rfl,rfl,rfl,trivial⟩,⟨k+1,rfl,rfl,by omega,hS⟩⟩;omega
   ·rename_i hv;rw [if_neg hv] at hstep;replace hS:=hS.keep 1;refine LoopE.mk ⟨_,[(44,.int .i64 ((k+1:Nat):Int)),(43,_),(42,_),(0,_)],?_,⟨rfl,rfl,rfl,rfl,trivial⟩,⟨k+1,rfl,rfl,by omega,by rw [hstep];exact hS⟩⟩;omega
  ·obtain rfl:k=n:=by omega
   rw [List.take_of_length_le (by omega)] at hS;repeat' ((conv=>whnf);first|apply RetC.mk|refine rgO ?_|refine ixO ?_|(first|apply brD|apply zad|apply brN|apply brI)<;>(intro))
   rw [htell];exact ⟨rfl,hS.ext,hS.blk 0 rfl⟩
 ·have hgood:∀ x∈xs,0≤x.slot∧x.slot < 32:=fun x hx=>by
   have:=List.any_eq_false.1 hany x hx;simp [zce] at this;omega
  have htell:m.tell life xs=(0,⟨m.life,xs.foldl zbK m.cells⟩):=by
   unfold MirS.tell;rw [if_neg (by rintro (h|h|h);omega;omega;simp [hany] at h),if_neg (show ¬ life < m.life by assumption),if_neg (show ¬ life > m.life by assumption),if_neg (show ¬ life > m.life by assumption)]
  have hl1:(m).cells.length=32:=by first|exact hm|exact zaS
  refine zaL tabOk (fun σ w' q=>∃ k:Nat,σ=[(44,.int .i64 k),(43,.int .i64 n),(42,.slice a n c),(0,.pointer (some ⟨b,0,none⟩))]∧q=n - k∧k≤n∧St w (· = b) w' [blk b 340 (zaZ ⟨(m).life,(xs.take k).foldl zbK (m).cells⟩)])
   (σ':=[(44,.int .i64 ((0:Nat):Int)),(43,.int .i64 n),(42,.slice a n c),(0,.pointer (some ⟨b,0,none⟩))]) (n:=n) ⟨rfl,rfl,rfl,rfl,trivial⟩ ⟨0,rfl,rfl,Nat.zero_le _,hS⟩ ?_
  clear hS;rintro _ w1 q ⟨k,rfl,rfl,hk,hS⟩;(conv=>whnf);refine brD (fun h3=>?_) (fun h3=>?_)
  ·obtain ⟨b0,o0,x,hxk,_,rfl,hb0,hc⟩:=hx.at (k:=k) (by omega);have hnb:¬ b0=b:=hsrc (by omega) b0 o0 rfl;have hin:=hgood x (List.mem_of_getElem? hxk);have hlk:((xs.take k).foldl zbK (m).cells).length=32:=by rw [ze1,hl1]
   have hstep:=zfx (l:=(m).cells) hxk;generalize hL:(xs.take k).foldl zbK (m).cells=L at hS hlk hstep;obtain ⟨d,hd⟩:∃ d,L[x.slot.toNat]?=some d:=⟨_,List.getElem?_eq_getElem (by omega)⟩;rw [zgD hd] at hstep;(conv=>whnf);refine ixO ?_;(conv=>whnf);refine hS.lar (l:=zac x) rfl hc hnb ?_;(conv=>whnf);refine hS.new (fun bc w' hbc hS=>?_);have hbcb:¬ bc=b:=by omega
   (conv=>whnf);refine hS.st 1 rfl (lbO rfl) rfl (fun w' hS=>?_);replace hS:St w (· = b) w' [blk b 340 (zaZ ⟨(m).life,L⟩),blk bc 209 (zac x)]:=hS;(conv=>whnf)
   (refine zah tabOk mixed [] No [0,1,2,3,4,5,6,7,8,9,10] (by kernel_rfl) ?_;rintro w1 rfl;replace hS:=hS.drew)
   repeat' ((conv=>whnf);first|apply RetC.mk|refine rgO ?_|refine ixO ?_|refine hS.ldF 1 rfl rfl id ?_|refine hS.ldF 0 rfl (zdp (k:=x.slot.toNat) (j:=1) hd rfl (by simp<;>omega)) id ?_|(refine zah tabOk mixed [] ((· = b)) [0,1,2,3,4,5,6,7] (by kernel_rfl) ?_;rintro w1 rfl;replace hS:=hS.drew)|(first|apply brD|apply zad|apply brN|apply brI)<;>(intro))
   ·rename_i hv;rw [if_pos hv] at hstep;repeat' ((conv=>whnf);first|refine ixO ?_|refine hS.ldF 1 rfl rfl hbcb ?_|refine hS.laF 1 rfl (l:=zac x) rfl rfl hbcb ?_)
    refine hS.stX 0 rfl (by rw [zbf hlk];simp [zam,zac];omega) rfl (fun w' hx' hS=>?_);refine KeepC.mk hx' ?_;replace hS:=hS.keep 1
    have ho:zaO (zaZ ⟨(m).life,L⟩) (0+1+x.slot.toNat * 10) (zam (.agg (zac x).toArray))=zaZ ⟨(m).life,(xs.take (k+1)).foldl zbK (m).cells⟩:=by
     rw [zbX (k:=x.slot.toNat) (j:=0) (c':=x) hd (by simp [zam,zac]) rfl (by simp<;>omega),hstep]
    replace hS:St w (· = b) w' [blk b 340 (zaZ ⟨(m).life,(xs.take (k+1)).foldl zbK (m).cells⟩)]:=by rw [← ho];exact hS
    (conv=>whnf);refine rgO ?_;(conv=>whnf);refine LoopE.mk ⟨_,[(44,.int .i64 ((k+1:Nat):Int)),(43,_),(42,_),(0,_)],?_,⟨rfl,rfl,rfl,rfl,trivial⟩,⟨k+1,rfl,rfl,by omega,hS⟩⟩;omega
   ·rename_i hv;rw [if_neg hv] at hstep;replace hS:=hS.keep 1;refine LoopE.mk ⟨_,[(44,.int .i64 ((k+1:Nat):Int)),(43,_),(42,_),(0,_)],?_,⟨rfl,rfl,rfl,rfl,trivial⟩,⟨k+1,rfl,rfl,by omega,by rw [hstep];exact hS⟩⟩;omega
  ·obtain rfl:k=n:=by omega
   rw [List.take_of_length_le (by omega)] at hS;repeat' ((conv=>whnf);first|apply RetC.mk|refine rgO ?_|refine ixO ?_|(first|apply brD|apply zad|apply brN|apply brI)<;>(intro))
   rw [htell];exact ⟨rfl,hS.ext,hS.blk 0 rfl⟩

theorem zgc {l:List CellS}{k:Nat}{x:CellS}(hx:l[k]?=some x):zaV (l.take (k+1))=zaV (l.take k)++(if x.f.proto≠0 then [x.f] else []):=by
 rw [List.take_add_one,hx];unfold zaV;rw [List.filter_append,List.map_append];congr 1;by_cases h:x.f.proto=0<;>simp [h]
theorem zcY (l:List CellS):(zaV l).length≤l.length:=by
 unfold zaV;rw [List.length_map];exact List.length_filter_le _ _

theorem zrv (hb:Blk w b 340 (zaZ m)) (hm:m.cells.length=32) :
  CallC Tryz.prog 341 #[.pointer (some ⟨b,0,none⟩)] w fun v w'=>∃ a' c',v = .slice a' (zaV m.cells).length c'∧Ext No w w'∧(zaf 207 8 zai v (zaV m.cells)).holds w'∧zc0 w w' v:=by
 refine zaa tabOk Tryz.func341 (by kernel_rfl) rfl Tryz.ntmps341 (lbO rfl) ?_;have hS:=St.start w No;have hl0:CellsAt w b 1 (m.cells.flatMap zac):=hb.cells (by rw [zas zau];simp only [zaZ,List.drop_succ_cons,List.drop_zero];exact zeg _);(conv=>whnf);refine hS.lar (l:=m.cells.flatMap zac) (by rw [zas zau,hm]) hl0 id ?_;have hS:=hS.add (zaj (e:=207) (enc:=zai) (sz:=8) (v:=.slice none 0 0) (xs:=[])) (zcy _ _ _) (by simp [zaf,own,Value.ownBlock]) (by simp [zaf,own,Value.ownBlock]);(conv=>whnf)
 refine zaL tabOk (fun σ w' q=>∃ (k:Nat) (v:Value),σ=[(10,.int .i64 k),(9,.agg (m.cells.flatMap zac).toArray),(3,v)]∧q=32 - k∧k≤32∧(∃ a' c',v = .slice a' (zaV (m.cells.take k)).length c')∧St w No w' [zaf 207 8 zai v (zaV (m.cells.take k))])
  (σ':=[(10,.int .i64 ((0:Nat):Int)),(9,.agg (m.cells.flatMap zac).toArray),(3,.slice none 0 0)]) (n:=32) ⟨rfl,rfl,rfl,trivial⟩ ⟨0,_,rfl,rfl,Nat.zero_le _,⟨none,0,rfl⟩,hS⟩ ?_
 clear hS;rintro _ w1 q ⟨k,_,rfl,rfl,hk,⟨a',c',rfl⟩,hS⟩;(conv=>whnf);refine brD (fun h3=>?_) (fun h3=>?_)
 ·obtain ⟨x,hxk⟩:∃ x,m.cells[k]?=some x:=⟨_,List.getElem?_eq_getElem (by omega)⟩;have hstep:=zgc hxk;have hlen:=zcY (m.cells.take k);rw [List.length_take] at hlen;(conv=>whnf);refine PureC.of (zkO zau (k:=k) (by rw [hm];exact Tryz.underlying328) (by kernel_rfl) ⟨_,Tryz.underlying209⟩ (by kernel_rfl) (by kernel_rfl) hxk rfl) ?_;(conv=>whnf);refine hS.new (fun bc w' hbc hS=>?_);(conv=>whnf);refine hS.st 1 rfl (lbO rfl) rfl (fun w' hS=>?_);replace hS:St w No w' [zaf 207 8 zai (.slice a' (zaV (m.cells.take k)).length c') (zaV (m.cells.take k)),blk bc 209 (zac x)]:=hS;(conv=>whnf);refine hS.ld 1 rfl rfl ?_;(conv=>whnf);refine zad (fun h4=>?_) (fun h4=>?_)
  ·rw [if_pos h4] at hstep;(conv=>whnf);refine hS.la 1 rfl (l:=zai x.f) rfl rfl ?_;(conv=>whnf);refine hS.lit (cs:=zai x.f) Tryz.underlying129 (sz:=8) (by kernel_rfl) (z:=.agg (zai zay).toArray) (by kernel_rfl) rfl rfl (by rfl) (fun bl w' hbl hS=>?_);(conv=>whnf);refine hS.appS zf2 0 (ys:=[x.f]) (G:=fun _=>True) Tryz.underlying129 (bytes:=64) (by kernel_rfl) (z:=.agg (zai zay).toArray) (by kernel_rfl) rfl rfl (Slc.of_blk zf2 (hS.blk 2 rfl) rfl (by decide) (fun _ _=>trivial) rfl) (by unfold maxLen;omega) (by omega) (fun a2 c2 w' hS=>?_);replace hS:=hS.keep 1;rw [← hstep] at hS;have hl2:(zaV (m.cells.take k)).length+1=(zaV (m.cells.take (k+1))).length:=by rw [hstep];simp
   rw [hl2] at hS ⊢;(conv=>whnf);refine rgO ?_;(conv=>whnf);refine LoopE.mk ⟨_,[(10,.int .i64 ((k+1:Nat):Int)),(9,_),(3,_)],?_,⟨rfl,rfl,rfl,trivial⟩,⟨k+1,_,rfl,rfl,by omega,⟨a2,c2,rfl⟩,hS⟩⟩;omega
  ·rw [if_neg (fun h=>h h4),List.append_nil] at hstep;replace hS:=hS.keep 1;(conv=>whnf);refine rgO ?_;(conv=>whnf);refine LoopE.mk ⟨_,[(10,.int .i64 ((k+1:Nat):Int)),(9,_),(3,_)],?_,⟨rfl,rfl,rfl,trivial⟩,⟨k+1,_,rfl,rfl,by omega,⟨a',c',by rw [hstep]⟩,by rw [hstep];exact hS⟩⟩;omega
 ·obtain rfl:k=32:=by omega
  rw [List.take_of_length_le (by omega)] at hS ⊢;repeat' ((conv=>whnf);first|apply RetC.mk|refine rgO ?_|refine ixO ?_|(first|apply brD|apply zad|apply brN|apply brI)<;>(intro))
  exact ⟨a',c',rfl,hS.ext,hS.get 0 rfl,hS.freshAt 0 rfl⟩
end
end Go.Proofs.YtogjajjdaoihdaaGreatDoor

namespace Go.Proofs.YtogjajjdaoihdaaGreatDoor.Ev
set_option maxRecDepth 20000
open Go

def I64 (n:Int):Prop:=-9223372036854775808≤n∧n≤9223372036854775807
def Pr.ok:Pr→Prop
 | .int n=>I64 n
 | .bool _=>True
 | .str s=>s.size≤maxLen

section
variable {P : Program} {w : World}
theorem zm5 {rec_:TypeId→Option (List PK)}{D:Nat}{cs:List Value}(IH:∀ (t:TypeId) (ks:List PK) (cs:List Value),rec_ t=some ks→P.cellsOf t=ks.length→Shp P w D t cs→∃ ps:List Pr,cs=ps.map Pr.v∧ps.map Pr.k=ks∧∀ p∈ps,p.ok) :
  ∀ (fs:List Field) (off:Nat) (ks:List PK),zgr P rec_ fs off=some ks→(∀ f∈fs,Shp P w D f.type ((cs.drop f.offset).take (P.cellsOf f.type)))→∃ ps:List Pr,(cs.drop off).take ks.length=ps.map Pr.v∧ps.map Pr.k=ks∧∀ p∈ps,p.ok:=by
 intro fs
 induction fs with
 | nil =>
  intro off ks h _;simp only [zgr,Option.some.injEq] at h;subst h;exact ⟨[],by simp,rfl,by simp⟩
 | cons f r ih =>
  intro off ks h hs;unfold zgr at h;split at h
  ·cases h
  ·rename_i hc;simp only [Bool.and_eq_true,bne_iff_ne,ne_eq,beq_iff_eq] at hc;obtain ⟨⟨⟨_,rfl⟩,_⟩,_⟩:=hc;split at h
   ·cases h
   ·rename_i k hk;split at h
    ·cases h
    ·rename_i hcs;simp only [Bool.and_eq_true,Bool.or_eq_true,beq_iff_eq] at hcs;obtain ⟨ks',hr,rfl⟩:=Option.map_eq_some_iff.1 h;obtain ⟨ps,h1,h2,h3⟩:=IH f.type k _ hk hcs.1 (hs f (by simp));obtain ⟨qs,h4,h5,h6⟩:=ih (f.offset+k.length) ks' hr (fun g hg=>hs g (by simp [hg]));refine ⟨ps++qs,?_,by rw [List.map_append,h2,h5],?_⟩
     ·rw [hcs.1] at h1;rw [List.length_append,List.take_add,List.drop_drop,h1,h4,List.map_append]
     ·intro p hp;rcases List.mem_append.1 hp with hp|hp
      ·exact h3 p hp
      ·exact h6 p hp
theorem zme:∀ (d:Nat) (D:Nat) (t:TypeId) (ks:List PK) (cs:List Value),zhX P d t=some ks→d≤D→P.cellsOf t=ks.length→Shp P w D t cs→∃ ps:List Pr,cs=ps.map Pr.v∧ps.map Pr.k=ks∧∀ p∈ps,p.ok:=by
 intro d
 induction d with
 | zero=>intro D t ks cs h;simp [zhX] at h
 | succ d ih =>
  intro D t ks cs h hD hc hs;obtain ⟨D,rfl⟩:∃ D',D=D'+1:=⟨D - 1,by omega⟩;unfold Shp at hs;unfold zhX at h;split at h
  ·rename_i hu;rw [hu] at hs;simp only [Option.some.injEq] at h;subst h;obtain ⟨n,rfl,hw⟩:=hs;refine ⟨[.int n],rfl,rfl,?_⟩;intro p hp;obtain rfl:=List.mem_singleton.1 hp;have h1:IntKind.i64.min = -9223372036854775808:=rfl;have h2:IntKind.i64.max=9223372036854775807:=rfl;simp only [Lit.wf,Bool.and_eq_true,decide_eq_true_eq] at hw;show I64 n;unfold I64;omega
  ·rename_i hu;rw [hu] at hs;simp only [Option.some.injEq] at h;subst h;obtain ⟨n,rfl⟩:=hs;exact ⟨[.bool n],rfl,rfl,by intro p hp;obtain rfl:=List.mem_singleton.1 hp;trivial⟩
  ·rename_i hu;rw [hu] at hs;simp only [Option.some.injEq] at h;subst h;obtain ⟨n,rfl,hn⟩:=hs;exact ⟨[.str n],rfl,rfl,by intro p hp;obtain rfl:=List.mem_singleton.1 hp;exact hn⟩
  ·rename_i fs hu;rw [hu] at hs;split at h
   ·cases h
   ·obtain ⟨hl,hf⟩:=hs
    obtain ⟨ps,h1,h2,h3⟩:=zm5 (w:=w) (D:=D) (cs:=cs) (fun t ks cs h hc hs=>ih D t ks cs h (by omega) hc hs) fs.toList 0 ks h (fun f hf'=>by
     obtain ⟨i,hi⟩:=List.mem_iff_getElem?.1 hf';exact hf i f (by simpa using hi))
    refine ⟨ps,?_,h2,h3⟩;rw [List.drop_zero,List.take_of_length_le (by omega)] at h1;exact h1
  ·cases h

theorem zn2 {e d:Nat}{t:TypeId}{fs:Array Field}{cs:List Value}(he:e=d+1) (hu:P.underlying t=some (.struct fs)) (h:Shp P w e t cs):cs.length=P.cellsOf t∧∀ (i:Nat) (f:Field),fs[i]?=some f→Shp P w d f.type ((cs.drop f.offset).take (P.cellsOf f.type)):=by
 subst he;unfold Shp at h;rw [hu] at h;exact h
theorem zov {e d:Nat}{t u:TypeId}{v:Value}(he:e=d+1) (hu:P.underlying t=some (.slice u)) (h:Shp P w e t [v]):∃ a n c,v = .slice a n c:=by
 subst he;unfold Shp at h;rw [hu] at h;rcases h with h1 | ⟨a,n,c,h1,_⟩
 ·simp only [List.cons.injEq,and_true] at h1;exact ⟨_,_,_,h1⟩
 ·simp only [List.cons.injEq,and_true] at h1;exact ⟨_,_,_,h1⟩
theorem ztt {α:Type}{e d:Nat}{t u:TypeId}{sz:Nat}{enc:α→List Value}{G:α→Prop}{a:Option Addr}{n c:Nat}(he:e=d+1) (hu:P.underlying t=some (.slice u)) (hc:P.cellsOf u=sz) (hsz:0 < sz) (hd:Dec P w d u enc G) (h:Shp P w e t [.slice a n c]):∃ xs,Slc w sz enc G a n xs∧n≤c:=by
 subst he;exact zsp hu hc hsz hd h
theorem zbj {l:List Pr}{k:PK}{ks:List PK}(h:l.map Pr.k=k::ks):∃ p r,l=p::r∧p.k=k∧r.map Pr.k=ks:=by
 cases l with
 | nil=>cases h
 | cons p r =>
  simp only [List.map_cons,List.cons.injEq] at h;exact ⟨p,r,rfl,h.1,h.2⟩
theorem zj1 {l:List Pr}(h:l.map Pr.k=[]):l=[]:=by simpa using h
theorem zi0 {p:Pr}(h:p.k = .int):∃ n,p = .int n:=by cases p<;>simp [Pr.k] at h;exact ⟨_,rfl⟩
theorem zsu {p:Pr}(h:p.k = .bool):∃ n,p = .bool n:=by cases p<;>simp [Pr.k] at h;exact ⟨_,rfl⟩
end
end Go.Proofs.YtogjajjdaoihdaaGreatDoor.Ev

namespace Go.Proofs.YtogjajjdaoihdaaGreatDoor
set_option maxRecDepth 20000
open Go Ev

def CellS.Ok (c:CellS):Prop:=∀ p∈c.pr,p.ok
def c5:CellS:=⟨5,1,⟨1,0,0,0,0,0,0,0⟩⟩

theorem Ev.St.putCell {w0 w:World}{S:Nat→Prop}{H:List Ent}(h:St w0 S w H) (i:Nat) {e:TypeId}{b n c o k:Nat}{xs:List CellS}{d x:CellS}{K:World→Prop}(hi:H[i]?=some (zaf e 10 zac (.slice (some ⟨b,0,none⟩) n c) xs)) (hd:xs[k]?=some d) (ho:o=k * 10)
  (hk:∀ w',Ext (· = b) w w'→St w0 S w' (H.set i (zaf e 10 zac (.slice (some ⟨b,0,none⟩) n c) (xs.set k x)))→K w'):StC w b o (zac x) K:=by
 subst ho;have hlt:=(List.getElem?_eq_some_iff.1 hd).1;refine h.ownX i hi (by rw [zas zau];simp [zac];omega) rfl (fun w' hx hS=>hk w' hx ?_);have e:=zdR zau (k:=k) (j:=0) (y:=x) (vs:=zac x) hd (by simp [zac]) (zfZ (by simp [zac]));rw [Nat.add_zero] at e;rw [e] at hS;unfold zaf;rw [List.length_set];exact hS

theorem zjx (w:World):CallC Tryz.prog 95 #[] w fun v w'=>∃ g c,v = .slice (some ⟨g,0,none⟩) 32 c∧Ext No w w'∧(zaf 209 10 zac v emptyCells).holds w'∧zc0 w w' v:=by
 refine zaa tabOk Tryz.func95 (by kernel_rfl) rfl Tryz.ntmps95 (lbO rfl) ?_;have hS:=St.start w No;have hS:=hS.add (zaj (e:=209) (enc:=zac) (sz:=10) (v:=.slice none 0 0) (xs:=[])) (zcy _ _ _) (by simp [zaf,own,Value.ownBlock]) (by simp [zaf,own,Value.ownBlock]);(conv=>whnf)
 refine zaL tabOk (fun σ w' q=>∃ (k:Nat) (v:Value) (xs:List CellS),σ=[(2,.int .i64 k),(1,v)]∧q=32 - k∧k≤32∧(∃ a' c',v = .slice a' k c')∧xs=emptyCells.take k∧St w No w' [zaf 209 10 zac v xs])
  (σ':=[(2,.int .i64 ((0:Nat):Int)),(1,.slice none 0 0)]) (n:=32) ⟨rfl,rfl,trivial⟩ ⟨0,_,[],rfl,rfl,Nat.zero_le _,⟨none,0,rfl⟩,rfl,hS⟩ ?_
 clear hS;rintro _ w1 q ⟨k,_,xs,rfl,rfl,hk,⟨a',c',rfl⟩,hxs,hS⟩;have hlen:xs.length=k:=by rw [hxs,List.length_take,zaS];omega
 conv=>whnf
 refine brD (fun h3=>?_) (fun h3=>?_)
 ·(conv=>whnf)
  refine hS.lit (cs:=zac ⟨(k:Int),0,zay⟩) Tryz.underlying131 (sz:=10) (by kernel_rfl) (z:=.agg (zac ⟨0,0,zay⟩).toArray) (by kernel_rfl) rfl rfl (by rfl) (fun bl w' hbl hS=>?_);(conv=>whnf);refine hS.appS zau 0 (ys:=[⟨(k:Int),0,zay⟩]) (G:=fun _=>True) Tryz.underlying131 (bytes:=80) (by kernel_rfl) (z:=.agg (zac ⟨0,0,zay⟩).toArray) (by kernel_rfl) rfl rfl (Slc.of_blk zau (hS.blk 1 rfl) rfl (by simp) (fun _ _=>trivial) rfl) (by unfold maxLen;omega) (by omega) (fun a2 c2 w' hS=>?_);replace hS:=hS.keep 1;rw [hlen] at hS ⊢;(conv=>whnf);refine rgO ?_;(conv=>whnf);refine LoopE.mk ⟨_,[(2,.int .i64 ((k+1:Nat):Int)),(1,_)],?_,⟨rfl,rfl,trivial⟩,⟨k+1,_,xs++[(⟨(k:Int),0,zay⟩:CellS)],rfl,rfl,by omega,⟨a2,c2,rfl⟩,?_,hS⟩⟩
  ·omega
  ·rw [List.take_add_one,zeZ (by omega),hxs];rfl
 ·obtain rfl:k=32:=by omega
  rw [List.take_of_length_le (by rw [zaS];exact Nat.le_refl _)] at hxs;subst hxs;repeat' ((conv=>whnf);first|apply RetC.mk|refine rgO ?_|refine ixO ?_|(first|apply brD|apply zad|apply brN|apply brI)<;>(intro))
  obtain ⟨_,⟨_,h⟩ | ⟨g,cap,cur,h,_⟩⟩:=hS.get 0 rfl
  ·rw [zaS] at h;omega
  ·simp only [Value.slice.injEq] at h;obtain ⟨rfl,_,rfl⟩:=h;exact ⟨g,_,rfl,hS.ext,hS.get 0 rfl,hS.freshAt 0 rfl⟩

theorem zfE {w:World}{G:CellS→Prop}{a:Option Addr}{n c:Nat}{xs:List CellS}(hx:Slc w 10 zac G a n xs) (hn:n≤1000) :
  CallC Tryz.prog 59 #[.slice a n c] w fun v w'=>∃ a' c',v = .slice a' (zaV xs).length c'∧Ext No w w'∧(zaf 207 8 zai v (zaV xs)).holds w'∧zc0 w w' v:=by
 have hl:=hx.len;refine zaa tabOk Tryz.func59 (by kernel_rfl) rfl Tryz.ntmps59 (lbO rfl) ?_;have hS:=St.start w No;have hS:=hS.add (zaj (e:=207) (enc:=zai) (sz:=8) (v:=.slice none 0 0) (xs:=[])) (zcy _ _ _) (by simp [zaf,own,Value.ownBlock]) (by simp [zaf,own,Value.ownBlock]);(conv=>whnf)
 refine zaL tabOk (fun σ w' q=>∃ (k:Nat) (v:Value),σ=[(4,.int .i64 k),(3,v),(0,.slice a n c)]∧q=n - k∧k≤n∧(∃ a' c',v = .slice a' (zaV (xs.take k)).length c')∧St w No w' [zaf 207 8 zai v (zaV (xs.take k))])
  (σ':=[(4,.int .i64 ((0:Nat):Int)),(3,.slice none 0 0),(0,.slice a n c)]) (n:=n) ⟨rfl,rfl,rfl,trivial⟩ ⟨0,_,rfl,rfl,Nat.zero_le _,⟨none,0,rfl⟩,hS⟩ ?_
 clear hS;rintro _ w1 q ⟨k,_,rfl,rfl,hk,⟨a',c',rfl⟩,hS⟩;(conv=>whnf);refine brD (fun h3=>?_) (fun h3=>?_)
 ·obtain ⟨b0,o0,x,hxk,_,rfl,_,hc⟩:=hx.at (k:=k) (by omega);have hstep:=zgc hxk;have hlen:=zcY (xs.take k);rw [List.length_take] at hlen;(conv=>whnf);refine ixO ?_;(conv=>whnf);refine hS.ldr (hc.one 2 rfl) id ?_;(conv=>whnf);refine zad (fun h4=>?_) (fun h4=>?_)
  ·rw [if_pos h4] at hstep;(conv=>whnf);refine ixO ?_;(conv=>whnf);refine hS.lar (l:=zai x.f) rfl (hc.sub 2 (l':=zai x.f) rfl) id ?_;(conv=>whnf);refine hS.lit (cs:=zai x.f) Tryz.underlying129 (sz:=8) (by kernel_rfl) (z:=.agg (zai zay).toArray) (by kernel_rfl) rfl rfl (by rfl) (fun bl w' hbl hS=>?_);(conv=>whnf);refine hS.appS zf2 0 (ys:=[x.f]) (G:=fun _=>True) Tryz.underlying129 (bytes:=64) (by kernel_rfl) (z:=.agg (zai zay).toArray) (by kernel_rfl) rfl rfl (Slc.of_blk zf2 (hS.blk 1 rfl) rfl (by simp) (fun _ _=>trivial) rfl) (by unfold maxLen;omega) (by omega) (fun a2 c2 w' hS=>?_);replace hS:=hS.keep 1;rw [← hstep] at hS;have hl2:(zaV (xs.take k)).length+1=(zaV (xs.take (k+1))).length:=by rw [hstep];simp
   rw [hl2] at hS ⊢;(conv=>whnf);refine rgO ?_;(conv=>whnf);refine LoopE.mk ⟨_,[(4,.int .i64 ((k+1:Nat):Int)),(3,_),(0,_)],?_,⟨rfl,rfl,rfl,trivial⟩,⟨k+1,_,rfl,rfl,by omega,⟨a2,c2,rfl⟩,hS⟩⟩;omega
  ·rw [if_neg (fun h=>h h4),List.append_nil] at hstep;(conv=>whnf);refine rgO ?_;(conv=>whnf);refine LoopE.mk ⟨_,[(4,.int .i64 ((k+1:Nat):Int)),(3,_),(0,_)],?_,⟨rfl,rfl,rfl,trivial⟩,⟨k+1,_,rfl,rfl,by omega,⟨a',c',by rw [hstep]⟩,by rw [hstep];exact hS⟩⟩;omega
 ·obtain rfl:k=n:=by omega
  rw [List.take_of_length_le (by omega)] at hS ⊢;repeat' ((conv=>whnf);first|apply RetC.mk|refine rgO ?_|refine ixO ?_|(first|apply brD|apply zad|apply brN|apply brI)<;>(intro))
  exact ⟨a',c',rfl,hS.ext,hS.get 0 rfl,hS.freshAt 0 rfl⟩

def zjz (bm g c:Nat) (m:MirS):Ent:=⟨[bm,g],fun w=>bm≠g∧Blk w bm 135 [.int .i64 m.life,.slice (some ⟨g,0,none⟩) 32 c]∧(zaf 209 10 zac (.slice (some ⟨g,0,none⟩) 32 c) m.cells).holds w⟩
theorem zia {bm g c:Nat}{m:MirS}:(zjz bm g c m).Local:=fun w w' h ⟨h1,h2,h3⟩ =>
 ⟨h1,zab bm _ _ w w' (fun b hb=>h b (by simp [blk] at hb;simp [zjz,hb])) h2,zaj w w' (fun b hb=>h b (by simp [zaf,own,Value.ownBlock] at hb;simp [zjz,hb])) h3⟩
theorem zmC {w:World}{g n c:Nat}{e:TypeId}{xs:List CellS}(h:(zaf e 10 zac (.slice (some ⟨g,0,none⟩) n c) xs).holds w):g < w.heap.size:=by
 obtain ⟨_,⟨h1,_⟩ | ⟨g',cap,cur,h1,_,h2,_⟩⟩:=h
 ·cases h1
 ·cases h1;exact (Array.getElem?_eq_some_iff.1 h2).1

theorem znl {w:World}{bm g cap:Nat}{m:MirS}{G:CellS→Prop}{a:Option Addr}{n c:Nat}{xs:List CellS}(life:Int) (hM:(zjz bm g cap m).holds w) (hm:m.cells.length=32) (hx:Slc w 10 zac G a n xs) (hsrc:0 < n→∀ b0 o0,a=some ⟨b0,o0,none⟩→b0≠bm∧b0≠g) :
  CallC Tryz.prog 189 #[.pointer (some ⟨bm,0,none⟩),.int .i64 life,.slice a n c] w fun v w'=>∃ g' c',v = .int .i64 (m.tell life xs).1∧Ext (fun b=>b=bm∨b=g) w w'∧(zjz bm g' c' (m.tell life xs).2).holds w'∧(g'=g∨(w.heap.size≤g'∧g' < w'.heap.size)):=by
 obtain ⟨hbg,hB0,hO0⟩:=hM;have hmax:=hx.max;have hlen:=hx.len;have hbl:=hB0.lt;have hgl:=zmC hO0;refine zaa tabOk Tryz.func189 (by kernel_rfl) rfl Tryz.ntmps189 (lbO rfl) ?_;have hS:=(St.start w (fun b=>b=bm∨b=g)).add (zab bm _ _) hB0 (by simp [blk];exact hbl) (by simp);replace hS:=hS.add zaj hO0 (by simp [zaf,own,Value.ownBlock];exact hgl) (by simp [zaf,own,Value.ownBlock,blk];exact hbg)
 have done:∀ {k:Nat} {w':World} {H:List Ent},m.tell life xs=(k,m)→St w (fun b=>b=bm∨b=g) w' ([]++[blk bm 135 [.int .i64 m.life,.slice (some ⟨g,0,none⟩) 32 cap]]++[zaf 209 10 zac (.slice (some ⟨g,0,none⟩) 32 cap) m.cells]++H) →
   ∃ g' c',Value.int .i64 k = .int .i64 (m.tell life xs).1∧Ext (fun b=>b=bm∨b=g) w w'∧(zjz bm g' c' (m.tell life xs).2).holds w'∧(g'=g∨(w.heap.size≤g'∧g' < w'.heap.size)):=by
  intro k w' H ht hS;rw [ht];exact ⟨g,cap,rfl,hS.ext,⟨hbg,hS.get 0 rfl,hS.get 1 rfl⟩,.inl rfl⟩
 conv=>whnf
 refine brD (fun h1=>?_) (fun h1=>?_)
 ·repeat' ((conv=>whnf);first|apply RetC.mk|refine rgO ?_|refine ixO ?_|(first|apply brD|apply zad|apply brN|apply brI)<;>(intro))
  exact done (H:=[]) (if_pos (.inl h1)) (by simpa using hS)
 conv=>whnf
 refine brD (fun h2=>?_) (fun h2=>?_)
 ·repeat' ((conv=>whnf);first|apply RetC.mk|refine rgO ?_|refine ixO ?_|(first|apply brD|apply zad|apply brN|apply brI)<;>(intro))
  exact done (H:=[]) (if_pos (.inr (.inl (by omega)))) (by simpa using hS)
 conv=>whnf
 refine zaL tabOk (fun σ w' q=>∃ k:Nat,σ=[(7,.int .i64 k),(2,.slice a n c),(1,.int .i64 life),(0,.pointer (some ⟨bm,0,none⟩))]∧q=n - k∧k≤n∧St w (fun b=>b=bm∨b=g) w' [blk bm 135 [.int .i64 m.life,.slice (some ⟨g,0,none⟩) 32 cap],zaf 209 10 zac (.slice (some ⟨g,0,none⟩) 32 cap) m.cells]∧∀ q d,q < k→xs[q]?=some d→zce d=false)
  (σ':=[(7,.int .i64 ((0:Nat):Int)),(2,.slice a n c),(1,.int .i64 life),(0,.pointer (some ⟨bm,0,none⟩))]) (n:=n) ⟨rfl,rfl,rfl,rfl,trivial⟩ ⟨0,rfl,rfl,Nat.zero_le _,hS,fun q d h=>by omega⟩ ?_
 clear hS;rintro _ w1 q ⟨k,rfl,rfl,hk,hS,hv⟩;(conv=>whnf);refine brD (fun h3=>?_) (fun h3=>?_)
 ·obtain ⟨b0,o0,x,hxk,_,rfl,hb0,hc⟩:=hx.at (k:=k) (by omega);obtain ⟨hnb,hng⟩:=hsrc (by omega) b0 o0 rfl;have hc0:=hc.one 0 rfl;have hns:¬ (b0=bm∨b0=g):=by rintro (h|h);exact hnb h;exact hng h
  repeat' ((conv=>whnf);first|apply RetC.mk|refine rgO ?_|refine ixO ?_|refine hS.ldr hc0 hns ?_|(first|apply brD|apply zad|apply brN|apply brI)<;>(intro))
  ·exact done (H:=[]) (if_pos (.inr (.inr (List.any_eq_true.2 ⟨x,List.mem_of_getElem? hxk,by simp [zce];omega⟩)))) (by simpa using hS)
  ·exact done (H:=[]) (if_pos (.inr (.inr (List.any_eq_true.2 ⟨x,List.mem_of_getElem? hxk,by simp [zce];omega⟩)))) (by simpa using hS)
  ·refine LoopE.mk ⟨_,[(7,.int .i64 ((k+1:Nat):Int)),(2,_),(1,_),(0,_)],?_,⟨rfl,rfl,rfl,rfl,trivial⟩,⟨k+1,rfl,rfl,by omega,hS,?_⟩⟩
   ·omega
   ·intro q d hq hd;rcases Nat.lt_or_eq_of_le (Nat.le_of_lt_succ hq) with hq|rfl
    ·exact hv q d hq hd
    ·rw [hxk] at hd;cases hd;simp [zce];omega
 have hany:xs.any zce=false:=List.any_eq_false.2 fun x hx=>by
  obtain ⟨q,hq⟩:=List.mem_iff_getElem?.1 hx;have:=(List.getElem?_eq_some_iff.1 hq).1;rw [hv q x (by omega) hq];simp
 have hgood:∀ x∈xs,0≤x.slot∧x.slot < 32:=fun x hx=>by
  have:=List.any_eq_false.1 hany x hx;simp [zce] at this;omega
 clear hv h3;(conv=>whnf);refine hS.ld 0 rfl rfl ?_;(conv=>whnf);refine brD (fun h4=>?_) (fun h4=>?_)
 ·repeat' ((conv=>whnf);first|apply RetC.mk|refine rgO ?_|refine ixO ?_|(first|apply brD|apply zad|apply brN|apply brI)<;>(intro))
  exact done (H:=[]) (k:=10) (by
   unfold MirS.tell;rw [if_neg (by rintro (h|h|h);omega;omega;simp [hany] at h),if_pos h4]) (by simpa using hS)
 clear done;(conv=>whnf);refine hS.ld 0 rfl rfl ?_;(conv=>whnf);refine brD (fun h5=>?_) (fun h5=>?_)
 ·have htell:m.tell life xs=(0,⟨life,xs.foldl zbK emptyCells⟩):=by
   unfold MirS.tell;rw [if_neg (by rintro (h|h|h);omega;omega;simp [hany] at h),if_neg h4,if_pos h5,if_pos h5]
  have hl1:=zaS;(conv=>whnf);refine hS.st 0 rfl (lbO rfl) rfl (fun w' hS=>?_);(conv=>whnf);have hsz:=hS.ext.size;refine (zjx _).mono ?_;rintro v w' ⟨g1,c1,rfl,hx',hO,hF⟩;replace hS:=hS.madeL hx' hO hF;obtain ⟨f1,f2⟩:=hF g1 rfl;(conv=>whnf);refine hS.st 0 rfl (lbO rfl) rfl (fun w' hS=>?_);replace hS:=hS.weaken (H':=[blk bm 135 [.int .i64 life,.slice (some ⟨g1,0,none⟩) 32 c1],zaf 209 10 zac (.slice (some ⟨g1,0,none⟩) 32 c1) emptyCells]) (.cons_cons _ (.cons _ (List.Sublist.refl _)));have hg1:w.heap.size≤g1:=by omega
  have hbg1:bm≠g1:=by omega
  (conv=>whnf)
  refine zaL tabOk (fun σ w' q=>∃ k:Nat,σ=[(8,.int .i64 k),(2,.slice a n c),(0,.pointer (some ⟨bm,0,none⟩))]∧q=n - k∧k≤n∧St w (fun b=>b=bm∨b=g) w' [blk bm 135 [.int .i64 life,.slice (some ⟨g1,0,none⟩) 32 c1],zaf 209 10 zac (.slice (some ⟨g1,0,none⟩) 32 c1) ((xs.take k).foldl zbK emptyCells)])
   (σ':=[(8,.int .i64 ((0:Nat):Int)),(2,.slice a n c),(0,.pointer (some ⟨bm,0,none⟩))]) (n:=n) ⟨rfl,rfl,rfl,trivial⟩ ⟨0,rfl,rfl,Nat.zero_le _,hS⟩ ?_
  clear hS;rintro _ w1 q ⟨k,rfl,rfl,hk,hS⟩;(conv=>whnf);refine brD (fun h3=>?_) (fun h3=>?_)
  ·obtain ⟨b0,o0,x,hxk,_,rfl,hb0,hc⟩:=hx.at (k:=k) (by omega);obtain ⟨hnb,hng⟩:=hsrc (by omega) b0 o0 rfl;have hngg:b0≠g1:=by first|exact hng|omega
   have hin:=hgood x (List.mem_of_getElem? hxk);have hlk:((xs.take k).foldl zbK emptyCells).length=32:=by rw [ze1,hl1]
   have hstep:=zfx (l:=emptyCells) hxk;generalize hL:(xs.take k).foldl zbK emptyCells=L at hS hlk hstep;obtain ⟨d,hd⟩:∃ d,L[x.slot.toNat]?=some d:=⟨_,List.getElem?_eq_getElem (by omega)⟩;rw [zgD hd] at hstep;have hsl:=zap (G:=fun _=>True) zau (hS.get 1 rfl) fun _ _=>trivial
   obtain ⟨_,_,d',hd',_,hg',_,hcd⟩:=hsl.at (k:=x.slot.toNat) (by omega);cases hg';rw [hd] at hd';cases hd';have hcx:=hc;have hsrcL:∀ {w2:World},Ext (fun b=>b=bm∨b=g) w w2→CellsAt w2 b0 (o0+k * 10) (zac x):=fun h=>h.cells hc (by rintro (h|h);exact hnb h;exact hng h)
   conv=>whnf
   (refine zah tabOk mixed [] No [0,1,2,3,4,5,6,7,8,9,10,11,12,13,14,15,16,17] (by kernel_rfl) ?_;rintro w1 rfl;replace hS:=hS.drew)
   repeat' ((conv=>whnf);first|apply RetC.mk|refine rgO ?_|refine ixO ?_|refine ldFc ((hsrcL hS.ext).one 1 rfl) id ?_|refine ldFc ((hsrcL hS.ext).one 0 rfl) id ?_|refine hS.ldF 0 rfl rfl id ?_|refine ldFc (hcd.one 1 rfl) id ?_|(refine zah tabOk mixed [] ((· = g1)) [0,1,2,3,4,5,6,7,8,9,10,11,12,13,14] (by kernel_rfl) ?_;rintro w1 rfl;replace hS:=hS.drew)|(first|apply brD|apply zad|apply brN|apply brI)<;>(intro))
   ·rename_i hv;rw [if_pos hv] at hstep;repeat' ((conv=>whnf);first|refine ixO ?_|refine hS.ldF 0 rfl rfl hbg1 ?_|refine ldFc ((hsrcL hS.ext).one 0 rfl) hngg ?_|refine laFc (l:=zac x) rfl (hsrcL hS.ext) hngg ?_)
    refine hS.putCell 1 rfl hd (by simp) (fun w' hx' hS=>?_);refine KeepC.mk hx' ?_;rw [← hstep] at hS;(conv=>whnf);refine rgO ?_;(conv=>whnf);refine LoopE.mk ⟨_,[(8,.int .i64 ((k+1:Nat):Int)),(2,_),(0,_)],?_,⟨rfl,rfl,rfl,trivial⟩,⟨k+1,rfl,rfl,by omega,hS⟩⟩;omega
   ·rename_i hv;rw [if_neg hv] at hstep;refine LoopE.mk ⟨_,[(8,.int .i64 ((k+1:Nat):Int)),(2,_),(0,_)],?_,⟨rfl,rfl,rfl,trivial⟩,⟨k+1,rfl,rfl,by omega,by rw [hstep];exact hS⟩⟩;omega
  ·obtain rfl:k=n:=by omega
   rw [List.take_of_length_le (by omega)] at hS;repeat' ((conv=>whnf);first|apply RetC.mk|refine rgO ?_|refine ixO ?_|(first|apply brD|apply zad|apply brN|apply brI)<;>(intro))
   rw [htell];exact ⟨g1,c1,rfl,hS.ext,⟨hbg1,hS.get 0 rfl,hS.get 1 rfl⟩,.inr ⟨hg1,zmC (hS.get 1 rfl)⟩⟩
 ·have htell:m.tell life xs=(0,⟨m.life,xs.foldl zbK m.cells⟩):=by
   unfold MirS.tell;rw [if_neg (by rintro (h|h|h);omega;omega;simp [hany] at h),if_neg h4,if_neg h5,if_neg h5]
  have hl1:=hm;(conv=>whnf)
  refine zaL tabOk (fun σ w' q=>∃ k:Nat,σ=[(8,.int .i64 k),(2,.slice a n c),(0,.pointer (some ⟨bm,0,none⟩))]∧q=n - k∧k≤n∧St w (fun b=>b=bm∨b=g) w' [blk bm 135 [.int .i64 m.life,.slice (some ⟨g,0,none⟩) 32 cap],zaf 209 10 zac (.slice (some ⟨g,0,none⟩) 32 cap) ((xs.take k).foldl zbK m.cells)])
   (σ':=[(8,.int .i64 ((0:Nat):Int)),(2,.slice a n c),(0,.pointer (some ⟨bm,0,none⟩))]) (n:=n) ⟨rfl,rfl,rfl,trivial⟩ ⟨0,rfl,rfl,Nat.zero_le _,hS⟩ ?_
  clear hS;rintro _ w1 q ⟨k,rfl,rfl,hk,hS⟩;(conv=>whnf);refine brD (fun h3=>?_) (fun h3=>?_)
  ·obtain ⟨b0,o0,x,hxk,_,rfl,hb0,hc⟩:=hx.at (k:=k) (by omega);obtain ⟨hnb,hng⟩:=hsrc (by omega) b0 o0 rfl;have hngg:b0≠g:=by first|exact hng|omega
   have hin:=hgood x (List.mem_of_getElem? hxk);have hlk:((xs.take k).foldl zbK m.cells).length=32:=by rw [ze1,hl1]
   have hstep:=zfx (l:=m.cells) hxk;generalize hL:(xs.take k).foldl zbK m.cells=L at hS hlk hstep;obtain ⟨d,hd⟩:∃ d,L[x.slot.toNat]?=some d:=⟨_,List.getElem?_eq_getElem (by omega)⟩;rw [zgD hd] at hstep;have hsl:=zap (G:=fun _=>True) zau (hS.get 1 rfl) fun _ _=>trivial
   obtain ⟨_,_,d',hd',_,hg',_,hcd⟩:=hsl.at (k:=x.slot.toNat) (by omega);cases hg';rw [hd] at hd';cases hd';have hcx:=hc;have hsrcL:∀ {w2:World},Ext (fun b=>b=bm∨b=g) w w2→CellsAt w2 b0 (o0+k * 10) (zac x):=fun h=>h.cells hc (by rintro (h|h);exact hnb h;exact hng h)
   conv=>whnf
   (refine zah tabOk mixed [] No [0,1,2,3,4,5,6,7,8,9,10,11,12,13,14,15,16,17] (by kernel_rfl) ?_;rintro w1 rfl;replace hS:=hS.drew)
   repeat' ((conv=>whnf);first|apply RetC.mk|refine rgO ?_|refine ixO ?_|refine ldFc ((hsrcL hS.ext).one 1 rfl) id ?_|refine ldFc ((hsrcL hS.ext).one 0 rfl) id ?_|refine hS.ldF 0 rfl rfl id ?_|refine ldFc (hcd.one 1 rfl) id ?_|(refine zah tabOk mixed [] ((· = g)) [0,1,2,3,4,5,6,7,8,9,10,11,12,13,14] (by kernel_rfl) ?_;rintro w1 rfl;replace hS:=hS.drew)|(first|apply brD|apply zad|apply brN|apply brI)<;>(intro))
   ·rename_i hv;rw [if_pos hv] at hstep;repeat' ((conv=>whnf);first|refine ixO ?_|refine hS.ldF 0 rfl rfl hbg ?_|refine ldFc ((hsrcL hS.ext).one 0 rfl) hngg ?_|refine laFc (l:=zac x) rfl (hsrcL hS.ext) hngg ?_)
    refine hS.putCell 1 rfl hd (by simp) (fun w' hx' hS=>?_);refine KeepC.mk hx' ?_;rw [← hstep] at hS;(conv=>whnf);refine rgO ?_;(conv=>whnf);refine LoopE.mk ⟨_,[(8,.int .i64 ((k+1:Nat):Int)),(2,_),(0,_)],?_,⟨rfl,rfl,rfl,trivial⟩,⟨k+1,rfl,rfl,by omega,hS⟩⟩;omega
   ·rename_i hv;rw [if_neg hv] at hstep;refine LoopE.mk ⟨_,[(8,.int .i64 ((k+1:Nat):Int)),(2,_),(0,_)],?_,⟨rfl,rfl,rfl,trivial⟩,⟨k+1,rfl,rfl,by omega,by rw [hstep];exact hS⟩⟩;omega
  ·obtain rfl:k=n:=by omega
   rw [List.take_of_length_le (by omega)] at hS;repeat' ((conv=>whnf);first|apply RetC.mk|refine rgO ?_|refine ixO ?_|(first|apply brD|apply zad|apply brN|apply brI)<;>(intro))
   rw [htell];exact ⟨g,cap,rfl,hS.ext,⟨hbg,hS.get 0 rfl,hS.get 1 rfl⟩,.inl rfl⟩
end Go.Proofs.YtogjajjdaoihdaaGreatDoor
