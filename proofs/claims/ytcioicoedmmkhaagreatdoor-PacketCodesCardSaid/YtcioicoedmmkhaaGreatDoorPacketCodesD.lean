/-
  Texts of this claim, joined: RefPktB, RefPktC, PolicyLaw, LawS, PacketReads, PacketCodes.
-/
import Derived.Test.YtcioicoedmmkhaaGreatDoorPacketCodesC
import Derived.Shelf.Vars
import Derived.Lay
import Derived.LaidHandle

namespace Go.Proofs.YtcioicoedmmkhaaGreatDoor
open Go Ev
end Go.Proofs.YtcioicoedmmkhaaGreatDoor

namespace Go.Proofs.YtcioicoedmmkhaaGreatDoor
open Go Ev
end Go.Proofs.YtcioicoedmmkhaaGreatDoor

namespace Go.Proofs.YtcioicoedmmkhaaGreatDoor
open Go Ev

def RuleS.I (r : RuleS) : Prop := I64 r.proto ∧ I64 r.low ∧ I64 r.top
def PktS.I (p : PktS) : Prop := I64 p.proto ∧ I64 p.sa ∧ I64 p.sp ∧ I64 p.da ∧ I64 p.dp ∧ I64 p.flags
theorem pkt_of {ps : List Pr} (hk : ps.map Pr.k = [.int, .int, .int, .int, .int, .int]) (hok : ∀ p ∈ ps, p.ok) : ∃ r : PktS, ps.map Pr.v = encPkt r ∧ r.I := by
  obtain ⟨p1, r, rfl, g1, hk⟩ := kinds_cons hk
  obtain ⟨p2, r, rfl, g2, hk⟩ := kinds_cons hk
  obtain ⟨p3, r, rfl, g3, hk⟩ := kinds_cons hk
  obtain ⟨p4, r, rfl, g4, hk⟩ := kinds_cons hk
  obtain ⟨p5, r, rfl, g5, hk⟩ := kinds_cons hk
  obtain ⟨p6, r, rfl, g6, hk⟩ := kinds_cons hk
  obtain rfl := kinds_nil hk
  obtain ⟨n1, rfl⟩ := k_int g1
  obtain ⟨n2, rfl⟩ := k_int g2
  obtain ⟨n3, rfl⟩ := k_int g3
  obtain ⟨n4, rfl⟩ := k_int g4
  obtain ⟨n5, rfl⟩ := k_int g5
  obtain ⟨n6, rfl⟩ := k_int g6
  exact ⟨⟨n1, n2, n3, n4, n5, n6⟩, rfl, hok (.int n1) (by simp), hok (.int n2) (by simp), hok (.int n3) (by simp), hok (.int n4) (by simp), hok (.int n5) (by simp), hok (.int n6) (by simp)⟩
theorem arg_pkt {W : World} {v : Value} (h : ArgOk Tryz.prog W 26 v) : ∃ r : PktS, v = .agg (encPkt r).toArray ∧ r.I := by
  obtain ⟨ps, rfl, hk, hok⟩ := arg_flat Tryz.underlying26 (by kernel_rfl : flatK Tryz.prog 10 26 = some [.int, .int, .int, .int, .int, .int]) (by kernel_rfl) h
  obtain ⟨r, hr, hI⟩ := pkt_of hk hok
  exact ⟨r, by rw [hr], hI⟩

end Go.Proofs.YtcioicoedmmkhaaGreatDoor

namespace Go.Proofs.YtcioicoedmmkhaaGreatDoor.Ev
open Go Go.ChangeShapes Go.WideShapes Go.ChangeAt Go.RowKit

theorem laidMetH_layVars {P : Program} {w0 w' : World} {L : List (String × DataW Unit)} {fuel : Nat}
    (hh : w'.heap = (w0.layVars P (L.filter fun x => x.2.handleName?.isNone)).heap)
    (hf : w0.layFits P (L.filter fun x => x.2.handleName?.isNone) [] = true)
    (hi : w0.layIfaces P (L.filter fun x => x.2.handleName?.isNone) w' = true)
    (hH : (L.filter fun x => x.2.handleName?.isSome && x.2.funcsIn?.isNone).all (handleAtB P w') = true)
    (hF : funcsRun P w' fuel ((funcsListed L).map (·.1)) = some ((funcsListed L).map (·.2.funcsOut))) : laidMetH P L w' := by
  refine laidMetH_of_parts3 (fuel := fuel) ?_ hH hF
  generalize (L.filter fun x => x.2.handleName?.isNone) = laid at hh hf hi ⊢
  have e1 : (laid.filter fun x => (laid.map (·.1)).contains x.1) = laid := List.filter_eq_self.2 fun x hx => List.contains_iff_mem.2 (List.mem_map.2 ⟨x, hx, rfl⟩)
  have e2 : (laid.filter fun x => !(laid.map (·.1)).contains x.1) = [] := List.filter_eq_nil_iff.2 fun x hx => by rw [List.contains_iff_mem.2 (List.mem_map.2 ⟨x, hx, rfl⟩)]; simp
  exact laidMet_layVars (w0 := w0) (laid.map (·.1)) [] (by rw [e1]; exact hh) (by rw [e1]; exact hf) (by rw [e1]; exact hi) (by rw [e2]; exact LaidIn.none)
theorem law_liftedS {C : Checked} {f : FuncId} {fn : Func} {s : ChangeSpec} {tb : TypeId} (L : List (String × DataW Unit)) (os : Os) (started : os.Started) (H : Type) (enc : TypeId × Value → H)
    (own : ownKnob C.prog.godebug = none) (hbody : fn.body.isNone = false) (noInit : C.prog.inits.idxOf? f = none) (hfn : C.prog.funcs[f]? = some fn) (hvars : s.vars = [])
    (hs : ∀ ds : List (DataW H), ds.length = fn.params.toList.length → (s.fn H (ds ++ [])).results = [.lit (.bool true)] ∧ (s.fn H (ds ++ [])).args = ds ∧ (s.fn H (ds ++ [])).vars = [])
    (hres : fn.resultTypes = #[tb]) (hbool : C.prog.underlying tb = some .bool) (hlaid : laidOutB C.prog = true) (hread : (fn.params.toList.all fun t => C.prog.readableRec t && decide (t < C.prog.types.size)) = true)
    (witness : ∃ (w : World) (tape : Tape) (i : Input), w.os = os ∧ (w.forCall tape i).Shaped C.prog ∧ i.vars = [] ∧ Input.okWide C.prog (w.forCall tape i) .any w.heap.size f i ∧
      ((s.pre enc C.prog fn [] false (w.forCall tape i).memory i.args ∧ laidMetH C.prog L (w.forCall tape i).memory) ∧ sizedMet enc C.prog fn (OpenSpec.ofChange s) false (w.forCall tape i).memory i.args) ∧ ({} : Assume).holds C.prog (lone (Frame.enter C.prog f i.args .normal) [] (w.forCall tape i)))
    (walk : ∀ (W : World) (args : List Value), W.ShapedOpen C.prog → ArgsOk C.prog W fn.params.toList args → laidMetH C.prog L W → CallC C.prog f args.toArray W fun v w' => v = .bool true ∧ Ext No W w') :
    ReturnsInHanded {} C os f .any (fun w args => (s.pre enc C.prog fn [] false w args ∧ laidMetH C.prog L w) ∧ sizedMet enc C.prog fn (OpenSpec.ofChange s) false w args) (s.post enc C.prog fn false true false false) := by
  refine returnsInHanded_of_calls own started noInit witness ?_
  intro w tape i _ hsh _ hok hpre _
  obtain ⟨_, _, _, fn', hfn', _, _, _, _, hval⟩ := hok
  obtain rfl : fn' = fn := Option.some.inj (hfn'.symm.trans hfn)
  obtain ⟨⟨⟨ds, gs, before, hw, _⟩, hx⟩, _⟩ := hpre
  have hW := DataW.Whole.of_heap (w' := w.forCall tape i) (by rfl) hw
  have hL : laidMetH C.prog L (w.forCall tape i) := hx.of_heap (by rfl)
  generalize w.forCall tape i = W at hval hW hL hsh ⊢
  generalize w.heap.size = base at hval
  generalize i.args = args at hval hW ⊢
  have goal : Calls C.prog f args W fun e W' => ∃ v, e = .returned v ∧ s.post enc C.prog fn' false true false false W args v W' := by
    have hW' := hW
    obtain ⟨p, q, hA, hV, rfl, hfz, hnd⟩ := hW
    rw [hvars] at hV
    obtain ⟨rfl, rfl⟩ := trodVars_none hV
    have hok := argsOk_of fn'.params.toList args.toList ds p (fun j t v ht hv => hval j t v (by simpa using ht) (by simpa using hv)) hA
    have hlen : ds.length = fn'.params.toList.length := by
      have : ∀ (ts : List TypeId) (vs : List Value) (ds : List (DataW H)) (ps : List MemPlace), DataW.TrodAll enc C.prog W 0 (fun _ => true) true ts vs ds ps → ds.length = ts.length := by
        intro ts
        induction ts with
        | nil => intro vs ds ps h; cases vs <;> cases ds <;> simp_all [DataW.TrodAll]
        | cons t ts ih =>
          intro vs ds ps h
          obtain ⟨v, vs', d, ds', p, q, rfl, rfl, rfl, h1, h2⟩ := trodAll_cons h
          simp [ih _ _ _ h2]
      exact this _ _ _ _ hA
    have hc := (walk W args.toList hsh hok hL).calls hfn hbody
    rw [Array.toArray_toList] at hc
    refine hc.mono fun e W' ⟨v, he, hv, hext⟩ => ?_
    subst he hv
    obtain ⟨e1, e2, e3⟩ := hs ds hlen
    have hlt : ∀ x ∈ p, x.block < W.heap.size := fun x hx => hW'.lt x (by simpa using hx)
    refine ⟨_, rfl, ds, [], p ++ [], [], p, [], hW', ?_, ?_, ?_, hext.below.frame _, fun h => by cases h⟩
    · rw [e1, hres]
      exact trodAll_mk1 (shut_bool hbool true)
    · rw [e2]
      exact trodAll_ext hlaid hext.below _ _ _ _ hread hA hlt
    · rw [hvars, e3]
      rfl
  refine goal.mono fun e W' ⟨v, he, hp⟩ => ?_
  subst he
  exact ChangeSpec.post_blind hp
end Go.Proofs.YtcioicoedmmkhaaGreatDoor.Ev
namespace Go.Proofs.YtcioicoedmmkhaaGreatDoor
open Go Ev Go.RowKit
theorem maxL_of {W : World} (h : W.ShapedOpen Tryz.prog) : MaxL W :=
  cell_of_shapedOpen_int (g := 14) (t := 3) (zero := #[.int .i64 0]) h (of_decide_eq_true (by kernel_rfl)) (by kernel_rfl) rfl (by kernel_rfl) (by kernel_rfl) Tryz.underlying3
theorem sent_of {n : String} {text : List UInt8} {L : List (String × DataW Unit)} {W : World} {g : Nat} (hl : laidMetH Tryz.prog L W) (hm : (n, .iface "*errors.errorString" (.ptr (.agg [.lit (.string text)]))) ∈ L)
    (hg : Tryz.prog.globalNamed n = some g) (ht : (Tryz.prog.globals[g]?).map (·.type) = some 28) : ∃ e, W.cell? ⟨g, 0, none⟩ = some e ∧ (e = .nilIface ∨ ∃ t p, e = .iface t p) := by
  obtain ⟨f, hf⟩ : ∃ f : Field, Tryz.prog.underlying 184 = some (.struct #[f]) ∧ f.type = 9 ∧ f.offset = 0 := ⟨_, Tryz.underlying184, rfl, rfl⟩
  obtain ⟨a, h1, _⟩ := sentinel1 (laid_one hl hm rfl) hg ht Tryz.underlying28 errStr_only Tryz.underlying182 hf.1 hf.2.1 hf.2.2 Tryz.underlying9 (by kernel_rfl) (by kernel_rfl)
  exact ⟨_, h1, .inr ⟨_, _, rfl⟩⟩
def synB : List UInt8 := [105, 110, 118, 97, 108, 105, 100, 32, 115, 121, 110, 116, 97, 120]
def rngB : List UInt8 := [118, 97, 108, 117, 101, 32, 111, 117, 116, 32, 111, 102, 32, 114, 97, 110, 103, 101]
theorem numV_of {L : List (String × DataW Unit)} {W : World} (hl : laidMetH Tryz.prog L W) (h1 : ("strconv.ErrSyntax", .iface "*errors.errorString" (.ptr (.agg [.lit (.string synB)]))) ∈ L) (h2 : ("strconv.ErrRange", .iface "*errors.errorString" (.ptr (.agg [.lit (.string rngB)]))) ∈ L) : NumV W :=
  ⟨sent_of hl h1 (by kernel_rfl) (by kernel_rfl), sent_of hl h2 (by kernel_rfl) (by kernel_rfl)⟩
end Go.Proofs.YtcioicoedmmkhaaGreatDoor

namespace Go.Proofs.YtcioicoedmmkhaaGreatDoor
open Go Ev
def PktS.prs (p : PktS) : List Pr := [.int p.proto, .int p.sa, .int p.sp, .int p.da, .int p.dp, .int p.flags]
theorem prs_pkt (f g : PktS) : (f.prs = g.prs) = (f = g) := by
  obtain ⟨a, b, c, d, e, f1⟩ := f
  obtain ⟨a', b', c', d', e', f'⟩ := g
  simp [PktS.prs]
theorem eqPktR {c d : PktS} {k : Value → Prop} (hk : k (.bool (decide (c = d)))) :
    PureC Tryz.prog (do eqGuard .eql 26 (.tmp 0) (.tmp 0) (.agg (encPkt c).toArray) (.agg (encPkt d).toArray); Go.binOp .eql 26 (.agg (encPkt c).toArray) (.agg (encPkt d).toArray)) k :=
  eqS (a := c.prs) (b := d.prs) (ks := [.int, .int, .int, .int, .int, .int]) (by kernel_rfl) (by kernel_rfl) (by kernel_rfl) rfl rfl (by simpa only [prs_pkt] using hk)
def pkt3 : PktS := ⟨2, 0, 1, 2, 3, 3⟩
theorem pkt3_facts : pkt3.err = 0 ∧ pkt3.text = [116, 99, 112, 32, 48, 58, 49, 32, 50, 58, 51, 32, 115, 121, 110, 43, 97, 99, 107] := by
  refine ⟨by decide, ?_⟩
  have h0 : Lib.itoa 0 = [48] := Lib.decDigits_one (i := 0) (by decide)
  have h1 : Lib.itoa 1 = [49] := Lib.decDigits_one (i := 1) (by decide)
  have h2 : Lib.itoa 2 = [50] := Lib.decDigits_one (i := 2) (by decide)
  have h3 : Lib.itoa 3 = [51] := Lib.decDigits_one (i := 3) (by decide)
  have hf : ftext 3 = [115, 121, 110, 43, 97, 99, 107] := by decide +kernel
  simp only [PktS.text, pkt3, endT, h0, h1, h2, h3, hf]
  decide
theorem read_ok {E : Nat → Addr} {n : Nat} (w : World) (hE : Errs w E n [2, 3]) (ht : Pow10 w) (hN : NamesV w) : CallC Tryz.prog 7 #[] w fun v w' => v = .bool true ∧ Ext No w w' := by
  obtain ⟨r1, r2⟩ := pkt3_facts
  refine fn_intro tabOk Tryz.func7 (by kernel_rfl) rfl Tryz.ntmps7 (Nat.le_of_ble_eq_true rfl) ?_
  have hS := St.start w No
  (conv => whnf)
  refine hS.new (fun b w' hb hS => ?_)
  (conv => whnf)
  refine hS.st 0 rfl (Nat.le_of_ble_eq_true rfl) rfl (fun w' hS => ?_)
  replace hS : St w No w' [blk b 26 (encPkt pkt3)] := hS
  (conv => whnf)
  refine hS.laX 0 rfl rfl ?_
  (conv => whnf)
  refine (ptextP_ok pkt3 _ (hE.ext hS.ext fun _ h => h.elim) (ht.no hS.ext) (hN.no hS.ext)).mono ?_
  rintro v w2 ⟨rfl, hx⟩
  replace hS := hS.no hx
  rw [r1, if_pos rfl, r2]
  (conv => whnf)
  refine eqS2 ?_
  (conv => whnf)
  refine hS.laX 0 rfl rfl ?_
  (conv => whnf)
  refine (pcheck_ok pkt3 _ (hE.ext hS.ext fun _ h => h.elim)).mono ?_
  rintro v w3 ⟨rfl, hx⟩
  replace hS := hS.no hx
  rw [r1]
  repeat' ((conv => whnf); first | refine RetC.mk ?_ | refine NzC.mk (by decide) ?_ | refine RngC.mk (by omega) (by omega) ?_ | refine IdxC.mk (by omega) (by omega) ?_ | refine brD (fun _ => ?_) (fun _ => ?_) | refine brND (fun _ => ?_) (fun _ => ?_) | refine brN (fun _ => ?_) (fun _ => ?_) | refine brI (fun _ => ?_) (fun _ => ?_))
  exact ⟨rfl, hS.ext⟩
end Go.Proofs.YtcioicoedmmkhaaGreatDoor

namespace Go.Proofs.YtcioicoedmmkhaaGreatDoor
open Go Ev
theorem take_numB (n m : Nat) (r : List UInt8) : (numB n m ++ r).take m = numB n m := by
  rw [List.take_append_of_le_length (by rw [numB_len]; exact Nat.le_refl _), List.take_of_length_le (by rw [numB_len]; exact Nat.le_refl _)]
theorem drop_numB (n m k : Nat) (r : List UInt8) : (numB n m ++ r).drop (m + k) = r.drop k := by
  have h : (numB n m ++ r).drop m = r := by
    conv => lhs; rw [show m = (numB n m).length by rw [numB_len]]
    rw [numB_len]
    exact List.drop_left' (numB_len n m)
  rw [← List.drop_drop, h]
theorem pktOf_bytes {p : PktS} (h : p.err = 0) : p.bytes.length = 14 ∧ pktOf p.bytes = p := by
  obtain ⟨f1, f2, f3, f4, f5⟩ := err_facts h
  have g2 := endB_facts f2
  have g3 := endB_facts f3
  obtain ⟨pr, sa, sp, da, dp, fl⟩ := p
  dsimp only at f1 f4 f5 g2 g3
  obtain ⟨pr, rfl⟩ : ∃ n : Nat, pr = n := ⟨pr.toNat, by omega⟩
  obtain ⟨sa, rfl⟩ : ∃ n : Nat, sa = n := ⟨sa.toNat, by omega⟩
  obtain ⟨sp, rfl⟩ : ∃ n : Nat, sp = n := ⟨sp.toNat, by omega⟩
  obtain ⟨da, rfl⟩ : ∃ n : Nat, da = n := ⟨da.toNat, by omega⟩
  obtain ⟨dp, rfl⟩ : ∃ n : Nat, dp = n := ⟨dp.toNat, by omega⟩
  obtain ⟨fl, rfl⟩ : ∃ n : Nat, fl = n := ⟨fl.toNat, by omega⟩
  have hb : (⟨pr, sa, sp, da, dp, fl⟩ : PktS).bytes = numB pr 1 ++ (numB sa 4 ++ (numB sp 2 ++ (numB da 4 ++ (numB dp 2 ++ numB fl 1)))) := by
    unfold PktS.bytes
    simp only [Int.toNat_natCast, List.append_assoc]
  refine ⟨by rw [hb]; simp only [List.length_append, numB_len], ?_⟩
  unfold pktOf
  rw [hb]
  have d5 : ∀ r, (numB pr 1 ++ r).drop 1 = r.drop 0 := fun r => drop_numB pr 1 0 r
  have e1 : ((numB pr 1 ++ (numB sa 4 ++ (numB sp 2 ++ (numB da 4 ++ (numB dp 2 ++ numB fl 1))))).drop 0).take 1 = numB pr 1 := by rw [List.drop_zero, take_numB]
  have e2 : ((numB pr 1 ++ (numB sa 4 ++ (numB sp 2 ++ (numB da 4 ++ (numB dp 2 ++ numB fl 1))))).drop 1).take 4 = numB sa 4 := by rw [show (1 : Nat) = 1 + 0 from rfl, drop_numB, List.drop_zero, take_numB]
  have e3 : ((numB pr 1 ++ (numB sa 4 ++ (numB sp 2 ++ (numB da 4 ++ (numB dp 2 ++ numB fl 1))))).drop 5).take 2 = numB sp 2 := by rw [show (5 : Nat) = 1 + (4 + 0) from rfl, drop_numB, drop_numB, List.drop_zero, take_numB]
  have e4 : ((numB pr 1 ++ (numB sa 4 ++ (numB sp 2 ++ (numB da 4 ++ (numB dp 2 ++ numB fl 1))))).drop 7).take 4 = numB da 4 := by rw [show (7 : Nat) = 1 + (4 + (2 + 0)) from rfl, drop_numB, drop_numB, drop_numB, List.drop_zero, take_numB]
  have e5 : ((numB pr 1 ++ (numB sa 4 ++ (numB sp 2 ++ (numB da 4 ++ (numB dp 2 ++ numB fl 1))))).drop 11).take 2 = numB dp 2 := by rw [show (11 : Nat) = 1 + (4 + (2 + (4 + 0))) from rfl, drop_numB, drop_numB, drop_numB, drop_numB, List.drop_zero, take_numB]
  have e6 : ((numB pr 1 ++ (numB sa 4 ++ (numB sp 2 ++ (numB da 4 ++ (numB dp 2 ++ numB fl 1))))).drop 13).take 1 = numB fl 1 := by rw [show (13 : Nat) = 1 + (4 + (2 + (4 + (2 + 0)))) from rfl, drop_numB, drop_numB, drop_numB, drop_numB, drop_numB, List.drop_zero, List.take_of_length_le (by rw [numB_len]; exact Nat.le_refl _)]
  rw [e1, e2, e3, e4, e5, e6]
  simp only [valB_num]
  rw [Nat.mod_eq_of_lt (by omega), Nat.mod_eq_of_lt (by omega), Nat.mod_eq_of_lt (by omega), Nat.mod_eq_of_lt (by omega), Nat.mod_eq_of_lt (by omega), Nat.mod_eq_of_lt (by omega)]
theorem decodeS_bytes {p : PktS} (h : p.err = 0) : decodeS p.bytes = (p, 0) := by
  obtain ⟨h1, h2⟩ := pktOf_bytes h
  unfold decodeS
  rw [if_neg (by omega), h2, if_pos h]
theorem packetCodes_ok {E : Nat → Addr} (W : World) (hE : Errs W E W.heap.size allErrs) (hh : Handle W) (ht : Pow10 W) (hM : MaxL W) (hV : NumV W) (hN : NamesV W) (p : PktS) (hp : p.IP) :
    CallC Tryz.prog 4 #[.agg (encPkt p).toArray] W fun v w' => v = .bool true ∧ Ext No W w' := by
  refine fn_intro tabOk Tryz.func4 (by kernel_rfl) rfl Tryz.ntmps4 (Nat.le_of_ble_eq_true rfl) ?_
  have hS := St.start W No
  (conv => whnf)
  refine hS.new (fun b1 w' hb1 hS => ?_)
  replace hS : St W No w' [blk b1 26 (encPkt p)] := hS
  (conv => whnf)
  refine (read_ok _ ((hE.sub rfl).ext hS.ext fun _ h => h.elim) (ht.no hS.ext) (hN.no hS.ext)).mono ?_
  rintro v w1 ⟨rfl, hx⟩
  replace hS := hS.no hx
  clear hx
  (conv => whnf)
  refine hS.laX 0 rfl rfl ?_
  (conv => whnf)
  refine (pencode_ok p _ ((hE.sub rfl).ext hS.ext fun _ h => h.elim)).mono ?_
  rintro v w2 ⟨rfl, hx⟩
  replace hS := hS.no hx
  clear hx
  (conv => whnf)
  refine hS.laX 0 rfl rfl ?_
  (conv => whnf)
  refine (ptextP_ok p _ ((hE.sub rfl).ext hS.ext fun _ h => h.elim) (ht.no hS.ext) (hN.no hS.ext)).mono ?_
  rintro v w3 ⟨rfl, hx⟩
  replace hS := hS.no hx
  clear hx
  (conv => whnf)
  refine hS.laX 0 rfl rfl ?_
  (conv => whnf)
  refine (perror_ok p _).mono ?_
  rintro v w4 ⟨rfl, hx⟩
  replace hS := hS.no hx
  clear hx
  (conv => whnf)
  refine hS.laX 0 rfl rfl ?_
  (conv => whnf)
  refine (pcheck_ok p _ ((hE.sub rfl).ext hS.ext fun _ h => h.elim)).mono ?_
  rintro v w5 ⟨rfl, hx⟩
  replace hS := hS.no hx
  clear hx
  (conv => whnf)
  refine (coded1_same p.err p.err_code _ (hE.ext hS.ext fun _ h => h.elim) (hh.ext hS.ext)).mono ?_
  rintro v w6 ⟨rfl, hx⟩
  replace hS := hS.no hx
  clear hx
  by_cases he : p.err = 0
  case neg =>
    rw [if_neg he, if_neg he]
    (conv => whnf)
    refine brD (fun h2 => ?_) (fun h2 => absurd (show (p.err : Int) > 0 by omega) h2)
    (conv => whnf)
    refine (coded1_same p.err p.err_code _ (hE.ext hS.ext fun _ h => h.elim) (hh.ext hS.ext)).mono ?_
    rintro v w7 ⟨rfl, hx⟩
    replace hS := hS.no hx
    clear hx
    (conv => whnf)
    refine (coded1_same p.err p.err_code _ (hE.ext hS.ext fun _ h => h.elim) (hh.ext hS.ext)).mono ?_
    rintro v w8 ⟨rfl, hx⟩
    replace hS := hS.no hx
    clear hx
    (conv => whnf)
    refine eqS2 ?_
    (conv => whnf)
    refine eqS2 ?_
    repeat' ((conv => whnf); first | refine RetC.mk ?_ | refine NzC.mk (by decide) ?_ | refine RngC.mk (by omega) (by omega) ?_ | refine IdxC.mk (by omega) (by omega) ?_ | refine brD (fun _ => ?_) (fun _ => ?_) | refine brND (fun _ => ?_) (fun _ => ?_) | refine brN (fun _ => ?_) (fun _ => ?_) | refine brI (fun _ => ?_) (fun _ => ?_))
    exact ⟨rfl, hS.ext⟩
  rw [if_pos he, if_pos he, he]
  obtain ⟨f1, f2⟩ := pktOf_bytes he
  have hd := decodeS_bytes he
  have htl : p.text.length ≤ 200 := by
    obtain ⟨_, g2, g3, _⟩ := err_facts he
    have g2 := endB_facts g2
    have g3 := endB_facts g3
    have l1 := endT_len p.sa p.sp ⟨by omega, by omega⟩ ⟨by omega, by omega⟩
    have l2 := endT_len p.da p.dp ⟨by omega, by omega⟩ ⟨by omega, by omega⟩
    have l3 := ftext_len p.flags
    unfold PktS.text
    split
    · simp only [List.length_append, List.length_cons, List.length_nil]
      omega
    · simp only [List.length_append, List.length_cons, List.length_nil]
      omega
  (conv => whnf)
  refine (pdecode_ok p.bytes (by omega) _ ((hE.sub rfl).ext hS.ext fun _ h => h.elim)).mono ?_
  rintro v w7 ⟨rfl, hx⟩
  rw [hd]
  replace hS := hS.no hx
  clear hx
  (conv => whnf)
  refine hS.new (fun b9 w' hb9 hS => ?_)
  (conv => whnf)
  refine hS.st 1 rfl (Nat.le_of_ble_eq_true rfl) rfl (fun w' hS => ?_)
  (conv => whnf)
  refine (packetRead_ok p.text (by omega) _ (hM.no hS.ext) (hV.no hS.ext) (ht.no hS.ext) (hN.no hS.ext) ((hE.sub rfl).ext hS.ext fun _ h => h.elim)).mono ?_
  rintro v w8 ⟨⟨r, k, rfl, hr⟩, hx⟩
  obtain ⟨rfl, rfl⟩ := hr.2.2 p he rfl
  rw [if_pos rfl]
  replace hS := hS.no hx
  clear hx
  (conv => whnf)
  refine hS.new (fun b11 w' hb11 hS => ?_)
  (conv => whnf)
  refine hS.st 2 rfl (Nat.le_of_ble_eq_true rfl) rfl (fun w' hS => ?_)
  replace hS : St W No w' [blk b1 26 (encPkt r), blk b9 26 (encPkt r), blk b11 26 (encPkt r)] := hS
  (conv => whnf)
  refine hS.laX 0 rfl rfl ?_
  (conv => whnf)
  refine (packetBytes_ok r he _).mono ?_
  rintro v w9 ⟨rfl, hx⟩
  replace hS := hS.no hx
  clear hx
  (conv => whnf)
  refine eqS2 ?_
  (conv => whnf)
  refine brD (fun _ => ?_) (fun h => absurd rfl h)
  (conv => whnf)
  refine hS.laX 0 rfl rfl ?_
  (conv => whnf)
  refine (packetText_ok r hp _).mono ?_
  rintro v w10 ⟨rfl, hx⟩
  replace hS := hS.no hx
  clear hx
  (conv => whnf)
  refine eqS2 ?_
  (conv => whnf)
  refine brD (fun _ => ?_) (fun h => absurd rfl h)
  (conv => whnf)
  refine hS.laX 1 rfl rfl ?_
  (conv => whnf)
  refine hS.laX 0 rfl rfl ?_
  (conv => whnf)
  refine eqPktR ?_
  (conv => whnf)
  refine brD (fun _ => ?_) (fun h => absurd rfl h)
  (conv => whnf)
  refine hS.laX 2 rfl rfl ?_
  (conv => whnf)
  refine hS.laX 0 rfl rfl ?_
  (conv => whnf)
  refine eqPktR ?_
  repeat' ((conv => whnf); first | refine RetC.mk ?_ | refine NzC.mk (by decide) ?_ | refine RngC.mk (by omega) (by omega) ?_ | refine IdxC.mk (by omega) (by omega) ?_ | refine brD (fun _ => ?_) (fun _ => ?_) | refine brND (fun _ => ?_) (fun _ => ?_) | refine brN (fun _ => ?_) (fun _ => ?_) | refine brI (fun _ => ?_) (fun _ => ?_))
  exact ⟨by simp, hS.ext⟩
theorem packetCodes_walk {E : Nat → Addr} (W : World) (args : List Value) (hE : Errs W E W.heap.size allErrs) (hh : Handle W) (ht : Pow10 W) (hM : MaxL W) (hV : NumV W) (hN : NamesV W) (ha : ArgsOk Tryz.prog W [26] args) :
    CallC Tryz.prog 4 args.toArray W fun v w' => v = .bool true ∧ Ext No W w' := by
  obtain ⟨v0, args, rfl, h0, ha⟩ := ha.cons
  obtain rfl := ha.nil
  obtain ⟨p, rfl, hp⟩ := arg_pkt h0
  exact packetCodes_ok W hE hh ht hM hV hN p hp
end Go.Proofs.YtcioicoedmmkhaaGreatDoor
