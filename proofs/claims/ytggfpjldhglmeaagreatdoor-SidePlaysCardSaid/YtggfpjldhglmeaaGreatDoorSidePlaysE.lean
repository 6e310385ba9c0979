/-
  Texts of this claim, joined: PoolY, PoolXA, EvN, EvP, EvQ, GapE, Err, IfP, PoolZ, PoolZA, PoolZB, PoolZC, PoolZD, PoolZE, PoolZF, PoolZG, PoolZH, PoolZI, PoolZJ, PoolZK.
-/
import Derived.Test.YtggfpjldhglmeaaGreatDoorSidePlaysD
import Derived.Laws.Strings
import Derived.Laws.Strings2
import Derived.Laws.Strings3
import Derived.Laws.Concat
import Derived.Laws.BytesArg
import Derived.Laws.BitsAllLaws
import Derived.Laws.OwnMore
import Derived.Lib.AppendZerosOnto
import Derived.Laws.Slices
import Derived.LaidSub
import Derived.Stop.LaidTwo
import Derived.LaidEql
import Derived.Stop.Asserts
import Derived.Conc.Events
set_option linter.unusedSectionVars false
set_option linter.unusedSimpArgs false
set_option linter.unusedVariables false
set_option maxRecDepth 20000
namespace Go.Proofs.YtggfpjldhglmeaaGreatDoor
open Go Tryz
namespace Pool
open Go.Conc Gap Go.RowKit Go.Conc.Lib Go.ConcR.Gen Go.ConcN.Gen
open Go.ConcN (upd upd_same upd_ne WgLive RW AtK1)
open Go.ConcR (WgAt stA smA KK Payload DC0 mk rd wr)
variable [kd:Kd]
variable {a:Act}{main:Bool}{cs:List Frame}{P:Program}
section
variable {J:iB}{C n:Nat}{w w1:World}{g:Goroutine}
theorem zzK (ok:fX J){T:Array Value}(hT:TF J T)(hF:WF J C w):Goes prog false (H8 J C) (DJ J C) (H5 J C) 6 (Go.Conc.served (G (j3 T) [qc J C,bot]) undef) w:=by
 obtain⟨b⟩:=kd
 letI kd:Kd:=⟨b⟩
 cases b
 all_goals
  have e:Go.Conc.served (G (j3 T) [qc J C,bot]) undef=G ((base uD).at ⟨T,[]⟩ [.inRegion (cY d9 4) [],.inBlock 1,.inLoop (jw d9 0),.inBlock 0]) [qc J C,bot]:=by
   simp only[Go.Conc.served,G,j3,Frame.finish_at];rfl
  rw[e];refine Goes.step rfl (fun _ h₁=>?_);replace hF:=hF.rely h₁;rw[stepG_region_end];simp only[goes_go];refine⟨gz _,?_⟩;refine Goes.step rfl (fun _ h₁=>?_);replace hF:=hF.rely h₁;rw[stepG_inBlock];simp only[goes_go];refine⟨gz _,?_⟩;refine Goes.step rfl (fun _ h₁=>?_);replace hF:=hF.rely h₁;rw[stepG_inLoop];simp only[goes_go];refine⟨gz _,?_⟩
  conv=>arg 7;rw[show(jw d9 0)=.seq (.region 1 (cY d9 1) false) (vZ (jw d9 0)) from rfl]
  refine Goes.step rfl (fun _ h₁=>?_);replace hF:=hF.rely h₁;rw[stepG_seq];simp only[goes_go];refine⟨gz _,?_⟩;refine Goes.step rfl (fun _ h₁=>?_);replace hF:=hF.rely h₁;rw[stepG_region];simp only[goes_go];refine⟨gz _,?_⟩;exact Goes.stop fun w₁ h₁=>⟨T,hT,rfl,hF.rely h₁⟩
theorem Yn {b:Frame}  {todo:List Item}  {f:FuncId} {fn:Func} {cW:Array Value} {ds:List Deferred} {c:Code}(hd : a.defers = { target := .fn (.func f) cW, args := #[] } :: ds) (hf : P.funcs[f]? = some fn) (eG : (fn.name == "runtime.NumGoroutine") = false) (hb : fn.body = some c) :
  stepG P main (G { b.at a todo with mode:=.returning } cs) w =
   .go (G ((baseD f).at { tmps:=cW++Array.replicate (fn.ntmps-cW.size) undef,defers:=[] } [.code c]) ({ b.at ⟨a.tmps,ds⟩ todo with mode:=.returning }::cs)) w #[]:=by
 have h1 : ¬ fn.name = "runtime.NumGoroutine" := by simpa using eG
 rw[←enter_atD cW hf hb];simp[G,stepG,unwind,callDeferred,Frame.at,hd,invoke,callFunc,hf,h1,hb,GStep.after,seen_none]
theorem Y5 {f:FuncId}  {k:List Item}{c:Frame}  {ops:Array Oper}{i:Nat}{rest:List Nat}{o:Oper}{yp:Array TypeId}(ho:ops[i]?=some o)(hw:Region.wanted o (yielded ops a.tmps)=true)
  (cN:o.op=.call { callee:=.builtin .recover,args:=#[],argTypes:=yp }) (hc:c.mode=.returning) :
  stepG P main (G ((baseD f).at a (.inRegion ops (i::rest)::k)) (c::cs)) w=.go (G ((baseD f).at (a.put o.dst .nilIface) (.inRegion ops rest::k)) (c::cs)) w #[]:=by
 have hr:(execOp a.eval o).run P w=.ok .recover w:=by
  unfold execOp;simp[cN,resolve,invoke,builtin]
 have he:(execOp a.eval o).events P w #[] = #[]:=by
  unfold execOp;simp[cN,resolve,invoke,builtin]
 have cx:((baseD f).at a (.inRegion ops (i::rest)::k)).finish .nilIface=(baseD f).at (a.put o.dst .nilIface) (.inRegion ops rest::k):=by rw[Frame.finish_at,ho];rfl
 rw[stepG_oper ho hw,←cx];simp[stepG.apply,hr,he,G,Frame.at,baseD,GStep.after,seen_none,tryRecover,hc]
theorem Sz {b:Frame}  {k:List Item}  {ops:Array Oper}{i:Nat}{rest:List Nat}{o:Oper}{K:Goroutine→World→Array Event→Prop}(v:Value)(ho:ops[i]?=some o)(hw:Region.wanted o (yielded ops a.tmps)=true)(hk:b.kind≠.early)
  (hr:(execOp a.eval o).run P w=.ok (.value v) w) (he:(execOp a.eval o).events P w #[] = #[]) (h:K (G (b.at (a.put o.dst v) (.inRegion ops rest::k)) cs) w #[]):(stepG P main (G (b.at a (.inRegion ops (i::rest)::k)) cs) w).goes K:=by
 have hl:listed P b.fn a o w = #[]:=by unfold listed;rw[he];exact seen_none P _
 rw[stepG_value ho hw hk hr,hl];exact h
structure WQ (J:iB)(C:Nat)(w:World):Prop where
 wg:w.cell? ⟨C,0,none⟩=some (.pointer (some ⟨J.Wg,0,none⟩))
 live:WgLive 116 J.Wg w
theorem WQ.rely (h:WQ J C w)(r:RW 116 J.Wg C 1 0 0 w w1):WQ J C w1:=⟨r.cell.trans h.wg,r.live h.live⟩
theorem RR {R:World→World→Prop}{D D':World→World→Array Event→Prop}{Stop:Goroutine→World→Prop}(hD:∀w w' es,D w w' es→D' w w' es):∀{n:Nat} {g:Goroutine} {w:World},Goes P main R D Stop n g w→Goes P main R D' Stop n g w
 | 0,_,_,h=>h
 | n+1,g,w,h=>h.imp id fun⟨hs,h⟩=>⟨hs,fun w1 h1=>by
  obtain⟨g',w',es,e,hd,hg⟩:=goes_elim (h w1 h1);rw[e];exact⟨hD _ _ _ hd,RR hD hg⟩⟩
theorem zqc (w w':World)(es:Array Event)(h:DC0 w w' es):DJ J C w w' es:=by
 obtain⟨rfl,rfl⟩:=h;exact gz _
theorem zrr (a:Act)(ha:a.defers=[])(T:Array Value):QuitsD prog 5 0 (G ((baseD NA).at a [.inRegion (cY Ci 3) []]) [{ (baseD z7).at ⟨T,[]⟩ [] with mode:=.returning },bot]):=by
 refine QuitsD.ctl rfl (fun w=>stepG_region_end) ?_;refine QuitsD.ctl rfl (fun w=>stepG_end) ?_;refine QuitsD.leaveD rfl ha func78 rfl rfl ?_;refine QuitsD.ctl (g':=G bot []) rfl (fun w=>?_) ?_
 ·simp[G,stepG,unwind,doReturn,results,Frame.at,baseD,bot,func77,Tryz.f77,seen,GStep.after,goexitEntry]
 refine QuitsD.ctl (g':={ G bot [] with status:=.finished }) rfl (fun w=>?_) ⟨rfl,rfl⟩;simp[G,stepG,unwind,bot,goexitEntry,Frame.catches];rfl
set_option maxRecDepth 100000 in
set_option maxHeartbeats 4000000 in
theorem closed {T:Array Value}(hT:T.size=21)(hF:WQ J C w):Goes prog false (RW 116 J.Wg C 1 0 0) (DJ J C) (CR prog 116 J.Wg C) 60 (Go.Conc.served (G (gu T) [qc J C,bot]) (.tuple #[.int .i64 0,.bool false])) w:=by
 obtain⟨b⟩:=kd
 letI kd:Kd:=⟨b⟩
 cases b
 all_goals
  obtain⟨v0,v1,v2,v3,v4,v5,v6,v7,v8,v9,v10,v11,Aj,Ak,Al,Am,An,Ao,Ap,Aq,v20,rfl⟩:=zvT T hT
  have e:Go.Conc.served (G (gu #[v0,v1,v2,v3,v4,v5,v6,v7,v8,v9,v10,v11,Aj,Ak,Al,Am,An,Ao,Ap,Aq,v20]) [qc J C,bot]) (.tuple #[.int .i64 0,.bool false]) =
    G ((base uD).at ⟨#[v0,v1,v2,v3,v4,v5,v6,.tuple #[.int .i64 0,.bool false],v8,v9,v10,v11,Aj,Ak,Al,Am,An,Ao,Ap,Aq,v20],[]⟩ [.inRegion (cY d9 1) [1],.code (vZ (jw d9 0)),.inLoop (jw d9 0),.inBlock 0]) [qc J C,bot]:=by
   simp only[Go.Conc.served,G,gu,Frame.finish_at];rfl
  rw[e];refine Goes.step rfl (fun _ h₁=>?_);replace hF:=hF.rely h₁;refine Sz (.bool false) rfl rfl (by k_ne) rfl rfl ?_;refine⟨gz _,?_⟩;rw[show(Act.put ⟨#[v0,v1,v2,v3,v4,v5,v6,.tuple #[.int .i64 0,.bool false],v8,v9,v10,v11,Aj,Ak,Al,Am,An,Ao,Ap,Aq,v20],[]⟩ ((cY d9 1)[1]'zd).dst (.bool false))=⟨#[v0,v1,v2,v3,v4,v5,v6,.tuple #[.int .i64 0,.bool false],.bool false,v9,v10,v11,Aj,Ak,Al,Am,An,Ao,Ap,Aq,v20],[]⟩ from rfl];refine Goes.step rfl (fun _ h₁=>?_);replace hF:=hF.rely h₁;rw[stepG_region_end];simp only[goes_go];refine⟨gz _,?_⟩
  conv=>arg 7;rw[show vZ (jw d9 0)=.seq (.cond (.tmp 8) .skip (.exit 0)) (vZ (vZ (jw d9 0))) from rfl]
  refine Goes.step rfl (fun _ h₁=>?_);replace hF:=hF.rely h₁;rw[stepG_seq];simp only[goes_go];refine⟨gz _,?_⟩;refine Goes.step rfl (fun _ h₁=>?_);replace hF:=hF.rely h₁;rw[stepG_cond (t:=false) rfl];simp only[goes_go];refine⟨gz _,?_⟩;simp only[Bool.false_eq_true,↓reduceIte];refine Goes.step rfl (fun _ h₁=>?_);replace hF:=hF.rely h₁;refine goes_exit rfl ?_;refine⟨gz _,?_⟩;refine Goes.step rfl (fun _ h₁=>?_);replace hF:=hF.rely h₁;rw[stepG_end];simp only[goes_go];refine⟨gz _,?_⟩;refine Goes.step rfl (fun _ h₁=>?_);replace hF:=hF.rely h₁;unfold qc;refine goes_leave0 rfl rfl UX rfl ⟨gz _,?_⟩;refine Goes.step rfl (fun _ h₁=>?_);replace hF:=hF.rely h₁;rw[stepG_region_end];simp only[goes_go];refine⟨gz _,?_⟩;refine Goes.step rfl (fun _ h₁=>?_);replace hF:=hF.rely h₁;rw[stepG_end];simp only[goes_go];refine⟨gz _,?_⟩;refine Goes.step rfl (fun _ h₁=>?_);replace hF:=hF.rely h₁;rw[Yn rfl func78 zk rfl];simp only[goes_go];refine⟨gz _,?_⟩;simp only[Tryz.f78];try walk_nrm
  refine Goes.step rfl (fun _ h₁=>?_);replace hF:=hF.rely h₁;rw[stepG_seq];simp only[goes_go];refine⟨gz _,?_⟩;refine Goes.step rfl (fun _ h₁=>?_);replace hF:=hF.rely h₁;rw[stepG_seq];simp only[goes_go];refine⟨gz _,?_⟩;refine Goes.step rfl (fun _ h₁=>?_);replace hF:=hF.rely h₁;rw[stepG_region];simp only[goes_go,List.size_toArray,List.length_cons,List.length_nil,Nat.reduceAdd,Nat.zero_add,List.range,List.range.loop];refine⟨gz _,?_⟩;refine Goes.step rfl (fun _ h₁=>?_);replace hF:=hF.rely h₁;rw[Y5 rfl rfl rfl rfl];simp only[goes_go];refine⟨gz _,?_⟩;try walk_nrm
  refine Goes.step rfl (fun _ h₁=>?_);replace hF:=hF.rely h₁;refine goes_oper_k rfl rfl (by k_ne) (fun K hK=>?_)
  go_simp
  refine hK _ _ ⟨?_,?_⟩
  ·refine Mz ?_;intro e he;have hm:=mem_listed he;simp[go_sem, *]at hm
  try walk_nrm
  refine Goes.step rfl (fun _ h₁=>?_);replace hF:=hF.rely h₁;rw[stepG_region_end];simp only[goes_go];refine⟨gz _,?_⟩;refine Goes.step rfl (fun _ h₁=>?_);replace hF:=hF.rely h₁;rw[stepG_seq];simp only[goes_go];refine⟨gz _,?_⟩;refine Goes.step rfl (fun _ h₁=>?_);replace hF:=hF.rely h₁;rw[stepG_region];simp only[goes_go,List.size_toArray,List.length_cons,List.length_nil,Nat.reduceAdd,Nat.zero_add,List.range,List.range.loop];refine⟨gz _,?_⟩;refine Goes.step rfl (fun _ h₁=>?_);replace hF:=hF.rely h₁;refine goes_oper_k rfl rfl (by k_ne) (fun K hK=>?_)
  go_simp
  refine hK _ _ ⟨?_,?_⟩
  ·refine Mz ?_;intro e he;have hm:=mem_listed he;simp[go_sem, *]at hm
  try walk_nrm
  refine Goes.step rfl (fun _ h₁=>?_);replace hF:=hF.rely h₁;refine Sz (.bool false) rfl rfl (by k_ne) rfl rfl ?_;refine⟨gz _,?_⟩
  walk_nrm
  refine Goes.step rfl (fun _ h₁=>?_);replace hF:=hF.rely h₁;rw[stepG_region_end];simp only[goes_go];refine⟨gz _,?_⟩;refine Goes.step rfl (fun _ h₁=>?_);replace hF:=hF.rely h₁;rw[stepG_cond (t:=false) rfl];simp only[goes_go];refine⟨gz _,?_⟩;simp only[Bool.false_eq_true,↓reduceIte];refine Goes.step rfl (fun _ h₁=>?_);replace hF:=hF.rely h₁;rw[stepG_skip];simp only[goes_go];refine⟨gz _,?_⟩;refine Goes.step rfl (fun _ h₁=>?_);replace hF:=hF.rely h₁;rw[stepG_region];simp only[goes_go,List.size_toArray,List.length_cons,List.length_nil,Nat.reduceAdd,Nat.zero_add,List.range,List.range.loop];refine⟨gz _,?_⟩;refine Goes.step rfl (fun _ h₁=>?_);replace hF:=hF.rely h₁;refine goes_oper_k rfl rfl (by k_ne) (fun K hK=>?_);have Bl:=hF.wg
  go_simp
  refine hK _ _ ⟨?_,?_⟩
  ·refine MA (b:=C) (.inl (.inl rfl)) (o:=0) ?_;intro e he;have hm:=mem_listed he;simp[go_sem, *]at hm;exact hm
  try walk_nrm
  refine Goes.step rfl (fun _ h₁=>?_);replace hF:=hF.rely h₁;refine goes_call rfl rfl (by k_ne) rfl func79 zk rfl ⟨gz _,?_⟩;rw[←enter_at _ func79 rfl];try walk_nrm
  refine(RR zqc (zyf (L:=Av) (qt:=5) Ga ?_ _ hF.live)).mono zo;exact zrr _ rfl _
end
end Pool
namespace Pool
open Go.Conc Gap
open Go.ConcR (Payload)
local instance:Gap.Leaps:=uH
structure Sm (w0 W:World):Prop where
 os:W.os=w0.os
 tape:W.tape=w0.tape
 output:W.output=w0.output
structure yl (p q:Nat→Prop)(n:Nat)(w0:World)(O:Nat→Prop)(W:World):Prop where
 up:∀b,O b→p b
 dn:∀b,q b→O b
 size:n≤W.heap.size
 sm:Sm w0 W
section
variable {P:Program}{main:Bool}{p q Z O:Nat→Prop}{n:Nat}{w0 W W1:World}{g:Goroutine}{Stop wH:(Nat→Prop)→Goroutine→World→Prop}
theorem Sm.refl (w:World):Sm w w:=⟨rfl,rfl,rfl⟩
theorem Sm.trans {a b c:World}(h:Sm a b)(k:Sm b c):Sm a c:=⟨k.os.trans h.os,k.tape.trans h.tape,k.output.trans h.output⟩
theorem Sm.at (w:World)(e:Nat):Sm w (w.at e):=⟨rfl,rfl,rfl⟩
theorem Sm.rely (h:cv O Z W W1):Sm W W1:=⟨h.os,h.tape,h.output⟩
theorem Sm.aside {Wg:Nat}(h:Aside Wg W W1):Sm W W1:=⟨h.os,h.tape,h.output⟩
theorem yl.rely (h:yl p q n w0 O W)(r:cv O Z W W1):yl p q n w0 O W1:=⟨h.up,h.dn,Nat.le_trans h.size r.size,h.sm.trans (.rely r)⟩
theorem above (hp:∀b,n≤b→p b)(h:gk P main Z Stop O g W)(k:yl p q n w0 O W):gk P main Z (fun O' g' W'=>Stop O' g' W'∧yl p q n w0 O' W') O g W:=by
 induction h with
 | stop h=>exact .stop fun W1 h1=>⟨h W1 h1,k.rely h1⟩
 | me T _ h=>exact(h _ (.refl _)).elim
 | @step O g W hs hg hk ih =>
  refine .step hs hg fun W1 g' W' es h1 he=>ih W1 g' W' es h1 he ?_
  obtain⟨g2,W2,Fu,N7,iP⟩:=hg W1 h1;rw[he]at N7;injection N7 with e1 e2 e3
  subst e1 e2 e3;have k1:=k.rely h1;exact⟨fun b hb=>hb.elim (k1.up b) fun x=>hp b (Nat.le_trans k1.size x.1),fun b hb=>.inl (k1.dn b hb),Nat.le_trans k1.size iP.size,k1.sm.trans ⟨iP.os,iP.tape,iP.output⟩⟩
theorem zr7 (h:gk P main Z Stop O g W)(hs:∀O g W,Stop O g W→wH O g W):gk P main Z wH O g W:=by
 induction h with
 | stop h=>exact .stop fun W1 h1=>hs _ _ _ (h W1 h1)
 | me T _ h=>exact(h _ (.refl _)).elim
 | step hr hg _ ih=>exact .step hr hg ih
end
end Pool
namespace Ev
variable [Gap.Leaps]
variable {j y:Int}{kd q' yk:IntKind}{r:List UInt8}{a b n:Nat}
def bs (l:List UInt8):ByteArray:=⟨l.toArray⟩
theorem zx9 {a b:List UInt8}:bs a=bs b↔a=b:=by
 constructor
 ·intro h;have:=congrArg (fun s=>s.data.toList) h;simpa[bs]using this
 ·rintro rfl;rfl
theorem nE (l:List UInt8):(bs l).size=l.length:=by simp[bs,ByteArray.size]
theorem zpR (a b:List UInt8):bs a++bs b=bs (a++b):=by
 apply ByteArray.ext;simp[bs,ByteArray.data_append]
theorem KY (l:List UInt8)(a b:Nat):(bs l).extract a b=bs ((l.drop a).take (b-a)):=ByteArray.extract_mk l a b
def j1 (x:UInt8):List Value:=[.int .u8 (x.toNat:Int)]
theorem oL:cR 1 j1:=⟨fun _=>rfl,fun _=>rfl,by decide⟩
section
variable {P:Program}{k:Value→Prop}{l:List UInt8}{t:TypeId}
theorem wu {i:Int}{j:Nat}{x:UInt8}(hu:P.underlying t=some .string)(hi:i=(j:Int))(hx:l[j]?=some x)(hk:k (.int .u8 (x.toNat:Int))):aB P (Instr.index t (.string (bs l)) (.int kd i)) k:=by
 subst hi;refine aB.of (fun w=>?_) hk;have lt:=(List.getElem?_eq_some_iff.1 hx).1;rw[run_index_string w t (bs l) kd j hu,dif_pos ⟨by omega,by rw[nE];omega⟩];congr 1
 have:(bs l)[j]?=some x:=by
  rw[ByteArray.getElem?_lt' _ _ (by rw[nE];exact lt)];show some ((bs l).data[j])=_;rw[←hx,List.getElem?_eq_getElem lt];simp[bs]
 have h2:(bs l)[j]'(by rw[nE];exact lt)=x:=by
  rw[ByteArray.getElem?_lt' _ _ (by rw[nE];exact lt)]at this;exact Option.some.inj this
 simp[h2]
theorem M0 (hu:P.underlying t=some .string)(x:Value)(lo hi:Option Value)(w:World):(Instr.sliceAt t x lo hi none).run P w=(Instr.slice t x lo hi none).run P w:=by
 unfold Instr.sliceAt;rw[Sem.run_bind,run_underlying hu,Result.andThen_ok]
theorem wz {q:IntKind}{i:Int}(hu:P.underlying t=some .string)(hi:i=(a:Int))(hj:j=(b:Int))(mz:a≤b)(hb:b≤l.length)(hr:(l.drop a).take (b-a)=r)(hk:k (.string (bs r))):aB P (Instr.sliceAt t (.string (bs l)) (some (.int q i)) (some (.int q' j)) none) k:=by
 subst hi hj hr;refine aB.of (fun w=>?_) hk;rw[M0 hu,run_slice_string w t (bs l) q q' a b hu zo zo (by rw[nE];omega),KY];rfl
theorem pW (hu:P.underlying t=some .string)(hj:j=(b:Int))(hb:b≤l.length)(hr:l.take b=r)(hk:k (.string (bs r))):aB P (Instr.sliceAt t (.string (bs l)) none (some (.int q' j)) none) k:=by
 subst hj hr;refine aB.of (fun w=>?_) hk;rw[M0 hu,run_slice_string_to_if w t (bs l) q' b hu,if_pos ⟨by omega,by rw[nE];omega⟩,KY];rfl
theorem vV (hu:P.underlying t=some .string)(hj:j=(b:Int))(hb:b≤l.length)(hr:l.drop b=r)(hk:k (.string (bs r))):aB P (Instr.sliceAt t (.string (bs l)) (some (.int q' j)) none none) k:=by
 subst hj hr;refine aB.of (fun w=>?_) hk;rw[M0 hu,run_slice_string_from_if w t (bs l) q' b hu,if_pos ⟨by omega,by rw[nE];omega⟩,KY,nE];simp only[Int.toNat_natCast];rw[List.take_of_length_le zi]
theorem kt {a b:List UInt8}(h:a.length+b.length≤1000000)(hk:k (.string (bs (a++b)))):aB P (Go.binOp .add t (.string (bs a)) (.string (bs b))) k :=
 aB.of (fun w=>by
  rw[show Go.binOp .add t (.string (bs a)) (.string (bs b))=Op.stringOp .add (bs a) (bs b) from rfl,run_string_add_sum w _ _ (by rw[nE,nE];omega),zpR]) hk
theorem rF {a b:List UInt8}(hk:k (.bool (decide (a=b)))):aB P (Go.binOp .eql t (.string (bs a)) (.string (bs b))) k:=zzu (by
 have:decide (bs a=bs b)=decide (a=b):=by simp only[zx9]
 rw[this];exact hk)
theorem wo {s d:TypeId}{q:IntKind}{n m:Int}(hs:(P.underlying s).isSome=true)(hd:P.underlying d=some (.int kd))(hw:kd.wrap n=m){w:World}{kk:Value→World→Prop}(hk:kk (.int kd m) w):dy P (Go.convert s d (.int q n)) w kk:=by
 have iw:P.intKind d=kd:=by unfold Program.intKind;rw[hd]
 refine .quiet ?_ (by rw[run_convert_int w s d q n hs (by rw[iw];exact hd),iw,hw]) rfl rfl hk;obtain⟨ds,hs⟩:=Option.isSome_iff_exists.1 hs;show Gap.Plain P (Go.convert s d (.int q n));unfold Go.convert;refine Gap.aO hs (Gap.aO hd ?_);trivial
theorem U5 {a:Int}(hy:y=(n:Int))(hn:n≤kd.bits)(hk:k (.int kd (a / 2 ^ n))):aB P (Go.binOp .shr t (.int kd a) (.int yk y)) k:=by
 subst hy;refine aB.of (fun w=>?_) hk;show(Op.shift .shr kd a yk n).run P w=_;unfold Op.shift;rw[if_neg zo];simp only[Int.toNat_natCast,Nat.min_eq_left hn];rw[show((2:Int) ^ n)=((2 ^ n:Nat):Int) by simp,Int.fdiv_eq_ediv_of_nonneg _ (by exact Int.natCast_nonneg _)];rfl
theorem U6 (hy:y=(n:Int))(hn:n≤kd.bits)(hk:k (.int kd ((a / 2 ^ n:Nat):Int))):aB P (Go.binOp .shr t (.int kd (a:Int)) (.int yk y)) k :=
 U5 hy hn (by
  have:((a:Int) / 2 ^ n)=((a / 2 ^ n:Nat):Int):=by simp
  rw[this];exact hk)
theorem Yi {a:Int}  {m:Int}(hy:y=(n:Int))(hn:n≤kd.bits)(hw:kd.wrap (a*2 ^ n)=m)(hk:k (.int kd m)):aB P (Go.binOp .shl t (.int kd a) (.int yk y)) k:=by
 subst hy hw;refine aB.of (fun w=>?_) hk;show(Op.shift .shl kd a yk n).run P w=_;unfold Op.shift;rw[if_neg zo];simp only[Int.toNat_natCast,Nat.min_eq_left hn];rfl
theorem UM {op:BinOp}  {a b r:Int}(ho:op=.xor∨op=.or∨op=.and∨op=.andNot)(hr:∀w,(Op.intBits op kd a b).run P w=.ok (.int kd r) w)(hk:k (.int kd r)):aB P (Go.binOp op t (.int kd a) (.int kd b)) k :=
 aB.of (fun w=>by
  rw[←hr w];rcases ho with rfl|rfl|rfl|rfl<;>simp[Go.binOp]) hk
theorem OJ {a b:Int}(hk:k (.bool (a != b))):aB P (Go.binOp .neq t (.int kd a) (.int kd b)) k :=
 aB.of (fun w=>by simp[Go.binOp,Op.intCmp]) hk
theorem Iq {a b:Int}(hk:k (.bool (a == b))):aB P (Go.binOp .eql t (.int kd a) (.int kd b)) k :=
 aB.of (fun w=>by simp[Go.binOp,Op.intCmp]) hk
theorem zzC (ha:a<2 ^ 63)(hb:b<2 ^ 63)(hk:k (.int .i64 ((a ||| b:Nat):Int))):aB P (Go.binOp .or t (.int .i64 (a:Int)) (.int .i64 (b:Int))) k :=
 aB.of (fun w=>by
  have hx:a ||| b<2 ^ 63:=Nat.or_lt_two_pow ha hb
  rw[show Go.binOp .or t (.int .i64 (a:Int)) (.int .i64 (b:Int))=Op.intBits .or .i64 (a:Int) (b:Int) by simp[Go.binOp]];show(pure (Value.int .i64 (IntKind.i64.wrap ((BitVec.ofInt 64 (a:Int) ||| BitVec.ofInt 64 (b:Int)).toNat:Int))):Sem Value).run P w=_;rw[BitVec.toNat_or,BitVec.ofInt_natCast,BitVec.ofInt_natCast,BitVec.toNat_ofNat,BitVec.toNat_ofNat,Nat.mod_eq_of_lt zo,Nat.mod_eq_of_lt zo,IntKind.wrap_i64];rw[show((((a ||| b:Nat):Int))+9223372036854775808) % 18446744073709551616-9223372036854775808=((a ||| b:Nat):Int) by omega];rfl) hk
theorem M4 (ha:a<2 ^ 63)(hb:b<2 ^ 63)(hk:k (.int .i64 ((a ^^^ b:Nat):Int))):aB P (Go.binOp .xor t (.int .i64 (a:Int)) (.int .i64 (b:Int))) k :=
 aB.of (fun w=>by
  have hx:a ^^^ b<2 ^ 63:=Nat.xor_lt_two_pow ha hb;rw[show Go.binOp .xor t (.int .i64 (a:Int)) (.int .i64 (b:Int))=Op.intBits .xor .i64 (a:Int) (b:Int) by simp[Go.binOp]];show(pure (Value.int .i64 (IntKind.i64.wrap ((BitVec.ofInt 64 (a:Int) ^^^ BitVec.ofInt 64 (b:Int)).toNat:Int))):Sem Value).run P w=_;rw[BitVec.toNat_xor,BitVec.ofInt_natCast,BitVec.ofInt_natCast,BitVec.toNat_ofNat,BitVec.toNat_ofNat,Nat.mod_eq_of_lt zo,Nat.mod_eq_of_lt zo,IntKind.wrap_i64];rw[show((((a ^^^ b:Nat):Int))+9223372036854775808) % 18446744073709551616-9223372036854775808=((a ^^^ b:Nat):Int) by omega];rfl) hk
theorem Uu (ha:a<4294967296)(hb:b<4294967296)(hk:k (.int .u32 ((a ^^^ b:Nat):Int))):aB P (Go.binOp .xor t (.int .u32 (a:Int)) (.int .u32 (b:Int))) k :=
 UM (.inl rfl) (fun w=>by rw[←u32_xor_nat a b ha hb];rfl) hk
theorem zx2 (ha:a<4294967296)(hb:b<4294967296)(hk:k (.int .u32 ((a &&& b:Nat):Int))):aB P (Go.binOp .and t (.int .u32 (a:Int)) (.int .u32 (b:Int))) k :=
 UM (.inr (.inr (.inl rfl))) (fun w=>by rw[←u32_and_nat a b ha hb];rfl) hk
theorem zyx (h:a*b<4294967296)(hk:k (.int .u32 ((a*b:Nat):Int))):aB P (Go.binOp .mul t (.int .u32 (a:Int)) (.int .u32 (b:Int))) k :=
 aB.of (fun w=>by
  rw[show Go.binOp .mul t (.int .u32 (a:Int)) (.int .u32 (b:Int))=Op.intArith .mul .u32 (a:Int) (b:Int) by simp[Go.binOp]];show(pure (Value.int .u32 (IntKind.u32.wrap ((a:Int)*(b:Int)))):Sem Value).run P w=_;rw[IntKind.wrap_u32',show((a:Int)*(b:Int))=((a*b:Nat):Int) by simp,show(((a*b:Nat):Int)) % 4294967296=((a*b:Nat):Int) by omega];rfl) hk
theorem zyB (ha:a<4294967296)(hk:k (.int .u32 ((4294967295 ^^^ a:Nat):Int))):aB P (Op.unary .xor (.int .u32 (a:Int))) k :=
 aB.of (fun w=>by
  rw[←u32_xor_nat 4294967295 a zo ha];rfl) hk
theorem H2 {w:World}{src dst e:TypeId}{o c:Nat}{kk:Value→World→Prop}(hs:P.underlying src=some (.slice e))(he:P.underlying e=some (.int .u8))(hd:P.underlying dst=some .string)(hc:aH w b o (l.flatMap j1))(hl:l.length=n)(hk:kk (.string (bs l)) w) :
  dy P (Go.convert src dst (.slice (some ⟨b,o,none⟩) n c)) w kk:=by
 refine .quiet ?_ (run_convert_bytes_arg w src e hs he b o n c (l.map fun x=>(x.toNat:Int)) (by simpa using hl) (fun i hi=>?_) dst hd) rfl rfl ?_
 ·unfold Go.convert;refine Gap.aO hs (Gap.aO hd ?_);exact Gap.aO he (Gap.i0 _)
 ·have aQ:i<l.length:=by omega
  have:=hc i (.int .u8 (l[i].toNat:Int)) (by
   have:=AG oL (j:=0) (List.getElem?_eq_getElem aQ) rfl;simpa[j1]using this)
  rw[this];simp[List.getD,aQ]
 ·have:strOfNums (l.map fun x=>(x.toNat:Int))=bs l:=by
   unfold strOfNums bs;congr 2;rw[List.map_map]
   conv=>rhs;rw[←List.map_id l]
   apply List.map_congr_left;intro x _;simp
  rw[this];exact hk
theorem EN (v:Value)(n:Nat):(madeCells #[v] n).toList=List.replicate n v:=by
 unfold madeCells;apply List.ext_getElem?;intro i;by_cases h:i<n
 ·simp[h,Nat.mod_one]
 ·simp[h]
end
end Ev
section
open Ev Gap
variable [Gap.Leaps]
variable {H:List bZ}{b o:Nat}{S:Nat→Prop}{k:Value→Prop}{w w0:World}
theorem Ev.g9 {v:Value}(hc:w.cell? ⟨b,o,none⟩=some v)(hk:k v):uU w b o k:=⟨v,hc,hk⟩
theorem Ev.OH {n:Nat}{l:List Value}(hn:l.length=n)(hc:aH w b o l)(hk:k (.agg l.toArray)):uf w b o n k:=⟨l,hn,hc,hk⟩
theorem Ev.jr {T:Nat→Prop}  {v:Value}(hc:w.cell? ⟨b,o,none⟩=some v)(hT:¬T b)(hk:k v):rI (Ext T w) b o k:=⟨v,fun _ hw=>hw.cell hc hT,hk⟩
theorem Ev.vD {T:Nat→Prop}{n:Nat}{l:List Value}(hn:l.length=n)(hc:aH w b o l)(hT:¬T b)(hk:k (.agg l.toArray)):wD (Ext T w) b o n k:=⟨l,hn,fun _ hw=>hw.cells hc hT,hk⟩
theorem Ev.St.D5 (h:St w0 S w H)(i:Nat){e:TypeId}{size n o b:Nat}{n' c:Nat}{xs vs:List Value}{k:World→Prop}(hi:H[i]?=some (own e size (.slice (some ⟨b,0,none⟩) n' c) n xs))(hle:o+vs.length≤xs.length)(h1:vs.all kG=true)
  (hk:∀w',Ext (· = b) w w'→St w0 S w' (H.set i (own e size (.slice (some ⟨b,0,none⟩) n' c) n (over xs o vs)))→k w'):rL w b o vs k:=by
 obtain⟨t,cs,hb,hl,ho,_⟩:=(h.xB i hi hle h1 (k:=fun _=>True) fun _ _=>trivial).ex;have h2:=h.xB i hi hle h1 (k:=fun w'=>Ext (· = b) w w'→k w') fun w' hS hx=>hk w' hx hS
 obtain⟨t',kK,dk,dm,iQ,gO⟩:=h2.ex;exact⟨t',kK,dk,dm,iQ,gO (Ext.set (S:=(· = b)) (b:=b) rfl t' _)⟩
theorem Ev.St.mkSlice {P:Program}{α:Type}(h:St w0 S w H){t e:TypeId}{sz bytes n:Nat}{z:Value}{enc:α→List Value}{xs:List α}{kl kc:IntKind}{k:Value→World→Prop}
  (hu:P.underlying t=some (.slice e)) (hs:(P.info? e).map (fun i=>(i.size,i.bytes))=some (sz,bytes)) (hz:(P.info? e).bind (·.zero)=some z) (h1:n*sz≤16777216) (h2:bytes*n≤281474976710656) (h3:n≤maxLen)
  (hl:xs.length=n) (fZ:(madeCells z.cells (n*sz)).toList=xs.flatMap enc)
  (hk:∀b w',w0.heap.size≤b→St w0 S w' (H++[az e sz enc (.slice (some ⟨b,0,none⟩) n n) xs])→k (.slice (some ⟨b,0,none⟩) n n) w'):dy P (Instr.makeSlice t (.int kl (n:Int)) (.int kc (n:Int))) w k:=by
 obtain⟨ie,e1,e2⟩:=Option.map_eq_some_iff.1 hs;obtain⟨Kj,e3,e4⟩:=Option.bind_eq_some_iff.1 hz;obtain rfl:=Option.some.inj (e1.symm.trans e3);simp only[Prod.mk.injEq]at e2;refine .kR (Gap.kS _ _ _) fun gn gd=>?_
 replace h:=h.ed gn gd;generalize wgap w gn gd=w at h;obtain⟨w',hr,ho,hg⟩:=run_makeSlice_full (P:=P) w 0 t e ie z sz hu e1 e4 e2.1 kl kc n h1 (by rw[e2.2];exact h2) h3 (Nat.zero_le _);refine⟨_,_,hr,hk _ _ h.ext.size (h.made (Ext.oz hg |>.mono fun _ hb=>by cases hb) fq ?_ ?_)⟩
 ·unfold az own;rw[hl,←fZ];exact ho
 ·intro b hb;obtain rfl:b=w.heap.size:=by simpa[az,own,Value.ownBlock]using hb
  refine⟨Nat.le_refl _,?_⟩;obtain⟨_,⟨h6,_⟩|⟨g,cap,cur,h6,_,h7,_⟩⟩:=ho
  ·cases h6
  ·cases h6;exact(Array.getElem?_eq_some_iff.1 h7).1
theorem Ev.St.jN {α:Type}{sz:Nat}{enc:α→List Value}(h:St w0 S w H)(C:cR sz enc)(i:Nat){e:TypeId}{b n c o k:Nat}{xs:List α}{d x:α}{vs:List Value}{K:World→Prop}(hi:H[i]?=some (az e sz enc (.slice (some ⟨b,0,none⟩) n c) xs))(hd:xs[k]?=some d)(ho:o=k*sz)(hv:vs=enc x)
  (hk:∀w',Ext (· = b) w w'→St w0 S w' (H.set i (az e sz enc (.slice (some ⟨b,0,none⟩) n c) (xs.set k x)))→K w'):rL w b o vs K:=by
 subst ho;subst hv;have aQ:=(List.getElem?_eq_some_iff.1 hd).1;have hle:k*sz+sz≤xs.length*sz:=by rw[←Nat.succ_mul];exact Nat.mul_le_mul_right _ aQ
 refine h.D5 i hi (by rw[gU C,C.len];exact hle) (C.one x) (fun w' hx hS=>hk w' hx ?_);have e:=Eu C (k:=k) (j:=0) (y:=x) (vs:=enc x) hd (by rw[C.len];omega) (K8 (by rw[C.len,C.len]));rw[Nat.add_zero]at e;rw[e]at hS;unfold az;rw[List.length_set];exact hS
end
namespace Ev
open Go.WideShapes
variable [Gap.Leaps]
variable {α:Type}{H:List bZ}{sz:Nat}{S:Nat→Prop}{P:Program}{e t:TypeId}{w w0:World}{enc:α→List Value}
section
variable {w':World}   {G:α→Prop}{a:Option Addr}{n c:Nat}{xs:List α}
theorem oY (hu:P.underlying t=some (.slice e)):P.elem t=e:=by simp[Program.elem,hu]
theorem bQ.drop (h:bQ w sz enc G a n xs)(l:Nat)(hl:l≤n)(a':Option Addr)(ha:l<n→a'=a.map (·.add (l*sz))):bQ w sz enc G a' (n-l) (xs.drop l):=by
 refine⟨by rw[List.length_drop,h.len],by have:=h.max;omega,fun k x hx=>?_,fun x hx=>h.lg x (List.mem_of_mem_drop hx)⟩;rw[List.getElem?_drop]at hx;have lt:=(List.getElem?_eq_some_iff.1 hx).1;rw[h.len]at lt;obtain⟨b,o,rfl,hb,hc⟩:=h.cells _ _ hx;refine⟨b,o+l*sz,by rw[ha zo,Option.map_some,oZ],hb,?_⟩;have:o+l*sz+k*sz=o+(l+k)*sz:=by rw[Nat.add_mul];omega
 rw[this];exact hc
theorem bQ.take (h:bQ w sz enc G a n xs)(l:Nat)(hl:l≤n)(a':Option Addr)(ha:0<n→a'=a):bQ w sz enc G a' l (xs.take l):=by
 refine⟨by rw[List.length_take,h.len];omega,by have:=h.max;omega,fun k x hx=>?_,fun x hx=>h.lg x (List.mem_of_mem_take hx)⟩;have lt:=(List.getElem?_eq_some_iff.1 hx).1;rw[List.length_take]at lt;rw[List.getElem?_take_of_lt zo]at hx;have XF:=(List.getElem?_eq_some_iff.1 hx).1;rw[h.len]at XF;obtain⟨b,o,mz,hb,hc⟩:=h.cells _ _ hx;exact⟨b,o,by rw[ha zo,mz],hb,hc⟩
theorem TU {q:IntKind}{i:Int}{j:Nat}{k:Value→Prop}(hx:bQ w sz enc G a n xs)(ux:n≤c)(hu:P.underlying t=some (.slice e))(he:(P.info? e).isSome=true)(hi:i=(j:Int))(hj:j≤n)
  (hk:∀a' c',bQ w sz enc G a' j (xs.take j)→k (.slice a' j c')):aB P (Instr.sliceAt t (.slice a n c) none (some (.int q i)) none) k:=by
 subst hi;have ht:P.underlying t=some (.slice (P.elem t)):=by rw[oY hu];exact hu
 refine aB.of (v:=.slice (if c=0 then a else a.map (·.add 0)) j c) (fun w=>?_) (hk _ _ (hx.take j hj _ fun h0=>?_))
 ·rw[run_sliceAt_slice w t _ _ _ _ ht,run_slice_h w t a n c ht q _ zo zo,oY hu,ny he];simp[sliced]
 ·obtain⟨x,ij⟩:∃x,xs[0]?=some x:=⟨_,List.getElem?_eq_getElem (by rw[hx.len];exact h0)⟩;obtain⟨b,o,rfl,_⟩:=hx.cells 0 x ij;split<;>rfl
theorem TV {q:IntKind}{i:Int}{j:Nat}{k:Value→Prop}(hx:bQ w sz enc G a n xs)(ux:n≤c)(hu:P.underlying t=some (.slice e))(he:(P.info? e).isSome=true)(hsz:P.cellsOf e=sz)(hi:i=(j:Int))(hj:j≤n)
  (hk:∀a' c',bQ w sz enc G a' (n-j) (xs.drop j)→n-j≤c'→k (.slice a' (n-j) c')):aB P (Instr.sliceAt t (.slice a n c) (some (.int q i)) none none) k:=by
 subst hi;have ht:P.underlying t=some (.slice (P.elem t)):=by rw[oY hu];exact hu
 refine aB.of (v:=.slice (if c=j then a else a.map (·.add (j*sz))) (n-j) (c-j)) (fun w=>?_) (hk _ _ (hx.drop j hj _ fun h0=>if_neg zo) zo);rw[run_sliceAt_slice w t _ _ _ _ ht,run_slice_l w t a n c ht q _ zo zo,oY hu,ny he,hsz];simp[sliced]
end
theorem T0 {n:Nat}  {v:Value}  {xs:List α}(h:(az e sz enc v xs).holds w)(hg:v.ownBlock=some n):n<w.heap.size:=by
 obtain⟨_,⟨h1,_⟩|⟨g',cap,cur,h1,_,h2,_⟩⟩:=h
 ·rw[h1]at hg;simp[Value.ownBlock]at hg
 ·rw[h1]at hg;simp only[Value.ownBlock,Option.some.injEq]at hg;subst hg;exact(Array.getElem?_eq_some_iff.1 h2).1
theorem St.fR (h:St w0 S w H)(C:cR sz enc)(i:Nat){t e:TypeId}{bytes:Nat}{z v:Value}{a:Option Addr}{m c:Nat}{G:α→Prop}{xs ys:List α}{k:Value→World→Prop}
  (hu:P.underlying t=some (.slice e)) (hs:(P.info? e).map (fun i=>(i.size,i.bytes))=some (sz,bytes)) (hz:(P.info? e).bind (·.zero)=some z) (qn:Nat.beq z.cells.size sz=true)
  (hi:H[i]?=some (az e sz enc v xs)) (hy:bQ w sz enc G a m ys) (yD:xs.length+m≤maxLen) (pz:(xs.length+m)*bytes≤140737488355328)
  (hk:∀a' c' w',Ext (fun q=>v.ownBlock=some q) w w'→St w0 S w' (H.set i (az e sz enc (.slice a' (xs.length+m) c') (xs++ys)))→k (.slice a' (xs.length+m) c') w') :
  dy P (Builtin.append_ #[t,t] 0 #[v,.slice a m c]) w k:=by
 have ho:=h.get i hi
 have eE:St w (fun q=>v.ownBlock=some q) w [az e sz enc v xs]:=(St.start w _).add fq ho (fun q hq=>by
  have hq:v.ownBlock=some q:=by simpa[az,own]using hq
  exact⟨.inl hq,T0 ho hq⟩) zi
 refine eE.d8 C 0 hu hs hz qn rfl hy yD pz (fun a' c' w' Fz=>?_);refine hk a' c' w' Fz.ext (h.upd i hi Fz.ext (fun q hq=>by simp[az,own,hq]) fq (Fz.get 0 rfl) fun q hq=>?_);have hm:=Fz.may _ (List.mem_of_getElem? (i:=0) rfl) q (by simpa using hq);rcases hm with⟨h1|h1,h2⟩
 ·exact .inl (by simp[az,own,h1])
 ·exact .inr ⟨h1,h2⟩
theorem St.fz (h:St w0 S w H){t e:TypeId}{len sz:Nat}{z:Value}{parts:Array (Nat × Value)}{cs:List Value}{k:Value→World→Prop}
  (hu:P.underlying t=some (.slice e)) (hs:(P.info? e).map (·.size)=some sz) (hz:(P.info? e).bind (·.zero)=some z) (fi:Nat.ble (len*sz) (2 ^ 24)=true) (gQ:Nat.beq (len*sz) 0=false)
  (hf:BV sz (HS z (len*sz)) parts.toList=some cs)
  (hk:∀b w',w.heap.size≤b→Ext No w w'→St w0 S w' (H++[Ev.blk b e cs])→k (.slice (some ⟨b,0,none⟩) len len) w'):dy P (Instr.buildSlice t len parts) w k:=by
 refine(St.start w No).lit hu hs hz fi gQ hf (fun b w' hb hS=>?_);refine hk b w' hb hS.ext (h.made hS.ext (eh _ _ _) (hS.get 0 rfl) fun q hq=>?_);obtain rfl:q=b:=by simpa[Ev.blk]using hq
 exact⟨hb,(hS.blk 0 rfl).lt⟩
end Ev
section
open Ev
variable [Gap.Leaps]
variable {H:List bZ}{S:Nat→Prop}{w w0:World}
theorem Ev.St.ref (_:St w0 S w H)(T:Nat→Prop):Ext T w w:=Ext.refl _ _
theorem Ev.St.kD {w1:World}{T:Nat→Prop}(h:St w0 S w H)(hK:Ext T w1 w)(i:Nat){b o:Nat}{t:TypeId}{cs vs:List Value}{k:World→Prop}(hi:H[i]?=some (Ev.blk b t cs))(hle:o+vs.length≤cs.length)(h1:vs.all kG=true)(hT:T b)
  (hk:∀w',Ext T w1 w'→St w0 S w' (H.set i (Ev.blk b t (over cs o vs)))→k w'):rL w b o vs k:=by
 have hb:=h.blk i hi;have hx:Ext (· = b) w (jT w b t (over cs o vs)):=Ext.set (S:=(· = b)) (b:=b) rfl t _;exact⟨t,cs,hb,hle,by simpa using h1,hk _ (hK.trans (hx.mono fun c hc=>hc ▸ hT)) (h.upd i hi hx (fun c hc=>by simp[Ev.blk,hc]) (eh _ _ _) (AF hb.lt) (fun c hc=>.inl hc))⟩
theorem Ev.St.DZ {w1:World}{T:Nat→Prop}(h:St w0 S w H)(hK:Ext T w1 w){t:TypeId}{cs:List Value}{k:Value→World→Prop}(hk:∀b w',Ext T w1 w'→St w0 S w' (H++[Ev.blk b t cs])→k (.pointer (some ⟨b,0,none⟩)) w'):mM w t cs k:=by
 obtain⟨h1⟩:=h.new (t:=t) (cs:=cs) (k:=fun v w'=>Ext T w1 w'→k v w') (fun b w' _ hS hx=>hk b w' hx hS);exact⟨fun n d=>h1 n d ((hK.trans (Ext.ed _ _ _ _)).trans (Ext.push _ _ _ _))⟩
end
namespace Ev
open Go.Conc Gap
variable [Gap.Leaps]
section
variable {P:Program}{τ:Tab}{N:Nat}{σ:cr}{a:Act}{w:World}{main:Bool}{Z:Nat→Prop}{Stop:(Nat→Prop)→Goroutine→World→Prop}{O:Nat→Prop}{W:World}{b:Frame}{k:List Item}{cs:List Frame}
theorem mi (hτ:cO P τ){c:Code}{Q:Exit→cr→World→Prop}(hb:b.kind≠.early)(hf:Fits N σ a)(hl:dx O Z w W)(h:oP P τ N c Q σ w)
  (hk:∀e σ' a' w' O' W',(∀x,O x→O' x)→dx O' Z w' W'→Fits N σ' a'→Q e σ' w'→(e=.normal∨e=.ret∨∃i,e=.exit i)→k5 P main Z Stop b k cs e O' a' W'):Gap.Way P main Z Stop O (G (b.at a (.code c::k)) cs) W:=by
 rw[wb]at h;refine vQ hτ c Q σ a w hf h main Z Stop O W b k cs hb hl fun e a' w' O' W' ho dm q=>?_
 cases e with
 | normal=>obtain⟨σ',dH,hq⟩:=q;exact hk _ _ _ _ _ _ ho dm dH hq (.inl rfl)
 | ret=>obtain⟨σ',dH,hq⟩:=q;exact hk _ _ _ _ _ _ ho dm dH hq (.inr (.inl rfl))
 | exit i=>obtain⟨σ',dH,hq⟩:=q;exact hk _ _ _ _ _ _ ho dm dH hq (.inr (.inr ⟨i,rfl⟩))
 | goto l=>exact q.elim
 | panic c=>exact q.elim
 | outgrown=>exact q.elim
theorem Ej (hτ:cO P τ){ops:Array Oper}{Q:cr→World→Prop}{tail:List Nat}(hb:b.kind≠.early) :
  ∀(l:List Oper) (i:Nat) (σ:cr) (a:Act) (w:World) (O:Nat→Prop) (W:World),(∀j o,l[j]?=some o→ops[i+j]?=some o)→Fits N σ a→dx O Z w W→uQ P τ N ops.toList l Q σ w →
   (∀σ' a' w' O' W',(∀x,O x→O' x)→dx O' Z w' W'→Fits N σ' a'→Q σ' w'→Gap.Way P main Z Stop O' (G (b.at a' (.inRegion ops tail::k)) cs) W')→Gap.Way P main Z Stop O (G (b.at a (.inRegion ops (List.range' i l.length++tail)::k)) cs) W
 | [],i,σ,a,w,O,W,_,hf,hl,h,hk=>hk σ a w O W (fun _ h=>h) hl hf h
 | o::rest,i,σ,a,w,O,W,hd,hf,hl,h,hk=>by
  have ho:ops[i]?=some o:=hd 0 o rfl
  have jZ:∀j o',rest[j]?=some o'→ops[i+1+j]?=some o':=fun j o' hj=>by
   have:=hd (j+1) o' (by simpa using hj)
   rwa [show i+(j+1)=i+1+j by omega]at this
  obtain⟨dst,op,ty,pos,after,g⟩:=o;unfold uQ at h;rw[List.length_cons,List.range'_succ,List.cons_append];rcases Eh (o:=⟨dst,op,ty,pos,after,g⟩) hf h with⟨hw,σ',dH,h2⟩|⟨hw,σ',dH,h2⟩
  ·split at h2
   ·split at h2
    ·rename_i CY;obtain⟨v,hv,h3⟩:=h2.ex;obtain⟨iz,dI,h4⟩:=oH dH h3;refine Hv (K:=fun a' w'=>a'=a.put dst v∧w'=w) ho hw hb hl (.inl ⟨.value v,w,QO dH (o:=⟨dst,op,ty,pos,after,g⟩) CY hv,rfl,rfl⟩) fun a' w' O' W' iQ dm ⟨e1,e2⟩=>?_
     subst e1 e2;exact Ej hτ hb rest (i+1) iz _ _ O' W' jZ dI dm h4 fun σ' a' w' sA sC pH=>hk σ' a' w' sA sC fun x hx=>pH x (iQ x hx)
    ·have hp:=GL (o:=⟨dst,op,ty,pos,after,g⟩) hτ dH h2;obtain⟨v,hv,h3⟩:=GM (o:=⟨dst,op,ty,pos,after,g⟩) hτ dH h2;obtain⟨iz,dI,h4⟩:=oH dH h3;refine Hv (K:=fun a' w'=>a'=a.put dst v∧w'=w) ho hw hb hl (.inl ⟨.value v,w,.of hp (hv w) rfl rfl,rfl,rfl⟩) fun a' w' O' W' iQ dm ⟨e1,e2⟩=>?_
     subst e1 e2;exact Ej hτ hb rest (i+1) iz _ _ O' W' jZ dI dm h4 fun σ' a' w' sA sC pH=>hk σ' a' w' sA sC fun x hx=>pH x (iQ x hx)
   ·refine Hv ho hw hb hl (Gi (o:=⟨dst,op,ty,pos,after,g⟩) hτ dH h2) fun a' w' O' W' iQ dm ⟨v,e1,h3⟩=>?_
    subst e1;obtain⟨iz,dI,h4⟩:=oH dH h3;exact Ej hτ hb rest (i+1) iz _ _ O' W' jZ dI dm h4 fun σ' a' w' sA sC pH=>hk σ' a' w' sA sC fun x hx=>pH x (iQ x hx)
  ·obtain⟨iz,dI,h4⟩:=oH dH h2;refine .ctl rfl (fun _=>stepG_unwanted ho hw) ?_;exact Ej hτ hb rest (i+1) iz _ _ O W jZ dI hl h4 hk
theorem vW (hτ:cO P τ){ops:Array Oper}{Q:cr→World→Prop}{tail ix:List Nat}(i n:Nat)(Wz:ix=List.range' i ((ops.toList.drop i).take n).length++tail)(hb:b.kind≠.early)(hf:Fits N σ a)(hl:dx O Z w W)(h:kV P τ N ops.toList Q ((ops.toList.drop i).take n) σ w)
  (hk:∀σ' a' w' O' W',(∀x,O x→O' x)→dx O' Z w' W'→Fits N σ' a'→Q σ' w'→Gap.Way P main Z Stop O' (G (b.at a' (.inRegion ops tail::k)) cs) W'):Gap.Way P main Z Stop O (G (b.at a (.inRegion ops ix::k)) cs) W:=by
 rw[LA]at h;rw[Wz];refine Ej hτ hb _ i σ a w O W (fun j o hj=>?_) hf hl h hk;rw[List.getElem?_take]at hj;split at hj
 ·rw[List.getElem?_drop]at hj;simpa using hj
 ·cases hj
end
end Ev
section
open Ev
variable [Gap.Leaps]
variable {ks:List Nat}{n:Nat}{E:Nat→Addr}{P:Program}{w:World}
abbrev eY (x:Int):List Value:=[.int .i64 x]
def gC (E:Nat→Addr):Nat→Value
 | 0=>.nilIface
 | k+1=>.iface 390 (.pointer (some (E (k+1))))
def nI:Nat→Nat
 | 1=>2
 | 2=>1
 | 3=>0
 | 4=>3
 | 5=>4
 | 6=>5
 | 7=>6
 | 8=>7
 | 9=>8
 | 10=>9
 | _=>10
def uN {H:Type}:Nat→String × DataW H
 | 1 => ("twinrampart/api.ErrText", .iface "*errors.errorString" (.ptr (.agg [.lit (.string [116, 119, 105, 110, 114, 97, 109, 112, 97, 114, 116, 58, 32, 116, 101, 120, 116])])))
 | 2 => ("twinrampart/api.ErrBound", .iface "*errors.errorString" (.ptr (.agg [.lit (.string [116, 119, 105, 110, 114, 97, 109, 112, 97, 114, 116, 58, 32, 98, 111, 117, 110, 100])])))
 | 3 => ("twinrampart/api.ErrShape", .iface "*errors.errorString" (.ptr (.agg [.lit (.string [116, 119, 105, 110, 114, 97, 109, 112, 97, 114, 116, 58, 32, 115, 104, 97, 112, 101])])))
 | 4 => ("twinrampart/api.ErrNone", .iface "*errors.errorString" (.ptr (.agg [.lit (.string [116, 119, 105, 110, 114, 97, 109, 112, 97, 114, 116, 58, 32, 110, 111, 110, 101])])))
 | 5 => ("twinrampart/api.ErrExist", .iface "*errors.errorString" (.ptr (.agg [.lit (.string [116, 119, 105, 110, 114, 97, 109, 112, 97, 114, 116, 58, 32, 101, 120, 105, 115, 116])])))
 | 6 => ("twinrampart/api.ErrFull", .iface "*errors.errorString" (.ptr (.agg [.lit (.string [116, 119, 105, 110, 114, 97, 109, 112, 97, 114, 116, 58, 32, 102, 117, 108, 108])])))
 | 7 => ("twinrampart/api.ErrOff", .iface "*errors.errorString" (.ptr (.agg [.lit (.string [116, 119, 105, 110, 114, 97, 109, 112, 97, 114, 116, 58, 32, 111, 102, 102])])))
 | 8 => ("twinrampart/api.ErrDeny", .iface "*errors.errorString" (.ptr (.agg [.lit (.string [116, 119, 105, 110, 114, 97, 109, 112, 97, 114, 116, 58, 32, 100, 101, 110, 121])])))
 | 9 => ("twinrampart/api.ErrState", .iface "*errors.errorString" (.ptr (.agg [.lit (.string [116, 119, 105, 110, 114, 97, 109, 112, 97, 114, 116, 58, 32, 115, 116, 97, 116, 101])])))
 | 10 => ("twinrampart/api.ErrOld", .iface "*errors.errorString" (.ptr (.agg [.lit (.string [116, 119, 105, 110, 114, 97, 109, 112, 97, 114, 116, 58, 32, 111, 108, 100])])))
 | _ => ("twinrampart/api.ErrHeld", .iface "*errors.errorString" (.ptr (.agg [.lit (.string [116, 119, 105, 110, 114, 97, 109, 112, 97, 114, 116, 58, 32, 104, 101, 108, 100])])))
theorem Ek (k:Nat):prog.globalNamed (uN (H:=Unit) k).1=some (nI k)∧(prog.globals[nI k]?).map (·.type)=some 28:=by
 unfold uN nI;split<;>exact⟨zk,zk⟩
theorem Gk (k : Nat) : ∃ n text, uN (H := Unit) k = (n, .iface "*errors.errorString" (.ptr (.agg [.lit (.string text)]))) := by
 unfold uN;split<;>exact⟨_,_,rfl⟩
theorem TH : "*" ++ "errors.errorString" = "*errors.errorString" := by decide
theorem Qm (u : TypeId) (h : prog.typeName? 3 u = some "*errors.errorString") : u = 390 :=
 typeName_ptr_named (nm := "errors.errorString") (by rw [TH]; kernel_rfl) zk zd u (by rw [TH]; exact h)
structure bF (w:World)(E:Nat→Addr)(n:Nat)(ks:List Nat):Prop where
 at_:∀k,ks.contains k=true→w.cell? ⟨nI k,0,none⟩=some (.iface 390 (.pointer (some (E k))))
 lt:∀k,ks.contains k=true→nI k<n
 row:∀k,ks.contains k=true→(∃o,w.heap[(E k).block]?=some o∧Gap.kv o=true)∧(E k).block<n
 inj:∀j k,ks.contains j=true→ks.contains k=true→j≠k→E j≠E k
theorem bF.ext {w':World}    {S:Nat→Prop}(h:bF w E n ks)(hx:Ext S w w')(hS:∀b,S b→n≤b):bF w' E n ks :=
 ⟨fun k hk=>hx.cell (h.at_ k hk) (fun hs=>by have:=hS _ hs;have:=h.lt k hk;omega),h.lt,fun k hk=>by
  obtain⟨⟨o,hc,hf⟩,hb⟩:=h.row k hk;refine⟨⟨o,?_,hf⟩,hb⟩;rw[hx.block _ (Array.getElem?_eq_some_iff.1 hc).1 (fun hs=>by have:=hS _ hs;omega)];exact hc,h.inj⟩
theorem bF.sub {pO:List Nat}(h:bF w E n ks)(hs:pO.all (fun k=>ks.contains k)=true):bF w E n pO:=by
 have key:∀k,pO.contains k=true→ks.contains k=true:=fun k hk=>List.all_eq_true.1 hs k (by simpa using hk)
 exact⟨fun k hk=>h.at_ k (key k hk),fun k hk=>h.lt k (key k hk),fun k hk=>h.row k (key k hk),fun j k hj hk=>h.inj j k (key j hj) (key k hk)⟩
theorem bF.ne (h:bF w E n ks)(k:Nat)(hk:ks.contains k=true){b:Nat}(hb:n≤b):nI k≠b:=by
 have:=h.lt k hk;omega
theorem Zp {l l':List (String × DataW Unit)}(hs:l'.Sublist l):∀{ps:List MemPlace},DataW.LaidVars P w l ps→∃F6,DataW.LaidVars P w l' F6∧F6.Sublist ps:=by
 induction hs with
 | slnil=>exact fun {ps} h=>⟨ps,h,List.Sublist.refl _⟩
 | cons x hs ih =>
  intro ps h;obtain⟨n,d⟩:=x;obtain⟨g,t,cs,fuel,p,q,e1,e2,e3,e4,hr,rfl⟩:=h;obtain⟨q',hq,hs⟩:=ih hr;exact⟨q',hq,hs.trans (List.sublist_append_right _ _)⟩
 | cons_cons x hs ih =>
  intro ps h;obtain⟨n,d⟩:=x;obtain⟨g,t,cs,fuel,p,q,e1,e2,e3,e4,hr,rfl⟩:=h;obtain⟨q',hq,hs⟩:=ih hr;exact⟨_,⟨g,t,cs,fuel,p,q',e1,e2,e3,e4,hq,rfl⟩,List.Sublist.append (List.Sublist.refl _) hs⟩
theorem KO {l l':List (String × DataW Unit)}(hs:l'.Sublist l)(h:laidMet P l w):laidMet P l' w:=by
 obtain⟨ps,hl,vn,qk⟩:=h;obtain⟨F6,dm,hs⟩:=Zp hs hl;exact⟨F6,dm,vn.sublist hs,fun b off hp=>qk b off (hs.subset hp)⟩
theorem ztp {α:Type}{x y:α}(cj:x≠y){l:List α}(hx:x∈l)(hy:y∈l):[x,y].Sublist l∨[y,x].Sublist l:=by
 induction l with
 | nil=>cases hx
 | cons z l ih =>
  rcases List.mem_cons.1 hx with h1|h1
  ·rcases List.mem_cons.1 hy with h2|h2
   ·exact absurd (h1.trans h2.symm) cj
   ·subst h1;exact .inl (.cons_cons _ (List.singleton_sublist.2 h2))
  ·rcases List.mem_cons.1 hy with h2|h2
   ·subst h2;exact .inr (.cons_cons _ (List.singleton_sublist.2 h1))
   ·rcases ih h1 h2 with h|h
    ·exact .inl (.cons _ h)
    ·exact .inr (.cons _ h)
theorem zs1 (j:Nat)(hj:j<12)(k:Nat)(hk:k<12)(j0:1≤j)(k0:1≤k)(cj:j≠k):nI j≠nI k:=by
 have h:((List.range 12).all fun j=>(List.range 12).all fun k=>Nat.ble j 0||Nat.ble k 0||Nat.beq j k||!Nat.beq (nI j) (nI k))=true:=by rfl
 have h1:=List.all_eq_true.1 (List.all_eq_true.1 h j (List.mem_range.2 hj)) k (List.mem_range.2 hk);intro he;rw[he]at h1;simp at h1;omega
theorem zrF {n nm:String}{text:List UInt8}{W:World}{g:Nat}{ti tp te ts:TypeId}{ms:Array (String × TypeId)}{f:Field}
  (h:laidMet P [(n,.iface nm (.ptr (.agg [.lit (.string text)])))] W)
  (hg:P.globalNamed n=some g) (ht:(P.globals[g]?).map (·.type)=some ti) (hi:P.underlying ti=some (.interface ms)) (iZ:∀u,P.typeName? 3 u=some nm→u=tp)
  (hp:P.underlying tp=some (.pointer te)) (he:P.underlying te=some (.struct #[f])) (y1:f.type=ts) (FE:f.offset=0) (hs:P.underlying ts=some .string) (hc:P.cellsOf te=1) (fZ:P.cellsOf ts=1) :
  ∃(a:Addr),W.cell? ⟨g,0,none⟩=some (.iface tp (.pointer (some a)))∧(∃c t,W.heap[a.block]?=some (.cells c t (0,0))):=by
 obtain⟨ps,⟨g0,t0,oO,f0,p0,q0,qV,Xh,xn,FD,_,e0⟩,_,qk⟩:=h;obtain rfl:=Option.some.inj (hg.symm.trans qV);obtain rfl:=Option.some.inj (ht.symm.trans Xh);subst e0;obtain⟨l0⟩:=oO
 have Kt:∀u v,l0=[.iface u v]→Value.okWide P W .any 0 u v:=fun u v e=>by
  subst e;exact(qk g 0 (by simp[MemPlace.row])).2 u v (by simpa using World.var?_cell qV xn 0)
 obtain⟨a0,s0,rfl,j4,jG,hz0,rfl⟩:=errorString_of_trod hi iZ hp he y1 FE hs hc fZ FD Kt;refine⟨a0,by simpa using World.var?_cell qV xn 0,?_⟩;obtain⟨c,t,hb⟩:=(qk a0.block a0.off (by simp[MemPlace.row])).1;exact⟨c,t,hb⟩
theorem errs_of {L:List (String × DataW Unit)}{W:World}(ks:List Nat)(FL:ks.all (fun k=>decide (1≤k∧k<12))=true)(hl:laidMetH prog L W)(hm:∀k∈ks,uN k∈L):∃E,bF W E W.heap.size ks∧∀k,ks.contains k=true→∃c t,W.heap[(E k).block]?=some (.cells c t (0,0)):=by
 have h1:=(laidMetH_iff.1 hl).1
 have ez:∀k,k∈ks→uN (H:=Unit) k∈L.filter fun x=>x.2.handleName?.isNone:=fun k hk=>by
  obtain⟨n,text,hf⟩:=Gk k;refine List.mem_filter.2 ⟨hm k hk,?_⟩;rw[hf];rfl
 have key:∀k,∃a:Addr,k∈ks→W.cell? ⟨nI k,0,none⟩=some (.iface 390 (.pointer (some a)))∧(∃c t,W.heap[a.block]?=some (.cells c t (0,0))):=by
  intro k;by_cases hk:k∈ks
  ·have iw:=ez k hk;obtain⟨hg,ht⟩:=Ek k;obtain⟨n,text,hf⟩:=Gk k;rw[hf]at iw hg;have h2:=KO (List.singleton_sublist.2 iw) h1;obtain⟨a,h3,h4⟩:=zrF (P:=prog) h2 hg ht underlying28 Qm underlying390 underlying392 rfl rfl underlying9 zk zk;exact⟨a,fun _=>⟨h3,h4⟩⟩
  ·exact⟨⟨0,0,none⟩,fun h=>absurd h hk⟩
 have spec:∀k,ks.contains k=true→_:=fun k hk=>(key k).choose_spec (by simpa using hk)
 refine⟨fun k=>(key k).choose,⟨fun k hk=>(spec k hk).1,fun k hk=>?_,fun k hk=>?_,fun j k hj hk cj=>?_⟩,fun k hk=>(spec k hk).2⟩
 ·exact sd (spec k hk).1
 ·obtain⟨_,c,t,hc⟩:=spec k hk;exact⟨⟨_,hc,rfl⟩,(Array.getElem?_eq_some_iff.1 hc).1⟩
 ·have bj:=of_decide_eq_true (List.all_eq_true.1 FL j (by simpa using hj));have bk:=of_decide_eq_true (List.all_eq_true.1 FL k (by simpa using hk));have Vz:=zs1 j bj.2 k bk.2 bj.1 bk.1 cj
  have two:∀j k,ks.contains j=true→ks.contains k=true→[uN (H:=Unit) j,uN k].Sublist (L.filter fun x=>x.2.handleName?.isNone)→(key j).choose≠(key k).choose:=by
   intro j k hj hk eT;have h2:=KO eT h1;obtain⟨wX,Xk⟩:=Ek j;obtain⟨rT,gv⟩:=Ek k;obtain⟨nj,OP,N9⟩:=Gk j;obtain⟨nk,OQ,Bg⟩:=Gk k;rw[N9]at wX;rw[Bg]at rT;rw[N9,Bg]at h2;obtain⟨a0,a1,_,_,_,_,_,_,v0,v1,_,_,_,_,_,_,JC,_⟩:=laid_sentinels2 (P:=prog) h2 wX Xk rT gv underlying28 Qm underlying390 underlying392 rfl rfl underlying9 zk zk;have c0:W.cell? ⟨nI j,0,none⟩=some (.iface 390 (.pointer (some a0))):=by simpa using World.var?_cell wX v0 0
   have c1:W.cell? ⟨nI k,0,none⟩=some (.iface 390 (.pointer (some a1))):=by simpa using World.var?_cell rT v1 0
   have d0:=(spec j hj).1;have d1:=(spec k hk).1;have d0:=c0.symm.trans d0;have d1:=c1.symm.trans d1;simp only[Option.some.injEq,Value.iface.injEq,Value.pointer.injEq,true_and]at d0 d1;intro he;exact JC (d0.trans (he.trans d1.symm))
  have JQ:uN (H:=Unit) j≠uN k:=by
   intro he;have a:=(Ek j).1;rw[he,(Ek k).1]at a;exact Vz (Option.some.inj a).symm
  rcases ztp JQ (ez j (by simpa using hj)) (ez k (by simpa using hk)) with h|h
  ·exact two j k hj hk h
  ·exact(two k j hk hj h).symm
open Gap
section
variable {ti tp te:TypeId}{ms:Array (String × TypeId)}{i j:TypeInfo}{a b:Addr}
theorem Zg {t:TypeId}{i:TypeInfo}{β:Type}{f:TypeInfo→Sem β}(h:P.info? t=some i)(hf:Plain P (f i)):Plain P (typeInfo t >>= f):=by
 unfold typeInfo
 show Plain P ((match P.info? t with | some i => pure i | none => stuck "no such type") >>= f)
 rw[h];exact hf
theorem Pe (hi:P.underlying ti=some (.interface ms))(hp:P.underlying tp=some (.pointer te))(lC:P.info? tp=some i)(lu:i.comparable=true)(zW:P.info? te=some j) :
  Quiet P (Go.binOp .eql ti (.iface tp (.pointer (some a))) (.iface tp (.pointer (some a)))) w (.bool true) w:=by
 refine .of (xR ?_) (run_eql_iface_ptr_same w a hi hp lC lu zW) rfl rfl;unfold Op.equalIn;refine aO hi ?_;dsimp only;rw[if_neg zi];refine Zg lC ?_;rw[if_neg (by simp[lu])];unfold Op.equalIn;refine aO hp ?_;dsimp only;refine KM (by rw[zW];rfl) ?_
 have hs:sameAddr a a=(pure true:Sem Bool):=by
  unfold sameAddr;simp
 split
 ·rw[hs];trivial
 ·simp only[BEq.rfl,if_true];trivial
theorem OZ {oa ob:Obj}(hi:P.underlying ti=some (.interface ms))(hp:P.underlying tp=some (.pointer te))(lC:P.info? tp=some i)(lu:i.comparable=true)(zW:P.info? te=some j)(hsz:j.size≠0)
  (cj:a≠b) (ha:w.heap[a.block]?=some oa) (fa:kv oa=true) (hb:w.heap[b.block]?=some ob) (fb:kv ob=true) :
  Quiet P (Go.binOp .eql ti (.iface tp (.pointer (some a))) (.iface tp (.pointer (some b)))) w (.bool false) w:=by
 intro O Z W hl;obtain⟨c1,t1,h1⟩:=Hi hl ha fa;obtain⟨c2,t2,h2⟩:=Hi hl hb fb;refine⟨W,⟨run_eql_iface_ptr_other W hi hp lC lu zW hsz cj h1 h2,rfl,rfl,rfl,Nat.le_refl _,fun _ _ _=>rfl,fun ev hev=>?_⟩,by rw[eM];exact hl,rfl⟩;exfalso
 have key:∀d,(Op.equalIn (d+2) ti (.iface tp (.pointer (some a))) (.iface tp (.pointer (some b)))).events P W #[] = #[]:=fun d=>by
  by_cases gY:a.block=b.block
  ·simp[Op.equalIn,run_underlying hi,run_underlying hp,typeInfo,lC,lu,sizeOf,zW,hsz,sameAddr,gY,cj]
  ·simp[Op.equalIn,run_underlying hi,run_underlying hp,typeInfo,lC,lu,sizeOf,zW,hsz,sameAddr,gY,World.frozen?,h1,h2,noView,viewAt,World.shape?,mayBeOne,stringish]
 have cm:=run_equalIn_iface_ptr_other (P:=P) W 9998 hi hp lC lu zW hsz cj h1 h2;have e:(Go.binOp .eql ti (.iface tp (.pointer (some a))) (.iface tp (.pointer (some b))))=(Op.equalIn (9998+2) ti (.iface tp (.pointer (some a))) (.iface tp (.pointer (some b))) >>= fun r=>(pure (.bool r):Sem Value)):=rfl;rw[e,Sem.events_bind,cm,key]at hev;simp at hev
theorem ZW {t u:TypeId}{x y:Value}(hi:P.underlying ti=some (.interface ms))(cj:t≠u):Quiet P (Go.binOp .eql ti (.iface t x) (.iface u y)) w (.bool false) w:=by
 refine .of (xR ?_) (run_eql_iface_types _ _ _ _ hi cj w) rfl rfl;unfold Op.equalIn;refine aO hi ?_;dsimp only;rw[if_pos cj];trivial
end
end
namespace Pool
open Go.Conc Gap Ev
open Go.ConcN (WgLive)
open Go.ConcR (Payload)
local instance:Gap.Leaps:=uH
def Nd:Obj→Obj
 | .cells c t f=>we c t f
 | _=>uS
open Classical in
noncomputable def view (O Z:Nat→Prop)(W:World):World:={ W with heap:=W.heap.mapIdx fun b o=>if O b then o else if Z b then Nd o else uS }
section
variable {O Z:Nat→Prop}{W:World}{b:Nat}
theorem uK (h:O b):(view O Z W).heap[b]?=W.heap[b]?:=by
 simp only[view,Array.getElem?_mapIdx];cases W.heap[b]?<;>simp[h]
theorem Mo (h:¬O b)(hz:Z b):(view O Z W).heap[b]?=(W.heap[b]?).map Nd:=by
 simp only[view,Array.getElem?_mapIdx,if_neg h,if_pos hz]
theorem zr1 (h:¬O b)(hz:¬Z b):(view O Z W).heap[b]?=(W.heap[b]?).map fun _=>uS:=by
 simp only[view,Array.getElem?_mapIdx,if_neg h,if_neg hz]
theorem uJ (h:∀b,O b→l3 W b):dx O Z (view O Z W) W:=by
 refine⟨rfl,rfl,rfl,by simp[view],fun b hb=>?_,fun b o hb ho=>?_⟩
 ·obtain⟨o,h1,h2⟩:=h b hb;exact⟨o,(uK hb).trans h1,h1,h2⟩
 ·by_cases hz:Z b
  ·rw[Mo hb hz]at ho;obtain⟨o',h1,rfl⟩:=Option.map_eq_some_iff.1 ho;cases o'<;>first|exact .inr ⟨hz,_,_,_,h1,rfl⟩|exact .inl rfl
  ·rw[zr1 hb hz]at ho;obtain⟨o',h1,rfl⟩:=Option.map_eq_some_iff.1 ho;exact .inl rfl
theorem zr3 (hz:O b∨Z b)(h:ER W b):E2 (view O Z W) b:=by
 obtain⟨c,t,h⟩:=h;by_cases hb:O b
 ·exact⟨_,(uK hb).trans h,rfl⟩
 ·refine⟨we c t (0,0),by rw[Mo hb (hz.resolve_left hb),h];rfl,?_⟩;simp[we,kv]
theorem BA {o:Nat}{v:Value}(hz:O b∨Z b)(h:W.cell? ⟨b,o,none⟩=some v):(view O Z W).cell? ⟨b,o,none⟩=some v:=by
 by_cases hb:O b
 ·rw[←h];simp[World.cell?,uK hb]
 ·have hz:=hz.resolve_left hb;unfold World.cell? at h ⊢;rw[Mo hb hz];cases hw:W.heap[b]? with
  | none=>rw[hw]at h;cases h
  | some x =>
   rw[hw]at h;cases x<;>simp[Nd,we]at h ⊢<;>exact h
end
variable [kd:Kd]
def AV (J:iB)(cg:Nat→Value→Value→bZ→Prop):Prop:=∀i:Nat,i<J.many→∀w,yh J w→(∀b,J.Z b→ER J.W0 b→E2 w b)→aa prog J.fh (.int .i64 i::J.c0::J.cs).toArray w fun v w'=>Ext No w w' ∧
 ∃x err e,v=.tuple #[x,err]∧B8 x∧(err=.nilIface∨∃t u,err=.iface t u)∧cg i x err e∧e.Local∧e.holds w'∧∀b∈e.aW,w.heap.size≤b∧∃c t,w'.heap[b]?=some (.cells c t (0,0))
def wL (i:Nat)(x err:Value):Value:=.agg (.int .i64 i::(cM x++[err])).toArray
def Ns (J:iB)(cg:Nat→Value→Value→bZ→Prop)(i:Nat)(v:Value)(T:Nat→Prop)(W:World):Prop :=
 ∃x err e,v=wL i x err∧B8 x∧(err=.nilIface∨∃t u,err=.iface t u)∧cg i x err e∧e.Local∧e.holds W∧(∀b∈e.aW,T b)∧∀b,T b→J.W0.heap.size≤b∧l3 W b
def Fj (J:iB)(cg:Nat→Value→Value→bZ→Prop)(i C:Nat)(O:Nat→Prop)(g:Goroutine)(W:World):Prop :=
 ∃T v,TF J T∧T[16]?=some (.chan (some J.cb))∧T[20]?=some v∧g=G (j3 T) [qc J C,bot]∧WM J C W∧Ns J cg i v (fun b=>O b∧¬eA C b) W
section
variable {J:iB}{cg:Nat→Value→Value→bZ→Prop}{C i:Nat}{T:Array Value}{W:World}
def Cb:cr→Array Value→Prop
 | [],_=>True
 | (n,v)::r,T=>T[n]?=some v∧Cb r T
theorem Cb.cB:∀{σ:cr} {T:Array Value},Cb σ T→∀n v,Ev.look σ n=some v→T[n]?=some v
 | [],_,_,_,_,h=>by cases h
 | (m,u)::r,T,hs,n,v,h=>by
  unfold Ev.look at h;cases hb:Nat.beq m n with
  | true =>
   rw[hb]at h;have:=Nat.eq_of_beq_eq_true hb;subst this;simp only[Option.some.injEq]at h;subst h;exact hs.1
  | false =>
   rw[hb]at h;exact Cb.cB hs.2 n v h
theorem TN {N:Nat}{σ:cr}{T:Array Value}(hT:T.size=N)(h:Cb σ T):Fits N σ ⟨T,[]⟩:=⟨hT,rfl,h.cB⟩
theorem zzO {a:Act}{σ:cr}(h:Fits 21 σ a)(h0:Ev.look σ 0=some (.pointer (some ⟨J.bt,0,none⟩)))(h1:Ev.look σ 1=some (.pointer (some ⟨J.bh,0,none⟩)))(h2:Ev.look σ 2=some (.pointer (some ⟨J.bb,0,none⟩)))(h6:Ev.look σ 6=some (.chan (some J.ct))):TF J a.tmps∧a=⟨a.tmps,[]⟩ :=
 ⟨⟨h.size,h.iM _ _ h0,h.iM _ _ h1,h.iM _ _ h2,h.iM _ _ h6⟩,by
  have:=h.defers;cases a;simp only at this;subst this;rfl⟩
def Vf (x u:Value)(w:World):Prop:=match kd.b with
 | false=>u=x
 | true=>∃b s s',x=.agg #[s,s']∧u=.pointer (some ⟨b,0,none⟩)∧aH w b 0 [s,s']
abbrev Ae (J:iB):cr:=[(0,.pointer (some ⟨J.bt,0,none⟩)),(1,.pointer (some ⟨J.bh,0,none⟩)),(2,.pointer (some ⟨J.bb,0,none⟩)),(6,.chan (some J.ct))]
theorem zzN (ok:fX J)(hH:AV J cg)(hi:i<J.many)(hT:TF J T)(hF:WM J C W):gk prog false J.Z (fun O g W=>(∀b,O b→J.W0.heap.size≤b)→Fj J cg i C O g W) (eA C) (Go.Conc.served (G (gu T) [qc J C,bot]) (.tuple #[.int .i64 i,.bool true])) W:=by
 obtain⟨b⟩:=kd
 letI kd:Kd:=⟨b⟩
 cases b
 all_goals
  have e:Go.Conc.served (G (gu T) [qc J C,bot]) (.tuple #[.int .i64 i,.bool true]) =
    G ((base uD).at ⟨T.setIfInBounds 7 (.tuple #[.int .i64 i,.bool true]),[]⟩ [.inRegion (cY d9 1) [1],.code (vZ (jw d9 0)),.inLoop (jw d9 0),.inBlock 0]) [qc J C,bot]:=by
   simp only[Go.Conc.served,G,gu,Frame.finish_at];rfl
  rw[e];have qX:dx (eA C) J.Z (view (eA C) J.Z W) W:=uJ hF.own;have Dn:∀b,eA C b→(view (eA C) J.Z W).heap[b]?=W.heap[b]?:=fun b hb=>uK hb
  have jH:yh J (view (eA C) J.Z W):=fun b o v hz h=>BA (.inr hz) (hF.seen b o v hz h)
  have gN:∀b,J.Z b→ER J.W0 b→E2 (view (eA C) J.Z W) b:=fun b hb hf=>zr3 (.inr hb) (hF.flat b hb hf)
  have dZ:(view (eA C) J.Z W).heap.size=W.heap.size:=by simp[view]
  generalize view (eA C) J.Z W=w at qX Dn jH dZ gN;have gE:=jH _ _ _ ok.zt ok.todo;have I5:=jH _ _ _ ok.zh ok.how;have lq:=jH _ _ _ ok.zb ok.back;have hsz:(T.setIfInBounds 7 (.tuple #[.int .i64 i,.bool true])).size=21:=by simp[hT.size]
  refine vW (σ:=(7,.tuple #[.int .i64 i,.bool true])::Ae J)
   (Q:=fun σ w'=>w'=w∧σ=(8,.bool true)::(7,.tuple #[.int .i64 i,.bool true])::Ae J)
   (tail:=[]) aj 1 1 rfl zd (TN hsz ⟨by simp[hT.size],by simpa using hT.t0,by simpa using hT.t1,by simpa using hT.t2,by simpa using hT.t6,trivial⟩) qX ?_ ?_
  ·exact⟨rfl,rfl⟩
  rintro σ1 a1 w1 O1 W1 nX fy ee ⟨rfl,rfl⟩;refine .ctl rfl (fun _=>stepG_region_end) ?_;rw[show vZ (jw d9 0)=.seq (.cond (.tmp 8) .skip (.exit 0)) (.block 1 (jw d9 1)) from rfl];refine .ctl rfl (fun _=>stepG_seq) ?_;refine .ctl rfl (fun _=>stepG_cond (t:=true) (dt ee rfl)) ?_;refine .ctl rfl (fun _=>stepG_skip) ?_;refine .ctl rfl (fun _=>stepG_block) ?_;rw[show jw d9 1=.seq (.region 2 (cY d9 2) false) (.seq (.region 3 (cY d9 3) false) (.region 4 (cY d9 4) false)) from rfl];refine .ctl rfl (fun _=>stepG_seq) ?_;refine mi (Q:=fun e σ w'=>e=.normal∧w'=w1∧Sub ((3,.int .i64 i)::Ae J) σ) aj zd ee fy ?_ ?_
  ·exact zs
  rintro e σ2 a2 w2 O2 W2 kP ft ic ⟨rfl,rfl,dR⟩ _;replace ic:=ic.weaken dR.cB;show gk _ _ _ _ _ _ _;refine .ctl rfl (fun _=>stepG_seq) ?_;refine mi (Q:=fun e σ w'=>e=.normal∧∃x u err en,Ext No w2 w'∧B8 x∧Vf x u w'∧(err=.nilIface∨∃t u,err=.iface t u)∧cg i x err en∧en.Local∧en.holds w'∧(∀b∈en.aW,w2.heap.size≤b∧∃c t,w'.heap[b]?=some (.cells c t (0,0)))∧Sub ((3,.int .i64 i)::(4,u)::(5,err)::Ae J) σ) aj zd ic ft ?_ ?_
  ·refine g9 I5 ?_;refine(hH i hi w2 jH gN).mono ?_;rintro v w' ⟨hx,x,err,en,rfl,he,h1,h2,h3,h4,h5⟩
   first
   |
     obtain⟨a,n,c,rfl⟩:=he;exact⟨rfl,_,_,err,en,hx,⟨a,n,c,rfl⟩,rfl,h1,h2,h3,h4,h5,rfl,rfl,rfl,rfl,rfl,rfl,rfl,trivial⟩
   |
     obtain⟨a,n,c,a',n',c',rfl⟩:=he;have hS:=St.start w' No;refine hS.new (fun b4 w3 hb hS=>?_);refine hS.sT 0 fun w3 hS=>?_
     refine⟨rfl,_,_,err,en,hx.trans hS.ext,⟨a,n,c,a',n',c',rfl⟩,⟨b4,_,_,rfl,rfl,bC.cells (hS.blk 0 rfl) (o:=0) (l:=[.slice a n c,.slice a' n' c']) rfl⟩,h1,h2,h3,?_,?_,rfl,rfl,rfl,rfl,rfl,rfl,rfl,trivial⟩
     ·refine h3 _ _ (fun b hb=>?_) h4;obtain⟨_,_,_,e⟩:=h5 b hb;exact hS.ext.block b (Array.getElem?_eq_some_iff.1 e).1 id
     ·intro b hb;obtain⟨e1,c,t,e⟩:=h5 b hb;exact⟨e1,c,t,(hS.ext.block b (Array.getElem?_eq_some_iff.1 e).1 id).trans e⟩
  rintro e σ3 a3 w3 O3 W3 uz tB iY ⟨rfl,x,u,err,en,hx,he,hu,h1,h2,h3,h4,h5,vu⟩ _;replace iY:=iY.weaken vu.cB;show gk _ _ _ _ _ _ _;refine .ctl rfl (fun _=>stepG_region) ?_;have Cz:w3.cell? ⟨J.bb,0,none⟩=some (.chan (some J.cb)):=hx.cell lq id
  have fin:∀(σ4:cr) (a4:Act) (w4:World) (O4:Nat→Prop) (W4:World),(∀x,O3 x→O4 x)→dx O4 J.Z w4 W4→Fits 21 σ4 a4→w4=w3∧Sub ((16,.chan (some J.cb))::(20,wL i x err)::Ae J) σ4→gk prog false J.Z (fun O g W=>(∀b,O b→J.W0.heap.size≤b)→Fj J cg i C O g W) O4 (G ((base uD).at a4 [.inRegion (cY d9 4) [5],.inBlock 1,.inLoop (jw d9 0),.inBlock 0]) [qc J C,bot]) W4:=by
   rintro σ4 a4 w4 O4 W4 zu kO jF ⟨rfl,zQ⟩;replace jF:=jF.weaken zQ.cB;obtain⟨Xj,ha⟩:=zzO jF rfl rfl rfl rfl;have um:C<W.heap.size:=sd hF.wg;have u5:C+1<W.heap.size:=sd hF.fn
   have D1:∀b∈en.aW,O4 b:=fun b hb=>by
    obtain⟨e1,c',t',e2⟩:=h5 b hb;refine Classical.byContradiction fun ho=>?_
    rcases kO.rest b _ ho e2 with e3 | ⟨_,_,_,_,_,e3⟩
    ·cases e3
    ·exact gJ e3
   refine .stop fun W5 h6 jo=>⟨a4.tmps,_,Xj,jF.iM 16 _ rfl,jF.iM 20 _ rfl,?_,?_,x,err,en,rfl,he,h1,h2,h3,?_,fun b hb=>⟨D1 b hb,?_⟩,fun b hb=>⟨jo b hb.1,let ⟨o,_,e2,e3⟩:=kO.own b hb.1;⟨o,(h6.keep b (.inl hb.1)).trans e2,e3⟩⟩⟩
   ·rw[ha];rfl
   ·have hm:∀b,eA C b→O4 b:=fun b hb=>zu b (uz b (kP b (nX b hb)))
    have hc:∀b v,eA C b→W.cell? ⟨b,0,none⟩=some v→W5.cell? ⟨b,0,none⟩=some v:=fun b v hb hv=>by
     have c1:w2.cell? ⟨b,0,none⟩=some v:=ri hv (Dn b hb);exact ri (kO.cell (hx.cell c1 id)).1 (h6.keep b (.inl (hm b hb)))
    exact⟨hc C _ (.inl rfl) hF.wg,hc (C+1) _ (.inr rfl) hF.fn,fun b o v hz hv=>ri (kO.cell (hx.cell (jH b o v hz hv) id)).1 (h6.keep b (.inr hz)),hF.low,fun b hb=>let ⟨o,_,e2,e3⟩:=kO.own b (hm b hb);⟨o,(h6.keep b (.inl (hm b hb))).trans e2,e3⟩,fun b hb hf=>by
     obtain⟨o,h,x⟩:=gN b hb hf;obtain⟨c',t,h⟩:=Hi kO ((hx.block b (Array.getElem?_eq_some_iff.1 h).1 id).trans h) x;exact⟨c',t,(h6.keep b (.inr hb)).trans h⟩⟩
   ·refine h3 w4 W5 (fun b hb=>?_) h4;have ob:O4 b:=D1 b hb;obtain⟨o,e1,e2,_⟩:=kO.own b ob;rw[h6.keep b (.inl ob),e1,e2]
   ·have:=(h5 b hb).1;rintro(rfl|rfl)<;>omega
  rcases h1 with rfl | ⟨t,u1,rfl⟩
  all_goals
   first
   |
     obtain⟨a,n,c,rfl⟩:=he;obtain rfl:=hu;refine vW (Q:=fun σ w'=>w'=w3∧Sub ((16,.chan (some J.cb))::(20,wL i (.slice a n c) _)::Ae J) σ) (tail:=[5]) aj 0 5 rfl zd iY tB ?_ fin;refine g9 Cz ?_;exact zs
   |
     obtain⟨a,n,c,a',n',c',rfl⟩:=he;obtain⟨b4,s,s',e1,rfl,VH⟩:=hu;cases e1;refine vW (Q:=fun σ w'=>w'=w3∧Sub ((16,.chan (some J.cb))::(20,wL i (.agg #[.slice a n c,.slice a' n' c']) _)::Ae J) σ) (tail:=[5]) aj 0 5 rfl zd iY tB ?_ fin;refine g9 Cz ?_;refine OH rfl VH ?_;exact zs
theorem task (ok:fX J)(hH:AV J cg)(hi:i<J.many)(hT:TF J T)(hF:WM J C W):gk prog false J.Z (Fj J cg i C) (eA C) (Go.Conc.served (G (gu T) [qc J C,bot]) (.tuple #[.int .i64 i,.bool true])) W :=
 zr7 (above (p:=fun b=>J.W0.heap.size≤b) (q:=fun _=>False) (n:=J.W0.heap.size) (w0:=W) (fun _ h=>h) (zzN ok hH hi hT hF) ⟨fun b hb=>by
  have:=hF.low;rcases hb with rfl|rfl<;>show J.W0.heap.size≤_<;>omega,fun _ h=>h.elim,by
  have:=hF.low;have:C<W.heap.size:=sd hF.wg;omega,.refl W⟩) fun O g W h=>h.1 h.2.up
end
end Pool
namespace Pool
open Go.Conc Gap Ev Go.RowKit
open Go.ConcN (WgLive RW AtK1)
open Go.ConcR (Payload)
local instance:Gap.Leaps:=uH
variable [kd:Kd]
variable {cs:List Frame}
def A5:Value:=match kd.b with
 | false=>.slice none 0 0
 | true=>.agg #[.slice none 0 0,.slice none 0 0]
def AW:Value:=wL 0 A5 .nilIface
noncomputable def bY (J:iB)(cg:Nat→Value→Value→bZ→Prop):dT :=
 { P:=prog,Z:=J.Z,ct:=J.ct,cb:=J.cb,zt:=.int .i64 0,zb:=.tuple #[],zr:=AW,ty:=116,Wg:=J.Wg,many:=J.many,AR:=H5 J,AS:=Fj J cg,Fl:=Ns J cg }
section
variable {J:iB}{cg:Nat→Value→Value→bZ→Prop}{C i:Nat}{T:Array Value}{W:World}
theorem Ly {P:Program}{main:Bool}{b:Frame}{a:Act}{k:List Item}  {ops:Array Oper}{i:Nat}{rest:List Nat}{o:Oper}{cases:Array CommCase}{shape:CommShape}(ho:ops[i]?=some o)(hw:Region.wanted o (yielded ops a.tmps)=true)(hk:b.kind≠.early)
  (hr:∀w,(execOp a.eval o).run P w=.ok (.comm cases true shape) w) (he:∀w,(execOp a.eval o).events P w #[] = #[]) (w:World) :
  stepG P main (G (b.at a (.inRegion ops (i::rest)::k)) cs) w=.comm (G (b.at a (.inRegion ops (i::rest)::k)) cs) cases true shape w #[]:=by
 rw[stepG_comm ho hw hk (hr w)];have:listed P b.fn a o w = #[]:=by unfold listed;rw[he];exact seen_none P _
 rw[this]
theorem zru (hT:TF J T)(w:World):stepG prog false (G (gu T) cs) w=.comm (G (gu T) cs) #[rcase J.ct (.int .i64 0)] true (.recv true) w #[]:=by
 obtain⟨b⟩:=kd
 letI kd:Kd:=⟨b⟩
 cases b
 all_goals
  have e6:(⟨T,[]⟩:Act).eval (.tmp 6)=.chan (some J.ct):=by
   have:=hT.t6;simp[Act.eval,this]
  have hu:prog.underlying 105=some (.chan .both 3):=zk;have hz:=Tryz.zeroValue3;refine Ly (rest:=[1]) rfl rfl zd (fun w=>?_) (fun w=>?_) w
  ·show(execOp (⟨T,[]⟩:Act).eval ⟨some 7,.recv 105 (.tmp 6) true,_,_,_,_⟩).run prog w=_;unfold execOp;simp[e6,underlying,hu,hz,rcase]
  ·show(execOp (⟨T,[]⟩:Act).eval ⟨some 7,.recv 105 (.tmp 6) true,_,_,_,_⟩).events prog w #[]=_;unfold execOp;simp[e6,underlying,hu,hz,go_sem]
theorem zrE {v:Value}(IB:T[16]?=some (.chan (some J.cb)))(u4:T[20]?=some v)(w:World):stepG prog false (G (j3 T) cs) w=.comm (G (j3 T) cs) #[scase J.cb v (.tuple #[])] true .send w #[]:=by
 obtain⟨b⟩:=kd
 letI kd:Kd:=⟨b⟩
 cases b
 all_goals
  have Vt:(⟨T,[]⟩:Act).eval (.tmp 16)=.chan (some J.cb):=by simp[Act.eval,IB]
  have Vu:(⟨T,[]⟩:Act).eval (.tmp 20)=v:=by simp[Act.eval,u4]
  refine Ly (rest:=[]) rfl rfl zd (fun w=>?_) (fun w=>?_) w
  ·show(execOp (⟨T,[]⟩:Act).eval ⟨none,.send (.tmp 16) (.tmp 20),_,_,_,_⟩).run prog w=_;unfold execOp;simp[Vt,Vu,scase]
  ·show(execOp (⟨T,[]⟩:Act).eval ⟨none,.send (.tmp 16) (.tmp 20),_,_,_,_⟩).events prog w #[]=_;unfold execOp;simp
theorem TT (ok:fX J)(hH:AV J cg):(bY J cg).Ok:=by
 refine⟨fun C g W ⟨T,hT,hg,hF⟩=>?_,fun i C O g W ⟨T,v,hT,IB,u4,hg,hM,hR⟩=>?_⟩
 ·subst hg;exact⟨rfl,fun w=>zru hT w,fun i hi=>task ok hH hi hT hF.m,60,closed hT.size ⟨hF.m.wg,hF.live⟩⟩
 ·subst hg;exact⟨rfl,v,fun w=>zrE IB u4 w,hR,fun hl=>⟨6,zzK ok hT ⟨hM,hl⟩⟩⟩
end
end Pool
namespace Pool
open Go.Conc Gap Ev Go.RowKit
open Go.ConcN (WgLive)
open Go.ConcR (Payload WgAt KK)
local instance:Gap.Leaps:=uH
variable {w:World}
def mP (b:Nat):bZ:=⟨[b],fun w=>w.heap[b]?=some (.chan 0 #[] false 0 0 false)⟩
theorem zpX (b:Nat):(mP b).Local:=fun _ _ h hb=>(h b (by simp[mP])).trans hb
section
variable {w0:World}{S:Nat→Prop}{H:List bZ}
theorem St.chan (h:St w0 S w H){t e:TypeId}{d:ChanDir}(hu:prog.underlying t=some (.chan d e))(hi:(prog.info? e).isSome=true){k:Value→World→Prop}(hk:∀b w',St w0 S w' (H++[mP b])→k (.chan (some b)) w'):dy prog (Instr.makeChan t (.int .i64 0)) w k:=by
 refine .kR (Yx _ _) fun gn gd=>?_
 replace h:=h.ed gn gd;generalize wgap w gn gd=w at h;obtain⟨inf,y6⟩:=Option.isSome_iff_exists.1 hi;have nT:IntKind.i64.max=9223372036854775807:=by decide
 refine⟨.chan (some w.heap.size),{ w with heap:=w.heap.push (.chan 0 #[] false 0 0 false) },?_,hk _ _ (h.made (e:=mP w.heap.size) ⟨rfl,rfl,rfl,by simp,fun i hi _=>?_⟩ (zpX _) ?_ ?_)⟩
 ·unfold Instr.makeChan;have h0:¬(281474976710544:Int)<0:=by omega
  simp[asInt,asIntOf,underlying,hu,typeInfo,y6,nT]
 ·show(w.heap.push _)[i]?=_;rw[Array.getElem?_push,if_neg zo]
 ·show(w.heap.push _)[w.heap.size]?=_;rw[Array.getElem?_push,if_pos rfl]
 ·intro b hb;obtain rfl:b=w.heap.size:=by simpa[mP]using hb
  simp
end
variable [kd:Kd]
def xF:TypeId:=match kd.b with
 | false=>153
 | true=>106
def xG:TypeId:=match kd.b with
 | false=>155
 | true=>120
def Bs:TypeId:=match kd.b with
 | false=>86
 | true=>68
theorem qy:105≠xF∧105≠Bs∧Bs≠xF:=by obtain⟨_|_⟩:=kd<;>decide
theorem zzQ:prog.underlying xF=some (.chan .both xG):=by
 obtain⟨_|_⟩:=kd
 ·exact underlying153
 ·exact underlying106
noncomputable def tailA:Code:=match ej.body with
 | some (.seq _ (.seq _ (.seq _ (.seq _ t))))=>t
 | _=>.skip
theorem zsG:ej.body=some (.seq (.region 0 (cY ej 0) false) (.seq (.region 1 (cY ej 1) true) (.seq (.region 2 (cY ej 2) false) (.seq (.seq (.region 3 (cY ej 3) false) (.block 0 (.loop (jw ej 0)))) tailA)))):=by obtain⟨_|_⟩:=kd<;>rfl
def D7 (many workers:Nat)(ct cb Wg bt bh bb:Nat):cr:=[(0,.int .i64 many),(1,.int .i64 workers),(5,.pointer (some ⟨bh,0,none⟩)),(8,.pointer (some ⟨bt,0,none⟩)),(9,.pointer (some ⟨bb,0,none⟩)),(10,.pointer (some ⟨Wg,0,none⟩))]
def HX (many workers ct cb Wg bt bh bb k:Nat)(cs:List Frame)(g:Goroutine):Prop :=
 ∃a,Fits 62 ((17,.int .i64 workers)::(18,.int .i64 k)::D7 many workers ct cb Wg bt bh bb) a∧g=G ((base iA).at a [.code (jw ej 0),.inLoop (jw ej 0),.inBlock 0,.code tailA]) cs
structure Ca (ct cb Wg bt bh bb:Nat)(how:Value)(w:World):Prop where
 mB:w.heap[ct]?=some (.chan 0 #[] false 0 0 false)
 lR:w.heap[cb]?=some (.chan 0 #[] false 0 0 false)
 gx:bC w Wg 116 [.int .u64 0,.int .u32 0]
 gE:bC w bt 105 [.chan (some ct)]
 lq:bC w bb xF [.chan (some cb)]
 I5:bC w bh Bs [how]
 nodup:[ct,cb,Wg,bt,bh,bb].Nodup
def zzd (many workers:Nat)(O0:Nat→Prop)(w0:World)(how:Value)(cs:List Frame)(O:Nat→Prop)(g:Goroutine)(W:World):Prop :=
 (∃ct cb Wg bt bh bb,HX many workers ct cb Wg bt bh bb 0 cs g∧Ca ct cb Wg bt bh bb how W∧∀b∈[ct,cb,Wg,bt,bh,bb],O b∧w0.heap.size≤b)∧(∀b,O0 b→W.heap[b]?=w0.heap[b]?)∧∀b,O b→l3 W b
theorem Rq {w0 w1:World}{S:Nat→Prop}{H:List bZ}(h:St w1 S w H)(k:Ext S w0 w1):St w0 S w H :=
 ⟨k.trans h.ext,h.each,h.loc,fun e he b hb=>⟨(h.may e he b hb).1.imp id fun x=>Nat.le_trans k.size x,(h.may e he b hb).2⟩,h.apart⟩
set_option maxHeartbeats 8000000 in
theorem ztB {many workers:Nat}{bh:Nat}(w1:World):ek prog aL 62 (cY ej 1) (dD (fun σ w'=>∃ct cb bt bb,σ=[(8,.pointer (some ⟨bt,0,none⟩)),(9,.pointer (some ⟨bb,0,none⟩)),(0,.int .i64 many),(1,.int .i64 workers),(5,.pointer (some ⟨bh,0,none⟩))]∧St { w1 with drawn:=w1.drawn+1 } No w' [mP ct,mP cb,blk bt 105 [.chan (some ct)],blk bb xF [.chan (some cb)]])) [(0,.int .i64 many),(1,.int .i64 workers),(5,.pointer (some ⟨bh,0,none⟩))] w1:=by
 obtain⟨b⟩:=kd
 letI kd:Kd:=⟨b⟩
 cases b
 all_goals
  refine sj aj mixed [] (No) (.alt 0 (.alt 1 (.alt 2 (.alt 3 (.alt 4 (.alt 5 .fin .fin) .fin) .fin) (.alt 3 (.alt 2 (.alt 4 (.alt 5 .fin .fin) .fin) .fin) .fin)) (.alt 2 (.alt 1 (.alt 3 (.alt 4 (.alt 5 .fin .fin) .fin) .fin) (.alt 3 (.alt 1 (.alt 4 (.alt 5 .fin .fin) .fin) (.alt 4 (.alt 1 (.alt 5 .fin .fin) .fin) .fin)) .fin)) (.alt 3 (.alt 1 (.alt 2 (.alt 4 (.alt 5 .fin .fin) .fin) .fin) (.alt 2 (.alt 1 (.alt 4 (.alt 5 .fin .fin) .fin) (.alt 4 (.alt 1 (.alt 5 .fin .fin) .fin) .fin)) .fin)) .fin))) (.alt 1 (.alt 0 (.alt 2 (.alt 3 (.alt 4 (.alt 5 .fin .fin) .fin) .fin) (.alt 3 (.alt 2 (.alt 4 (.alt 5 .fin .fin) .fin) .fin) .fin)) (.alt 2 (.alt 0 (.alt 3 (.alt 4 (.alt 5 .fin .fin) .fin) .fin) (.alt 3 (.alt 0 (.alt 4 (.alt 5 .fin .fin) .fin) .fin) .fin)) (.alt 3 (.alt 0 (.alt 2 (.alt 4 (.alt 5 .fin .fin) .fin) .fin) (.alt 2 (.alt 0 (.alt 4 (.alt 5 .fin .fin) .fin) .fin) .fin)) .fin))) (.alt 2 (.alt 0 (.alt 1 (.alt 3 (.alt 4 (.alt 5 .fin .fin) .fin) .fin) (.alt 3 (.alt 1 (.alt 4 (.alt 5 .fin .fin) .fin) (.alt 4 (.alt 1 (.alt 5 .fin .fin) .fin) .fin)) .fin)) (.alt 1 (.alt 0 (.alt 3 (.alt 4 (.alt 5 .fin .fin) .fin) .fin) (.alt 3 (.alt 0 (.alt 4 (.alt 5 .fin .fin) .fin) .fin) .fin)) (.alt 3 (.alt 0 (.alt 1 (.alt 4 (.alt 5 .fin .fin) .fin) (.alt 4 (.alt 1 (.alt 5 .fin .fin) .fin) .fin)) (.alt 1 (.alt 0 (.alt 4 (.alt 5 .fin .fin) .fin) .fin) .fin)) .fin))) (.alt 3 (.alt 0 (.alt 1 (.alt 2 (.alt 4 (.alt 5 .fin .fin) .fin) .fin) (.alt 2 (.alt 1 (.alt 4 (.alt 5 .fin .fin) .fin) (.alt 4 (.alt 1 (.alt 5 .fin .fin) .fin) .fin)) .fin)) (.alt 1 (.alt 0 (.alt 2 (.alt 4 (.alt 5 .fin .fin) .fin) .fin) (.alt 2 (.alt 0 (.alt 4 (.alt 5 .fin .fin) .fin) .fin) .fin)) (.alt 2 (.alt 0 (.alt 1 (.alt 4 (.alt 5 .fin .fin) .fin) (.alt 4 (.alt 1 (.alt 5 .fin .fin) .fin) .fin)) (.alt 1 (.alt 0 (.alt 4 (.alt 5 .fin .fin) .fin) .fin) .fin)) .fin))) .fin)))) zk ?_;rintro w5 rfl;have hS:=St.start { w1 with drawn:=w1.drawn+1 } No;repeat' ((conv=>whnf);first|refine And.intro ?_ ?_|refine St.chan hS underlying105 zk (fun b w' hS=>ae.mk hS.ext ?_)|refine St.chan hS zzQ zk (fun b w' hS=>ae.mk hS.ext ?_)|refine hS.new (fun b w' _ hS=>ae.mk hS.ext ?_)|refine hS.st 0 rfl zl rfl (fun w' hS=>ae.mk hS.ext ?_)|refine hS.st 1 rfl zl rfl (fun w' hS=>ae.mk hS.ext ?_)|refine hS.st 2 rfl zl rfl (fun w' hS=>ae.mk hS.ext ?_)|refine hS.st 3 rfl zl rfl (fun w' hS=>ae.mk hS.ext ?_))
  all_goals first
  | exact dD.mk ⟨[(8,_),(9,_),(0,_),(1,_),(5,_)],zs,_,_,_,_,rfl,hS.dv [0,1,2,3] zd⟩
  | exact dD.mk ⟨[(8,_),(9,_),(0,_),(1,_),(5,_)],zs,_,_,_,_,rfl,hS.dv [0,1,3,2] zd⟩
  | exact dD.mk ⟨[(8,_),(9,_),(0,_),(1,_),(5,_)],zs,_,_,_,_,rfl,hS.dv [0,2,1,3] zd⟩
  | exact dD.mk ⟨[(8,_),(9,_),(0,_),(1,_),(5,_)],zs,_,_,_,_,rfl,hS.dv [0,2,3,1] zd⟩
  | exact dD.mk ⟨[(8,_),(9,_),(0,_),(1,_),(5,_)],zs,_,_,_,_,rfl,hS.dv [0,3,1,2] zd⟩
  | exact dD.mk ⟨[(8,_),(9,_),(0,_),(1,_),(5,_)],zs,_,_,_,_,rfl,hS.dv [0,3,2,1] zd⟩
  | exact dD.mk ⟨[(8,_),(9,_),(0,_),(1,_),(5,_)],zs,_,_,_,_,rfl,hS.dv [1,0,2,3] zd⟩
  | exact dD.mk ⟨[(8,_),(9,_),(0,_),(1,_),(5,_)],zs,_,_,_,_,rfl,hS.dv [1,0,3,2] zd⟩
  | exact dD.mk ⟨[(8,_),(9,_),(0,_),(1,_),(5,_)],zs,_,_,_,_,rfl,hS.dv [1,2,0,3] zd⟩
  | exact dD.mk ⟨[(8,_),(9,_),(0,_),(1,_),(5,_)],zs,_,_,_,_,rfl,hS.dv [1,2,3,0] zd⟩
  | exact dD.mk ⟨[(8,_),(9,_),(0,_),(1,_),(5,_)],zs,_,_,_,_,rfl,hS.dv [1,3,0,2] zd⟩
  | exact dD.mk ⟨[(8,_),(9,_),(0,_),(1,_),(5,_)],zs,_,_,_,_,rfl,hS.dv [1,3,2,0] zd⟩
  | exact dD.mk ⟨[(8,_),(9,_),(0,_),(1,_),(5,_)],zs,_,_,_,_,rfl,hS.dv [2,0,1,3] zd⟩
  | exact dD.mk ⟨[(8,_),(9,_),(0,_),(1,_),(5,_)],zs,_,_,_,_,rfl,hS.dv [2,0,3,1] zd⟩
  | exact dD.mk ⟨[(8,_),(9,_),(0,_),(1,_),(5,_)],zs,_,_,_,_,rfl,hS.dv [2,1,0,3] zd⟩
  | exact dD.mk ⟨[(8,_),(9,_),(0,_),(1,_),(5,_)],zs,_,_,_,_,rfl,hS.dv [2,1,3,0] zd⟩
  | exact dD.mk ⟨[(8,_),(9,_),(0,_),(1,_),(5,_)],zs,_,_,_,_,rfl,hS.dv [2,3,0,1] zd⟩
  | exact dD.mk ⟨[(8,_),(9,_),(0,_),(1,_),(5,_)],zs,_,_,_,_,rfl,hS.dv [2,3,1,0] zd⟩
  | exact dD.mk ⟨[(8,_),(9,_),(0,_),(1,_),(5,_)],zs,_,_,_,_,rfl,hS.dv [3,0,1,2] zd⟩
  | exact dD.mk ⟨[(8,_),(9,_),(0,_),(1,_),(5,_)],zs,_,_,_,_,rfl,hS.dv [3,0,2,1] zd⟩
  | exact dD.mk ⟨[(8,_),(9,_),(0,_),(1,_),(5,_)],zs,_,_,_,_,rfl,hS.dv [3,1,0,2] zd⟩
  | exact dD.mk ⟨[(8,_),(9,_),(0,_),(1,_),(5,_)],zs,_,_,_,_,rfl,hS.dv [3,1,2,0] zd⟩
  | exact dD.mk ⟨[(8,_),(9,_),(0,_),(1,_),(5,_)],zs,_,_,_,_,rfl,hS.dv [3,2,0,1] zd⟩
  | exact dD.mk ⟨[(8,_),(9,_),(0,_),(1,_),(5,_)],zs,_,_,_,_,rfl,hS.dv [3,2,1,0] zd⟩
  | trace_state
section
variable {O Z:Nat→Prop}{W:World}{cs:List Frame}{many workers:Nat}{how:Value}
theorem BP {b:Nat}{o:Obj}(hl:dx O Z w W)(h:w.heap[b]?=some o)(hc:(∃c t,o=.cells c t (0,0)∧0<c.size)∨o.isChan=true):O b∧W.heap[b]?=some o:=by
 have ho:O b:=Classical.byContradiction fun ho=>by
  rcases hl.rest b o ho h with rfl | ⟨_,c,t,f,_,rfl⟩
  ·rcases hc with⟨c,t,e,_⟩|e<;>cases e
  ·rcases hc with⟨c',t',e,_⟩|e
   ·exact gJ e.symm
   ·cases e
 obtain⟨o',h1,h2,_⟩:=hl.own b ho;rw[h]at h1;cases h1;exact⟨ho,h2⟩
theorem zpL (hl:dx O Z w W)(hh:kG how=true):gk prog true Z (zzd many workers O w how cs) O (G (Frame.enter prog iA #[.int .i64 many,.int .i64 workers,how] .normal) cs) W:=by
 obtain⟨b⟩:=kd
 letI kd:Kd:=⟨b⟩
 cases b
 all_goals
  rw[enter_at _ Nz zsG];have hf:=RJ (N:=62) (args:=[.int .i64 many,.int .i64 workers,how]) zi;replace hf:Fits 62 [(0,.int .i64 many),(1,.int .i64 workers),(2,how)] _:=hf;refine .ctl rfl (fun _=>stepG_seq) ?_;refine mi (Q:=fun e σ w'=>e=.normal∧∃bh,St w No w' [blk bh Bs [how]]∧Sub [(0,.int .i64 many),(1,.int .i64 workers),(5,.pointer (some ⟨bh,0,none⟩))] σ) aj zd hf hl ?_ ?_
  ·have hS:=St.start w No;(conv=>whnf);have ec:cM how=[how]:=K1 hh;rw[ec];refine hS.new (fun b w' hb hS=>?_);exact⟨rfl,b,hS,rfl,rfl,rfl,trivial⟩
  rintro e σ1 a1 w1 O1 W1 nX fy ee ⟨rfl,bh,wO,eE⟩ _;replace ee:=ee.weaken eE.cB;show gk _ _ _ _ _ _ _;refine .ctl rfl (fun _=>stepG_seq) ?_;refine mi (Q:=fun e σ w'=>e=.normal∧∃ct cb bt bb,St w1 No w' [mP ct,mP cb,blk bt 105 [.chan (some ct)],blk bb xF [.chan (some cb)]]∧Sub [(0,.int .i64 many),(1,.int .i64 workers),(5,.pointer (some ⟨bh,0,none⟩)),(8,.pointer (some ⟨bt,0,none⟩)),(9,.pointer (some ⟨bb,0,none⟩))] σ) aj zd ee fy ?_ ?_
  ·refine ek.cut _ (ztB w1) ?_;rintro _ w2 ⟨ct,cb,bt,bb,rfl,hS⟩;exact⟨rfl,ct,cb,bt,bb,Rq hS (Ext.drawn _ _ _),rfl,rfl,rfl,rfl,rfl,trivial⟩
  rintro e σ2 a2 w2 O2 W2 kP ft ic ⟨rfl,ct,cb,bt,bb,cT,dR⟩ _;replace ic:=ic.weaken dR.cB;show gk _ _ _ _ _ _ _;refine .ctl rfl (fun _=>stepG_seq) ?_;refine mi (Q:=fun e σ w'=>e=.normal∧∃Wg,St w2 No w' [blk Wg 116 [.int .u64 0,.int .u32 0]]∧Sub (D7 many workers ct cb Wg bt bh bb) σ) aj zd ic ft ?_ ?_
  ·have hS:=St.start w2 No;refine⟨_,(zk:(prog.info? 116).bind (·.zero)=some (.agg #[.int .u64 0,.int .u32 0])),?_⟩;refine hS.new (fun b w' hb hS=>?_);exact⟨rfl,b,hS,rfl,rfl,rfl,rfl,rfl,rfl,trivial⟩
  rintro e σ3 a3 w3 O3 W3 uz tB iY ⟨rfl,Wg,lj,vu⟩ _;replace iY:=iY.weaken vu.cB;show gk _ _ _ _ _ _ _;refine .ctl rfl (fun _=>stepG_seq) ?_;refine .ctl rfl (fun _=>stepG_seq) ?_;refine mi (Q:=fun e σ w'=>e=.normal∧w'=w3∧Sub ((17,.int .i64 workers)::(18,.int .i64 (0:Nat))::D7 many workers ct cb Wg bt bh bb) σ) aj zd iY tB ?_ ?_
  ·exact zs
  rintro e σ4 a4 w4 O4 W4 zu kO jF ⟨rfl,rfl,zQ⟩ _;replace jF:=jF.weaken zQ.cB;show gk _ _ _ _ _ _ _;refine .ctl rfl (fun _=>stepG_block) ?_;refine .ctl rfl (fun _=>stepG_loop) ?_;have eb:=(wO.blk 0 rfl);have ebl:=(wO.may _ (List.mem_cons_self ..) bh (by simp[blk])).2;have e1:w4.heap[ct]?=some (.chan 0 #[] false 0 0 false):=(lj.ext.block ct (cT.may (mP ct) zi ct (by simp[mP])).2 id).trans (cT.get 0 rfl);have e2:w4.heap[cb]?=some (.chan 0 #[] false 0 0 false):=(lj.ext.block cb (cT.may (mP cb) zi cb (by simp[mP])).2 id).trans (cT.get 1 rfl);have e3:bC w4 Wg 116 [.int .u64 0,.int .u32 0]:=lj.blk 0 rfl;have e4:bC w4 bt 105 [.chan (some ct)]:=lj.ext.blk (cT.blk 2 rfl) id;have e5:bC w4 bb xF [.chan (some cb)]:=lj.ext.blk (cT.blk 3 rfl) id;have e6:bC w4 bh Bs [how]:=lj.ext.blk (cT.ext.blk eb id) id;have n1:=(wO.may (blk bh Bs [how]) zi bh (by simp[blk])).1.resolve_left id;have s1:=wO.ext.size;have s2:=cT.ext.size;have n2:=(cT.may (mP ct) zi ct (by simp[mP])).1.resolve_left id;have n3:=(cT.may (mP cb) zi cb (by simp[mP])).1.resolve_left id;have n4:=(cT.may (blk bt 105 [.chan (some ct)]) zi bt (by simp[blk])).1.resolve_left id;have n5:=(cT.may (blk bb xF [.chan (some cb)]) zi bb (by simp[blk])).1.resolve_left id;have n6:=(lj.may (blk Wg 116 [.int .u64 0,.int .u32 0]) zi Wg (by simp[blk])).1.resolve_left id
  have cj:ct≠cb:=by
   rintro rfl;exact mj m4 cT.apart (i:=0) (j:=1) rfl rfl zd ct (by simp[mP]) (by simp[mP])
  obtain⟨o1,f1⟩:=BP kO e1 (.inr rfl);obtain⟨o2,f2⟩:=BP kO e2 (.inr rfl);obtain⟨o3,f3⟩:=BP kO e3 (.inl ⟨_,_,rfl,by simp⟩);obtain⟨o4,f4⟩:=BP kO e4 (.inl ⟨_,_,rfl,by simp⟩);obtain⟨o5,f5⟩:=BP kO e5 (.inl ⟨_,_,rfl,by simp⟩);obtain⟨o6,f6⟩:=BP kO e6 (.inl ⟨_,_,rfl,by simp⟩);refine .stop fun W5 h5=>⟨⟨ct,cb,Wg,bt,bh,bb,⟨a4,jF,rfl⟩,⟨(h5.keep _ (.inl o1)).trans f1,(h5.keep _ (.inl o2)).trans f2,(h5.keep _ (.inl o3)).trans f3,(h5.keep _ (.inl o4)).trans f4,(h5.keep _ (.inl o5)).trans f5,(h5.keep _ (.inl o6)).trans f6,?_⟩,?_⟩,fun b hb=>?_,fun b hb=>let ⟨o,_,e2,e3⟩:=kO.own b hb;⟨o,(h5.keep b (.inl hb)).trans e2,e3⟩⟩
  rotate_left 2
  ·have ob:=zu b (uz b (kP b (nX b hb)));obtain⟨o,e1,_,_⟩:=hl.own b hb;have aQ:b<w.heap.size:=(Array.getElem?_eq_some_iff.1 e1).1;obtain⟨o',e3,e4,_⟩:=kO.own b ob;rw[h5.keep b (.inl ob),e4,←e3,lj.ext.block b zo id,cT.ext.block b zo id,wO.ext.block b aQ id]
  ·have d:∀{x y:Nat} {o o':Obj},w4.heap[x]?=some o→w4.heap[y]?=some o'→o≠o'→x≠y:=fun h h' hn e=>by
    subst e;rw[h]at h';exact hn (Option.some.inj h')
   have c1:=d e1 e3 (by simp[qy]);have c2:=d e1 e4 (by simp[qy]);have c3:=d e1 e6 (by simp[qy]);have c4:=d e1 e5 (by simp[qy]);have c5:=d e2 e3 (by simp[qy]);have c6:=d e2 e4 (by simp[qy]);have c7:=d e2 e6 (by simp[qy]);have c8:=d e2 e5 (by simp[qy]);have c9:=d e3 e4 (by simp[qy]);have Vo:=d e3 e6 (by simp[qy]);have Vp:=d e3 e5 (by simp[qy]);have Vq:=d e4 e6 (by simp[qy]);have Vr:=d e4 e5 (by simp[qy]);have Vs:=d e6 e5 (by simp[qy]);simp[cj,c1,c2,c3,c4,c5,c6,c7,c8,c9,Vo,Vp,Vq,Vr,Vs]
  ·intro b hb;simp only[List.mem_cons,List.not_mem_nil,or_false]at hb;rcases hb with rfl|rfl|rfl|rfl|rfl|rfl
   ·exact⟨o1,by omega⟩
   ·exact⟨o2,by omega⟩
   ·exact⟨o3,by omega⟩
   ·exact⟨o4,by omega⟩
   ·exact⟨o6,by omega⟩
   ·exact⟨o5,by omega⟩
end
end Pool
namespace Pool
open Go.Conc Gap Ev Go.RowKit
open Go.ConcN (upd upd_same upd_ne WgLive)
open Go.ConcR (Payload WgAt KK)
local instance:Gap.Leaps:=uH
variable [kd:Kd]
variable {a:Act}{gs:Array Goroutine}{sm st:Int}{J:iB}{cs:List Frame}{aA:Loc→Prop}{C Wg be bo i k many next ready workers:Nat}{done:Nat→Bool}{O O' Sh Z:Nat→Prop}{sl:Option (Nat×Nat)}{t:Trace}{ty:TypeId}{v:Value}{W W1 w w' w1:World}
section
variable {X:dT}  {K:Nat→Prop}  {W':World}  {O:Nat→Nat→Prop}{O1:Nat→Prop}{a:Goroutine}  {d0:Nat}
theorem Idle.less (h:Idle X d0 aA Sh K gs W t O)(h1:∀b,O1 b→O 0 b):Idle X d0 aA Sh K gs W t (upd O 0 O1):=by
 have sub:∀g b,upd O 0 O1 g b→O g b:=fun g b hb=>by
  by_cases hg:g=0
  ·subst hg;rw[upd_same]at hb;exact h1 b hb
  ·rwa [upd_ne _ _ hg]at hb
 have ap:=h.core.apart;have tk:=h.core.tok
 refine⟨⟨fun j x hj=>?_,h.core.above,⟨tk.clean,fun g b hb=>tk.own g b (sub g b hb),tk.shr,tk.sh,tk.low,tk.known,tk.over,tk.norel,fun l b hl hb=>⟨fun g hg=>(tk.off l b hl hb).1 g (sub g b hg),(tk.off l b hl hb).2⟩⟩,
  ⟨fun g k b rT hg hk=>ap.two g k b rT (sub g b hg) (sub k b hk),fun g b hb=>ap.shr g b (sub g b hb),fun g b hb=>ap.sh g b (sub g b hb),ap.m9,fun g b hb=>ap.lo g b (sub g b hb),ap.mf,ap.tR⟩⟩,h.sh,h.chan,h.iR⟩
 have hs:=h.core.eg j x hj;refine⟨hs.1,fun h0=>?_⟩;rw[upd_ne _ _ h0];exact hs.2 h0
theorem BR (ok:X.Ok){Stop:(Nat→Prop)→Goroutine→World→Prop}(hI:Idle X d0 aA Sh K gs W t O)(h0:gs[0]?=some a)(O1:Nat→Prop)(h1:∀b,O1 b→O 0 b)(hw:gk X.P true X.Z Stop O1 a W) :
  Comes X.P (crowd gs W sl) t fun m' t'=>∃gs' W' eI O' a',m'=crowd gs' W' eI∧Idle X d0 aA Sh K gs' W' t' O'∧gs'[0]?=some a'∧gs'.size=gs.size∧(∀b,Sh b∨X.Z b→W'.heap[b]?=W.heap[b]?)∧Stop (O' 0) a' W'∧yl (fun b=>O1 b∨W.heap.size≤b) O1 W.heap.size W (O' 0) W' :=
 (KQ ok (above (p:=fun b=>O1 b∨W.heap.size≤b) (q:=O1) (n:=W.heap.size) (w0:=W) (fun _ h=>.inr h) hw ⟨fun _ h=>.inl h,fun _ h=>h,Nat.le_refl _,.refl W⟩) gs t (upd O 0 O1) sl (upd_same _ _ _) (hI.less h1) h0).mono fun m' t' ⟨gs',W',eI,O',a',x1,x2,x3,x4,_,x6,x7⟩=>⟨gs',W',eI,O',a',x1,x2,x3,x4,x6,x7 W' (.refl W')⟩
end
section
variable {P:Program}  {b:Frame}  {k:List Item}  {ops:Array Oper}  {rest:List Nat}{o:Oper}
theorem SV {t:TypeId}{x:Operand}(ho:ops[i]?=some o)(hw:Region.wanted o (yielded ops a.tmps)=true)(hk:b.kind≠.early)(cN:o.op=.box t x)(hx:a.eval x=v)(Z:Nat→Prop)(W:World) :
  ∃es,stepG P true (G (b.at a (.inRegion ops (i::rest)::k)) cs) W=.go (G (b.at (a.put o.dst (.pointer (some ⟨W.heap.size,0,none⟩))) (.inRegion ops rest::k)) cs) (gA W t (cM v)) es ∧
   iW (fun _=>False) Z W (gA W t (cM v)) es:=by
 have he:execOp a.eval o=(do pure (Next.value (←Instr.box t v))):=by unfold execOp;simp only[cN,hx]
 have hr:(execOp a.eval o).run P W=.ok (.value (.pointer (some ⟨W.heap.size,0,none⟩))) (gA W t (cM v)):=by rw[he];exact H4 MD
 have hp:Plain P (execOp a.eval o):=by rw[he];exact lV (Rx _ _)
 have hl:dx (fun _=>False) Z (view (fun _=>False) Z W) W:=uJ fun b h=>h.elim
 have zL:(execOp a.eval o).run P (view (fun _=>False) Z W)=.ok (.value (.pointer (some ⟨(view (fun _=>False) Z W).heap.size,0,none⟩))) (gA (view (fun _=>False) Z W) t (cM v)):=by rw[he];exact H4 MD
 obtain⟨W',hD,_⟩:=ru _ _ _ _ _ _ hp hl zL (.inl ⟨by simp[view],rfl⟩);have e:=hD.run;rw[hr]at e;injection e with _ e
 subst e;exact⟨_,stepG_value ho hw hk hr,hD.guar fun e he=>mem_listed he⟩
end
abbrev iG:Nat:=36
noncomputable def OO:Code:=vZ (jV.body.getD .skip)
theorem SU:jV.body=some (.seq (.region 0 (cY jV 0) false) (.seq (.region 1 (cY jV 1) false) (.region 2 (cY jV 2) false))):=rfl
theorem RF:jw ej 0=.seq (.region 4 (cY ej 4) false) (.seq (.cond (.tmp 19) .skip (.exit 0)) (.seq (.block 1 (.region 5 (cY ej 5) false)) (.region 6 (cY ej 6) false))):=by obtain⟨_|_⟩:=kd<;>rfl
def wi (J:iB)(workers k:Nat):cr:=(17,.int .i64 workers)::(18,.int .i64 k)::D7 J.many workers J.ct J.cb J.Wg J.bt J.bh J.bb
noncomputable def uj (a:Act):Frame:=(base iA).at a [.inRegion (cY ej 5) [1],.inBlock 1,.code (.region 6 (cY ej 6) false),.inLoop (jw ej 0),.inBlock 0,.code tailA]
def pf (J:iB):Value:=.func (.func uD) #[] (HT J)
noncomputable def wM (J:iB)(a:Act)(cs:List Frame):Goroutine:=G ((base iG).at ⟨#[.pointer (some ⟨J.Wg,0,none⟩),pf J,undef,undef,undef,undef,undef],[]⟩ [.inRegion (cY jV 0) [0,1],.code (.seq (.region 1 (cY jV 1) false) (.region 2 (cY jV 2) false))]) (uj a::cs)
section
variable {g:Goroutine}
theorem KN {P:Program}{main:Bool}{b:Frame}  {ops:Array Oper}  {rest:List Nat}{items:List Item}{o:Oper}{f:FuncId}{fn:Func}{x:Array Operand}{yp:Array TypeId}{args:Array Value}{c:Code}(ho:ops[i]?=some o)(hw:Region.wanted o (yielded ops a.tmps)=true)(hk:b.kind≠.early)
  (cN : o.op = .call { callee := .value (.func f), args := x, argTypes := yp }) (hx : x.map a.eval = args) (hf : P.funcs[f]? = some fn) (eG : (fn.name == "runtime.NumGoroutine") = false) (hb : fn.body = some c) (w : World) :
  stepG P main (G (b.at a (.inRegion ops (i::rest)::items)) cs) w=.go (G (Frame.enter P f args .normal) (b.at a (.inRegion ops (i::rest)::items)::cs)) w #[]:=by
 have dk:fn.body.isNone=false:=by rw[hb];rfl
 subst hx;rw[stepG_enter ho hw hk (run_call_body cN hf eG dk)];have:listed P b.fn a o w = #[]:=by unfold listed;rw[events_call_body cN hf eG dk];exact seen_none P _
 rw[this]
theorem zwX (hk:k<workers)(hlim:workers≤1000){a:Act}(hf:Fits 62 (wi J workers k) a) :
  gk prog true Z (fun _ g _=>∃a',Fits 62 (wi J workers k) a'∧g=wM J a' cs) (fun _=>False) (G ((base iA).at a [.code (jw ej 0),.inLoop (jw ej 0),.inBlock 0,.code tailA]) cs) W:=by
 obtain⟨b⟩:=kd
 letI kd:Kd:=⟨b⟩
 cases b
 all_goals
  have hl:dx (fun _=>False) Z (view (fun _=>False) Z W) W:=uJ fun b h=>h.elim
  generalize view (fun _=>False) Z W=w at hl;rw[RF];refine .ctl rfl (fun _=>stepG_seq) ?_;refine mi (Q:=fun e σ w'=>e=.normal∧w'=w∧Sub ((19,.bool true)::wi J workers k) σ) aj zd hf hl ?_ ?_
  ·(conv=>whnf)
   have e:decide ((k:Int)<(workers:Int))=true:=decide_eq_true zo;refine⟨rfl,rfl,?_⟩;rw[e];exact zs
  rintro e σ1 a1 w1 O1 W1 nX fy ee ⟨rfl,rfl,eE⟩ _;replace ee:=ee.weaken eE.cB;show gk _ _ _ _ _ _ _;refine .ctl rfl (fun _=>stepG_seq) ?_;refine .ctl rfl (fun _=>stepG_cond (t:=true) (dt ee rfl)) ?_;refine .ctl rfl (fun _=>stepG_skip) ?_;refine .ctl rfl (fun _=>stepG_seq) ?_;refine .ctl rfl (fun _=>stepG_block) ?_;refine .ctl rfl (fun _=>stepG_region) ?_;refine vW (Q:=fun σ w'=>w'=w1∧Sub ((20,pf J)::wi J workers k) σ) (tail:=[1]) aj 0 1 rfl zd ee fy ?_ ?_
  ·exact zs
  rintro σ2 a2 w2 O2 W2 kP ft ic ⟨rfl,dR⟩;replace ic:=ic.weaken dR.cB
  have nQ:(#[Operand.tmp 10,Operand.tmp 20]).map a2.eval = #[.pointer (some ⟨J.Wg,0,none⟩),pf J]:=by
   simp only[List.map_toArray,List.map_cons,List.map_nil,dt ic (x:=.tmp 10) rfl,dt ic (x:=.tmp 20) rfl]
  refine .ctl rfl (fun w=>KN (f:=iG) (args:=#[.pointer (some ⟨J.Wg,0,none⟩),pf J]) rfl rfl zd rfl nQ func36 zk SU w) ?_;rw[enter_at _ func36 SU];refine .ctl rfl (fun _=>stepG_seq) ?_;refine .ctl rfl (fun _=>stepG_region) ?_
  exact .stop fun W3 _=>⟨a2,ic.weaken fun n v h=>by
   have hn:n≠20:=by rintro rfl;simp[wi,D7,Ev.look]at h
   show(match Nat.beq 20 n with|true=>some (pf J)|false=>Ev.look (wi J workers k) n)=some v;cases hb:Nat.beq 20 n with
   | true=>exact absurd (Nat.eq_of_beq_eq_true hb).symm hn
   | false=>exact h,rfl⟩
end
open Go.Conc.Lib
theorem PY {g:Nat}{W':World}{es:Array Event}(h:iW (fun _=>False) Z W W' es)(ho:∀b,O' b→(O b∨W.heap.size≤b)∧b<W'.heap.size)(hn:∀b,W.heap.size≤b→b<W'.heap.size→O' b):gr Sh Z O O' g W W' es:=by
 have hev:∀e∈es,iU O' Z e:=fun e he=>(h.evs e he).mono fun b hb=>hb.elim (fun x=>x.elim) fun x=>hn b x.1 x.2
 exact⟨h.os,h.tape,h.output,h.size,fun b hb _ _=>h.keep b hb id,ho,fun e he=>⟨(Ay (hev e he)).1,(Ay (Sh:=Sh) (g:=g) (hev e he)).2.1⟩⟩
noncomputable def Fw (J:iB)(C:Nat)(a:Act)(cs:List Frame):Goroutine:=G ((base iG).at ⟨#[.pointer (some ⟨J.Wg,0,none⟩),pf J,.pointer (some ⟨C,0,none⟩),.pointer (some ⟨C+1,0,none⟩),undef,undef,undef],[]⟩ [.inRegion (cY jV 0) [],.code (.seq (.region 1 (cY jV 1) false) (.region 2 (cY jV 2) false))]) (uj a::cs)
structure jh (J:iB)(C:Nat)(w:World):Prop where
 wg:w.cell? ⟨C,0,none⟩=some (.pointer (some ⟨J.Wg,0,none⟩))
 fn:w.cell? ⟨C+1,0,none⟩=some (pf J)
 own:∀b,eA C b→l3 w b
section
variable {cg:Nat→Value→Value→bZ→Prop}      {g:Goroutine}
theorem jh.keep (h:jh J C w)(k:∀b,eA C b→w1.heap[b]?=w.heap[b]?):jh J C w1:=⟨ri h.wg (k _ (.inl rfl)),ri h.fn (k _ (.inr rfl)),fun b hb=>(h.own b hb).keep (k b hb)⟩
theorem jh.Bq (h:jh J C w)(hl:dx O Z w W)(ho:∀b,eA C b→O b):jh J C W:=⟨(hl.cell h.wg).1,(hl.cell h.fn).1,fun b hb=>let ⟨o,_,e2,e3⟩:=hl.own b (ho b hb);⟨o,e2,e3⟩⟩
theorem jh.view (h:jh J C W):dx (eA C) Z (view (eA C) Z W) W∧jh J C (Pool.view (eA C) Z W):=⟨uJ h.own,BA (.inl (.inl rfl)) h.wg,BA (.inl (.inr rfl)) h.fn,fun b hb=>(h.own b hb).keep (uK hb)⟩
theorem ztP (ok:(bY J cg).Ok){aA:Loc→Prop}{Sh K:Nat→Prop}{gs:Array Goroutine}{t:Trace}{O:Nat→Nat→Prop}{sl:Option (Nat × Nat)}{a:Act}{d0:Nat}(hI:Idle (bY J cg) d0 aA Sh K gs W t O)(h0:gs[0]?=some (wM J a cs))(nu:WgLive 116 J.Wg W)(mB:∃o,W.heap[J.ct]?=some o) :
  Comes prog (crowd gs W sl) t fun m' t'=>∃gs' W' eI O',m'=crowd gs' W' eI∧Idle (bY J cg) d0 aA Sh K gs' W' t' O'∧gs'[0]?=some (Fw J W.heap.size a cs)∧gs'.size=gs.size∧(∀b,eA W.heap.size b→O' 0 b)∧jh J W.heap.size W'∧(∀b,b<W.heap.size→W'.heap[b]?=W.heap[b]?)∧Sm W W':=by
 have hI:=hI.less (O1:=fun _=>False) fun _ h=>h.elim
 obtain⟨XO,mB⟩:=mB;have yT:J.ct<W.heap.size:=(Array.getElem?_eq_some_iff.1 mB).1;have DM:J.Wg<W.heap.size:=by obtain⟨st,sm,h⟩:=nu;exact(Array.getElem?_eq_some_iff.1 h).1
 have pb:∀(W:World) (t:TypeId) (cs:List Value) (b:Nat),b<W.heap.size→(gA W t cs).heap[b]?=W.heap[b]?:=fun W t cs b hb=>by
  show(W.heap.push _)[b]?=_;rw[Array.getElem?_push,if_neg zo]
 refine(take (X:=bY J cg) (sl:=sl) (d1:=d0) (Q:=fun a' W' es O'=>∃e,W'=gA (W.at e) 193 [.pointer (some ⟨J.Wg,0,none⟩)]∧O'=(fun b=>b=W.heap.size)∧a'=G ((base iG).at ⟨#[.pointer (some ⟨J.Wg,0,none⟩),pf J,.pointer (some ⟨W.heap.size,0,none⟩),undef,undef,undef,undef],[]⟩ [.inRegion (cY jV 0) [1],.code (.seq (.region 1 (cY jV 1) false) (.region 2 (cY jV 2) false))]) (uj a::cs)) ok rfl hI h0 fun e=>?_).bind fun m' t' ⟨gs',W1,iy,O1,a1,es,hm,u6,Ck,hsz,e,I0,jk,Wb⟩=>?_
 ·obtain⟨es,aX,iP⟩:=SV (P:=prog) (b:=base iG) (a:=⟨#[.pointer (some ⟨J.Wg,0,none⟩),pf J,undef,undef,undef,undef,undef],[]⟩) (k:=[.code (.seq (.region 1 (cY jV 1) false) (.region 2 (cY jV 2) false))]) (cs:=uj a::cs) (ops:=cY jV 0) (i:=0) (rest:=[1]) (v:=.pointer (some ⟨J.Wg,0,none⟩)) rfl rfl zd rfl rfl J.Z (W.at e);refine⟨_,_,es,fun b=>b=W.heap.size,aX,PY iP (fun b hb=>?_) fun b h1 h2=>?_,vO iP.evs d0,fun _ ⟨st,sm,h⟩=>⟨st,sm,(pb _ _ _ _ DM).trans h⟩,fun _=>pb _ _ _ _ yT,e,rfl,rfl,rfl⟩
  ·subst hb;exact⟨.inr (Nat.le_refl _),by simp[gA,World.at]⟩
  ·simp only[gA,World.at,Array.size_push]at h1 h2;omega
 ·subst hm I0 jk Wb;have DC:Sm W (gA (W.at e) 193 [.pointer (some ⟨J.Wg,0,none⟩)]):=⟨rfl,rfl,rfl⟩;have dZ:(gA (W.at e) 193 [.pointer (some ⟨J.Wg,0,none⟩)]).heap.size=W.heap.size+1:=by simp[gA,World.at]
  have fy:WgLive 116 J.Wg (gA (W.at e) 193 [.pointer (some ⟨J.Wg,0,none⟩)]):=let ⟨st,sm,h⟩:=nu;⟨st,sm,(pb _ _ _ _ DM).trans h⟩
  have lp:(gA (W.at e) 193 [.pointer (some ⟨J.Wg,0,none⟩)]).heap[W.heap.size]?=some (.cells #[.pointer (some ⟨J.Wg,0,none⟩)] 193 (0,0)):=by
   show(W.heap.push _)[W.heap.size]?=_;rw[Array.getElem?_push,if_pos rfl]
  have hold:∀b,b<W.heap.size→(gA (W.at e) 193 [.pointer (some ⟨J.Wg,0,none⟩)]).heap[b]?=W.heap[b]?:=fun b hb=>pb _ _ _ _ hb
  generalize gA (W.at e) 193 [.pointer (some ⟨J.Wg,0,none⟩)]=W1 at u6 dZ fy lp hold DC;refine(take (X:=bY J cg) (sl:=iy) (d1:=d0) (Q:=fun a' W' es O'=>∃e,W'=gA (W1.at e) 1 [pf J]∧O'=eA W.heap.size∧a'=Fw J W.heap.size a cs) ok rfl u6 Ck fun e=>?_).mono fun m' t' ⟨lQ,W2,m3,O2,a2,es,hm,uo,A6,tP,e2,Ct,dG,sP⟩=>?_
  ·obtain⟨es,aX,iP⟩:=SV (P:=prog) (b:=base iG) (a:=⟨#[.pointer (some ⟨J.Wg,0,none⟩),pf J,.pointer (some ⟨W.heap.size,0,none⟩),undef,undef,undef,undef],[]⟩) (k:=[.code (.seq (.region 1 (cY jV 1) false) (.region 2 (cY jV 2) false))]) (cs:=uj a::cs) (ops:=cY jV 0) (i:=1) (rest:=[]) (v:=pf J) rfl rfl zd rfl rfl J.Z (W1.at e);have eE:(W1.at e).heap.size=W.heap.size+1:=dZ;rw[eE]at aX;refine⟨_,_,es,eA W.heap.size,aX,PY iP (fun b hb=>?_) fun b h1 h2=>?_,vO iP.evs d0,fun _ ⟨st,sm,h⟩=>⟨st,sm,(pb _ _ _ _ (by rw[eE];show J.Wg<_;omega)).trans h⟩,fun _=>pb _ _ _ _ (by rw[eE];show J.ct<_;omega),e,rfl,rfl,rfl⟩
   ·have hp:(gA (W1.at e) 1 (cM (pf J))).heap.size=W.heap.size+2:=by simp[gA,World.at,dZ]
    rw[hp];rcases hb with rfl|rfl
    ·exact⟨.inl (by rw[upd_same]),by omega⟩
    ·exact⟨.inr (by rw[eE];exact Nat.le_refl _),by omega⟩
   ·simp only[gA,World.at,Array.size_push]at h1 h2
    right
    omega
  ·subst hm Ct dG sP;refine⟨lQ,_,m3,_,rfl,uo,A6,tP.trans hsz,fun b hb=>by rw[upd_same];exact hb,?_,fun b hb=>(pb _ _ _ _ (by show b<W1.heap.size;omega)).trans (hold b hb),DC.trans ⟨rfl,rfl,rfl⟩⟩;have b0:(gA (W1.at e2) 1 [pf J]).heap[W.heap.size]?=_:=(pb _ _ _ _ (by show W.heap.size<W1.heap.size;omega)).trans lp
   have b1:(gA (W1.at e2) 1 [pf J]).heap[W.heap.size+1]?=some (.cells #[pf J] 1 (0,0)):=by
    show(W1.heap.push _)[W.heap.size+1]?=_;rw[Array.getElem?_push,if_pos dZ.symm]
   exact⟨by simp[World.cell?,b0],by simp[World.cell?,b1],fun b hb=>hb.elim (fun e=>⟨_,e ▸ b0,rfl⟩) fun e=>⟨_,e ▸ b1,rfl⟩⟩
end
abbrev X9:Nat:=76
noncomputable def nO (ix:List Nat)(a2 a:Act)(cs:List Frame):Goroutine:=G ((base iG).at a2 [.inRegion (cY jV 1) ix,.code (.region 2 (cY jV 2) false)]) (uj a::cs)
noncomputable def qQ (ix:List Nat)(a2 a:Act)(cs:List Frame):Goroutine:=G ((base iG).at a2 [.inRegion (cY jV 2) ix]) (uj a::cs)
section
variable {cg:Nat→Value→Value→bZ→Prop}
theorem ztQ (h:jh J C W):gk prog true Z (fun O g W'=>(∃a2,Fits 7 [(2,.pointer (some ⟨C,0,none⟩)),(3,.pointer (some ⟨C+1,0,none⟩)),(4,.pointer (some ⟨J.Wg,0,none⟩))] a2∧g=nO [1] a2 a cs)∧(∀b,eA C b→O b)∧jh J C W') (eA C) (Fw J C a cs) W:=by
 obtain⟨hl,hw⟩:=h.view (Z:=Z);generalize view (eA C) Z W=w at hl hw;unfold Fw;refine .ctl rfl (fun _=>stepG_region_end) ?_;refine .ctl rfl (fun _=>stepG_seq) ?_;refine .ctl rfl (fun _=>stepG_region) ?_;refine vW (N:=7) (σ:=[(2,.pointer (some ⟨C,0,none⟩)),(3,.pointer (some ⟨C+1,0,none⟩))]) (Q:=fun σ w'=>w'=w∧σ=[(4,.pointer (some ⟨J.Wg,0,none⟩)),(2,.pointer (some ⟨C,0,none⟩)),(3,.pointer (some ⟨C+1,0,none⟩))]) (tail:=[1]) aj 0 1 rfl zd (TN rfl zs) hl ?_ ?_
 ·refine g9 hw.wg ?_;exact⟨rfl,rfl⟩
 rintro σ2 a2 w2 O2 W2 kP ft ic ⟨rfl,rfl⟩;refine .stop fun W3 h3=>⟨⟨a2,ic.weaken (Sub.cB zs),rfl⟩,fun b hb=>kP b hb,(hw.Bq ft kP).keep fun b hb=>h3.keep b (.inl (kP b hb))⟩
theorem zyT {v:Nat}(hv:v<2147483647){a2:Act}(hf:Fits 7 [(2,.pointer (some ⟨C,0,none⟩)),(3,.pointer (some ⟨C+1,0,none⟩)),(4,.pointer (some ⟨J.Wg,0,none⟩))] a2)(hw:WgAt 116 J.Wg W (v*KK) 0) :
  dQ prog 116 J.Wg (fun d g w'=>d=0∧(∃a3,Fits 7 [(2,.pointer (some ⟨C,0,none⟩)),(3,.pointer (some ⟨C+1,0,none⟩))] a3∧g=nO [] a3 a cs)∧WgAt 116 J.Wg w' ((v+1:Nat)*KK) 0) 0 (nO [1] a2 a cs) W:=by
 have nQ:(#[Operand.tmp 4,Operand.const (.int .i64 1)]).map a2.eval = #[.pointer (some ⟨J.Wg,0,none⟩),.int .i64 1]:=by
  simp only[List.map_toArray,List.map_cons,List.map_nil,dt hf (x:=.tmp 4) rfl,dt hf (x:=.const (.int .i64 1)) rfl]
 refine dQ.next (F:=id) rfl (fun e=>⟨KN (f:=X9) (args:=#[.pointer (some ⟨J.Wg,0,none⟩),.int .i64 1]) rfl rfl zd rfl nQ func76 zk rfl _,⟨rfl,rfl,rfl,rfl,fun _ _=>rfl⟩,id⟩) zi rfl fun e=>?_
 have:=zx0 (L:=Av) Ga (Wg:=J.Wg) (v:=v) hv (b₀:=base iG) (a₀:=a2) (ops₀:=cY jV 1) (i₀:=1) (rest₀:=[]) (k₀:=[.code (.region 2 (cY jV 2) false)]) (cs:=uj a::cs) (W.at e) hw;refine this.mono fun d g w' ⟨h1,h2,h3⟩=>⟨h1,⟨_,?_,h2⟩,h3⟩
 exact(hf.put (d:=5) zd (.tuple #[])).weaken (Sub.cB zs)
theorem zwZ (h:jh J C W){a3:Act}(hf:Fits 7 [(2,.pointer (some ⟨C,0,none⟩)),(3,.pointer (some ⟨C+1,0,none⟩))] a3):gk prog true Z (fun O g W'=>(∃a4,Fits 7 [(6,.func (.func z7) #[] #[.pointer (some ⟨C,0,none⟩),.pointer (some ⟨C+1,0,none⟩)])] a4∧g=qQ [1] a4 a cs)∧(∀b,eA C b→O b)∧jh J C W') (eA C) (nO [] a3 a cs) W:=by
 obtain⟨hl,hw⟩:=h.view (Z:=Z);generalize view (eA C) Z W=w at hl hw;unfold nO;refine .ctl rfl (fun _=>stepG_region_end) ?_;refine .ctl rfl (fun _=>stepG_region) ?_;refine vW (N:=7) (Q:=fun σ w'=>w'=w∧σ=[(6,.func (.func z7) #[] #[.pointer (some ⟨C,0,none⟩),.pointer (some ⟨C+1,0,none⟩)]),(2,.pointer (some ⟨C,0,none⟩)),(3,.pointer (some ⟨C+1,0,none⟩))]) (tail:=[1]) aj 0 1 rfl zd hf hl ?_ ?_
 ·exact⟨rfl,rfl⟩
 rintro σ2 a2 w2 O2 W2 kP ft ic ⟨rfl,rfl⟩;refine .stop fun W3 h3=>⟨⟨a2,ic.weaken (Sub.cB ⟨rfl,trivial⟩),rfl⟩,fun b hb=>kP b hb,(hw.Bq ft kP).keep fun b hb=>h3.keep b (.inl (kP b hb))⟩
theorem zzL {a4:Act}(hf:Fits 7 [(6,.func (.func z7) #[] #[.pointer (some ⟨C,0,none⟩),.pointer (some ⟨C+1,0,none⟩)])] a4)(W:World) :
  stepG prog true (qQ [1] a4 a cs) W=.spawn (qQ [] a4 a cs) (Go.Conc.born prog (A4 C)) W #[]:=by
 have e6:=dt hf (x:=.tmp 6) rfl
 have hr:(execOp a4.eval ((cY jV 2)[1]'zd)).run prog W=.ok (.spawn (A4 C)) W:=by
  show(execOp a4.eval ⟨none,.go { callee:=.value (.tmp 6),args:=#[],argTypes:=_ },_,_,_,_⟩).run prog W=_;unfold execOp;simp[e6,resolve,Deferred.ofValue,A4]
 have he:(execOp a4.eval ((cY jV 2)[1]'zd)).events prog W #[] = #[]:=by
  show(execOp a4.eval ⟨none,.go { callee:=.value (.tmp 6),args:=#[],argTypes:=_ },_,_,_,_⟩).events prog W #[]=_;unfold execOp;simp[e6,resolve,Deferred.ofValue]
 unfold qQ;rw[stepG_spawn rfl rfl zd hr rfl];have hl:listed prog (base iG).fn a4 ((cY jV 2)[1]'zd) W = #[]:=by unfold listed;rw[he];exact seen_none _ _
 rw[hl];rfl
theorem zwV {a4:Act}(jF:a4.defers=[])(hf:Fits 62 (wi J workers k) a)(hlim:k≤1000):gk prog true Z (fun _ g _=>HX J.many workers J.ct J.cb J.Wg J.bt J.bh J.bb (k+1) cs g) (fun _=>False) (qQ [] a4 a cs) W:=by
 obtain⟨b⟩:=kd
 letI kd:Kd:=⟨b⟩
 cases b
 all_goals
  have hl:dx (fun _=>False) Z (view (fun _=>False) Z W) W:=uJ fun b h=>h.elim
  generalize view (fun _=>False) Z W=w at hl;unfold qQ;refine .ctl rfl (fun _=>stepG_region_end) ?_;refine .ctl rfl (fun _=>stepG_end) ?_;refine .ctl rfl (fun w=>stepG_leave rfl jF func36 (results_none rfl _ _ w) (events_results_none rfl _ _)) ?_
  have e:(uj a).finish (.tuple #[])=(base iA).at (a.put (some 21) (.tuple #[])) [.inRegion (cY ej 5) [],.inBlock 1,.code (.region 6 (cY ej 6) false),.inLoop (jw ej 0),.inBlock 0,.code tailA]:=by
   unfold uj;rw[Frame.finish_at];rfl
  rw[e];have ee:Fits 62 (wi J workers k) (a.put (some 21) (.tuple #[])):=(hf.put (d:=21) zd (.tuple #[])).weaken (Sub.cB zs);refine .ctl rfl (fun _=>stepG_region_end) ?_;refine .ctl rfl (fun _=>stepG_inBlock) ?_;refine mi (Q:=fun e σ w'=>e=.normal∧Sub (wi J workers (k+1)) σ) aj zd ee hl ?_ ?_
  ·refine ag.mk zo zo ?_;exact zs
  rintro e σ1 a1 w1 O1 W1 nX fy ee ⟨rfl,eE⟩ _;replace ee:=ee.weaken eE.cB;show gk _ _ _ _ _ _ _;refine .ctl rfl (fun _=>stepG_inLoop) ?_;exact .stop fun W3 _=>⟨a1,ee,rfl⟩
end
structure nL (J:iB)(cg:Nat→Value→Value→bZ→Prop)(aA:Loc→Prop)(Sh:Nat→Prop)(s0 workers k:Nat)(cs:List Frame)(gs:Array Goroutine)(W:World)(t:Trace)(O:Nat→Nat→Prop):Prop where
 idle:Idle (bY J cg) 0 aA Sh (fun j=>s0≤j∧j<gs.size) gs W t O
 head:∃a,gs[0]?=some a∧HX J.many workers J.ct J.cb J.Wg J.bt J.bh J.bb k cs a
 size:gs.size=s0+k
 wg:WgAt 116 J.Wg W (k*KK) 0
 qb:eC J.ct W
 pj:eC J.cb W
 zk:∀b,J.Z b→W.heap[b]?=J.W0.heap[b]?
 low:J.W0.heap.size≤W.heap.size
 sm:Sm J.W0 W
section
variable {cg:Nat→Value→Value→bZ→Prop}   {s0:Nat}     {O:Nat→Nat→Prop}
theorem eC.keep {c:Nat}(h:eC c W)(e:W1.heap[c]?=W.heap[c]?):eC c W1:=let ⟨m,tm,x⟩:=h;⟨m,tm,e.trans x⟩
theorem AD (h:WgAt ty Wg W st sm)(e:W1.heap[Wg]?=W.heap[Wg]?):WgAt ty Wg W1 st sm:=e.trans h
theorem LI (h:WgAt ty Wg W st sm):WgLive ty Wg W:=⟨_,_,h⟩
theorem Tp {c:Nat}(h:eC c W):c<W.heap.size:=let ⟨_,_,x⟩:=h;(Array.getElem?_eq_some_iff.1 x).1
theorem Ub (h:WgAt ty Wg W st sm):Wg<W.heap.size:=(Array.getElem?_eq_some_iff.1 h).1
theorem zyQ (ok:fX J)(hH:AV J cg)(pl:eJ (bY J cg) Sh)(hk:k<workers)(hlim:workers≤1000)(jG:0<s0)(h:nL J cg aA Sh s0 workers k cs gs W t O) :
  Comes prog (crowd gs W sl) t fun m' t'=>∃gs' W' eI O',m'=crowd gs' W' eI∧nL J cg aA Sh s0 workers (k+1) cs gs' W' t' O':=by
 have rY:=TT ok hH;obtain⟨a0,h0,act,hf,rfl⟩:=h.head;have D6:Sh J.ct:=pl.ct;have F5:Sh J.cb:=pl.cb;have Ac:Sh J.Wg:=pl.wg;have XK:J.cb≠J.Wg:=pl.bw;have OL:J.ct≠J.Wg:=pl.tw;refine(BR (sl:=sl) rY h.idle h0 (fun _=>False) (fun _ h=>h.elim) (zwX (Z:=J.Z) hk hlim hf)).bind fun m' t1 ⟨sJ,W1,iy,O1,g1,hm,u6,Ck,Kg,tx,⟨Vh,ee,y2⟩,lp⟩=>?_
 subst hm y2;have yt:=h.qb.keep (tx _ (.inl D6));have Cd:=h.pj.keep (tx _ (.inl F5));have F9:=AD h.wg (tx _ (.inl Ac));have YS:∀b,J.Z b→W1.heap[b]?=J.W0.heap[b]?:=fun b hb=>(tx b (.inr hb)).trans (h.zk b hb)
 have mf:∀b,J.Z b→b<W1.heap.size:=u6.core.apart.mf;have OI:J.W0.heap.size≤W1.heap.size:=Nat.le_trans h.low lp.size;refine(ztP (sl:=iy) rY u6 Ck (LI F9) (let ⟨_,_,x⟩:=yt;⟨_,x⟩)).bind fun m' t2 ⟨lQ,W2,m3,O2,hm,uo,A6,xx,dG,yE,iw,dR⟩=>?_
 subst hm;have Ii:=yt.keep (iw _ (Tp yt));have Ic:=Cd.keep (iw _ (Tp Cd));have X5:=AD F9 (iw _ (Ub F9));have YT:∀b,J.Z b→W2.heap[b]?=J.W0.heap[b]?:=fun b hb=>(iw b (mf b hb)).trans (YS b hb)
 have Xn:J.Wg<W1.heap.size:=Ub F9;have IJ:W1.heap.size<W2.heap.size:=sd yE.wg;generalize W1.heap.size=C at A6 dG yE mf Xn OI IJ;refine(BR (sl:=m3) rY uo A6 (eA C) dG (ztQ (Z:=J.Z) yE)).bind fun m' t3 ⟨Cj,W3,Kz,O3,g3,hm,Co,Iw,OD,xa,⟨⟨Vi,iY,Wq⟩,VX,VQ⟩,Cx⟩=>?_
 subst hm Wq;have Ij:=Ii.keep (xa _ (.inl D6));have Ie:=Ic.keep (xa _ (.inl F5));have X6:=AD X5 (xa _ (.inl Ac));have YU:∀b,J.Z b→W3.heap[b]?=J.W0.heap[b]?:=fun b hb=>(xa b (.inr hb)).trans (YT b hb)
 refine(ZP (X:=bY J cg) rY Ac OL (zyT (cs:=cs) zo iY X6) Cj t3 Kz Co Iw).bind fun m' t4 ⟨NK,W4,KA,g4,d4,hm,IP,Ix,Xq,A8,VS⟩=>?_
 subst hm;obtain⟨rfl,⟨Vj,jF,Wr⟩,KI⟩:=VS W4.drawn;subst Wr;replace KI:WgAt 116 J.Wg W4 ((k+1:Nat)*KK) 0:=KI;have Ik:=Ij.keep (A8.block _ OL);have Ig:=Ie.keep (A8.block _ XK);have m9:∀b,J.Z b→b≠J.Wg:=fun b hb e=>u6.core.apart.m9 b hb (e ▸ Ac)
 have YV:∀b,J.Z b→W4.heap[b]?=J.W0.heap[b]?:=fun b hb=>(A8.block b (m9 b hb)).trans (YU b hb)
 have VR:jh J C W4:=VQ.keep fun b hb=>A8.block b (by rcases hb with rfl|rfl<;>show _≠J.Wg<;>omega)
 refine(BR (sl:=KA) rY IP Ix (eA C) VX (zwZ (Z:=J.Z) VR jF)).bind fun m' t5 ⟨Ir,W5,KB,O5,g5,hm,IQ,Iy,Xr,FJ,⟨⟨Vk,nR,Ws⟩,VY,IK⟩,vd⟩=>?_
 subst hm Ws;have Ce:=Ik.keep (FJ _ (.inl D6));have Ih:=Ig.keep (FJ _ (.inl F5));have OU:=AD KI (FJ _ (.inl Ac));have L5:∀b,J.Z b→W5.heap[b]?=J.W0.heap[b]?:=fun b hb=>(FJ b (.inr hb)).trans (YV b hb)
 have hF:WF J C W5:=⟨⟨IK.wg,IK.fn,fun b o v hz hv=>ri hv (L5 b hz),OI,IK.own,fun b hz ⟨c,t,e⟩=>⟨c,t,(L5 b hz).trans e⟩⟩,LI OU⟩;refine(born (X:=bY J cg) (sl:=KB) rY IQ Iy rfl ⟨D6,Ac⟩ Ce VY (fun e=>zzL nR (W5.at e)) ⟨30,zwp ok hF⟩).bind fun m' t6 ⟨Iu,W6,KC,hm,IU,Iz,Xs,e6,V8⟩=>?_
 subst hm V8;refine(BR (sl:=KC) rY IU Iz (fun _=>False) (fun _ h=>h.elim) (zwV (Z:=J.Z) (J:=J) nR.defers ee zo)).mono fun m' t7 ⟨Iv,W7,XV,O7,g7,hm,Fy,VC,hz7,FK,Wu,I4⟩=>?_
 have hz:Iv.size=s0+(k+1):=by have:=h.size;omega
 refine⟨Iv,W7,XV,O7,hm,⟨?_,⟨g7,VC,Wu⟩,hz,AD OU (FK _ (.inl Ac)),Ce.keep (FK _ (.inl D6)),Ih.keep (FK _ (.inl F5)),fun b hb=>(FK b (.inr hb)).trans (L5 b hb),?_,?_⟩⟩
 rotate_left
 ·have s3:=Cx.size;have s4:=A8.size;have s5:=vd.size;have s7:W5.heap.size≤W7.heap.size:=I4.size;omega
 ·exact h.sm.trans (lp.sm.trans (dR.trans (Cx.sm.trans ((Sm.aside A8).trans (vd.sm.trans ((Sm.at W5 e6).trans I4.sm))))))
 have eK:(fun j=>s0≤j∧j<Iv.size)=fun j=>(s0≤j∧j<gs.size)∨j=Ir.size:=by
  funext j
  have:=h.size;apply propext;constructor<;>intro x<;>omega
 rw[eK];exact Fy
theorem RI (ok:fX J)(hH:AV J cg)(pl:eJ (bY J cg) Sh)(hlim:workers≤1000)(jG:0<s0):∀(n k:Nat),workers-k=n→k≤workers→∀(gs:Array Goroutine) (W:World) (t:Trace) (O:Nat→Nat→Prop) (sl:Option (Nat × Nat)),nL J cg aA Sh s0 workers k cs gs W t O →
  Comes prog (crowd gs W sl) t fun m' t'=>∃gs' W' eI O',m'=crowd gs' W' eI∧nL J cg aA Sh s0 workers workers cs gs' W' t' O'
 | 0,k,hn,hk,gs,W,t,O,sl,h=>by
  obtain rfl:k=workers:=by omega
  exact .done ⟨gs,W,sl,O,rfl,h⟩
 | n+1,k,hn,hk,gs,W,t,O,sl,h=>by
  refine(zyQ (sl:=sl) ok hH pl zo hlim jG h).bind fun m' t' ⟨gs',W',eI,O',hm,h'⟩=>?_
  subst hm;exact RI ok hH pl hlim jG n (k+1) zo zo gs' W' t' O' eI h'
end
open Go.ConcR (Payload WgAt KK wgBlock)
def ShJ (J:iB)(b:Nat):Prop:=b=J.ct∨b=J.cb∨b=J.Wg
structure wG (J:iB)(Z O:Nat→Prop)(w W:World):Prop where
 ok:fX J
 nb:J.ct≠J.cb∧J.ct≠J.Wg∧J.cb≠J.Wg
 sub:∀b,Z b→J.Z b
 own:∀b,O b→J.Z b∧J.W0.heap[b]?=w.heap[b]?
 news:∀b,J.Z b→Z b∨O b∨w.heap.size≤b
 Ks:∀b,J.Z b→¬Z b→l3 J.W0 b
 zz:∀b,Z b→J.W0.heap[b]?=W.heap[b]?
 size:W.heap.size≤J.W0.heap.size
 sm:Sm W J.W0
section
variable {fh:FuncId}{c0:Value}{oO:List Value}
theorem Lt {b:Nat}(h:bC W b ty [v]):W.cell? ⟨b,0,none⟩=some v:=by
 have h:W.heap[b]?=some (.cells #[v] ty (0,0)):=h;simp[World.cell?,h]
theorem zoV (hC:Calm prog Z aA gs W t O)(h0:gs[0]?=some (G (Frame.enter prog iA #[.int .i64 many,.int .i64 workers,.func (.func fh) #[] (c0::oO).toArray] .normal) cs))(hl:dx O Z w W) :
  Comes prog (crowd gs W sl) t fun m' t'=>∃J gs' W' eI,m'=crowd gs' W' eI∧J.many=many∧J.fh=fh∧J.c0=c0∧J.cs=oO∧wG J Z O w W∧gs'.size=gs.size∧∀cg,nL J cg aA (ShJ J) gs.size workers 0 cs gs' W' t' (fun _ _=>False):=by
 have e0:(fun b=>(0:Nat)=0∧O b)=O:=by funext b;simp
 refine(KQ (X:=X0 prog Z) Nl (above (p:=fun b=>O b∨w.heap.size≤b) (q:=O) (n:=W.heap.size) (w0:=W) (fun b hb=>.inr (Nat.le_trans hl.size hb)) (zpL (many:=many) (workers:=workers) (how:=.func (.func fh) #[] (c0::oO).toArray) (cs:=cs) hl rfl) ⟨fun _ h=>.inl h,fun _ h=>h,Nat.le_refl _,.refl W⟩) gs t _ sl e0 hC.idle h0).mono fun m' t1 ⟨sJ,W1,iy,O1,a1,hm,u6,Ck,Kg,jk,tx,hS⟩=>?_
 obtain⟨⟨⟨ct,cb,Wg,bt,bh,bb,hg,hw,h6⟩,hold,vo⟩,mz⟩:=hS W1 (.refl W1)
 have e1:O1=fun g b=>g=0∧O1 0 b:=by
  funext g b
  by_cases qV:g=0
  ·subst qV;simp
  ·rw[jk g qV];simp[qV]
 rw[e1]at u6;have sX:Calm prog Z aA sJ W1 t1 (O1 0):=PT rfl rfl u6;generalize O1 0=O2 at *;have vn:=hw.nodup;simp only[List.nodup_cons,List.mem_cons,List.not_mem_nil,or_false,not_or]at vn;obtain⟨⟨n1,n2,n3,n4,n5⟩,⟨n6,n7,n8,n9⟩,⟨XH,XI,XJ⟩,⟨n13,n14⟩,n15,_⟩:=vn;have rf:=fun b hb=>(h6 b hb).1
 have yq:=fun b hb=>(h6 b hb).2
 let J:iB:={ Z:=fun b=>Z b∨(O2 b∧¬(b=ct∨b=cb∨b=Wg)),ct,cb,Wg,bt,bh,bb,many,fh,c0,cs:=oO,W0:=W1 }
 have tM:∀cg,Idle (bY J cg) 0 aA (ShJ J) (fun _=>False) sJ W1 t1 (fun _ _=>False):=fun cg=>Z7 (X:=bY J cg) (Z:=Z) (Sh:=ShJ J) (fun b=>Iff.rfl) (fun b hb=>by
  rcases hb with hb|hb|hb
  ·exact hb ▸ rf ct zi
  ·exact hb ▸ rf cb zi
  ·exact hb ▸ rf Wg zi) sX
 have jo:=(tM fun _ _ _ _=>True).core.apart.mf;have XG:∀b,O b→b<w.heap.size:=fun b hb=>let ⟨o,e,_⟩:=hl.own b hb;(Array.getElem?_eq_some_iff.1 e).1
 refine⟨J,sJ,W1,iy,hm,rfl,rfl,rfl,rfl,⟨⟨?_,?_,?_,jo,?_,?_,?_⟩,⟨n1,n2,n6⟩,fun b hb=>.inl hb,fun b hb=>⟨.inr ⟨mz.dn b hb,?_⟩,hold b hb⟩,fun b hb=>?_,fun b hb hz=>?_,fun b hb=>tx b (.inr hb),mz.size,mz.sm⟩,Kg,fun cg=>⟨?_,⟨a1,Ck,hg⟩,by omega,?_,⟨_,_,hw.mB⟩,⟨_,_,hw.lR⟩,fun _ _=>rfl,Nat.le_refl _,.refl W1⟩⟩
 ·exact .inr ⟨rf bt zi,fun hb=>hb.elim (Ne.symm n3) fun hb=>hb.elim (Ne.symm n7) (Ne.symm XH)⟩
 ·exact .inr ⟨rf bh zi,fun hb=>hb.elim (Ne.symm n4) fun hb=>hb.elim (Ne.symm n8) (Ne.symm XI)⟩
 ·exact .inr ⟨rf bb zi,fun hb=>hb.elim (Ne.symm n5) fun hb=>hb.elim (Ne.symm n9) (Ne.symm XJ)⟩
 ·exact Lt hw.gE
 ·exact Lt hw.I5
 ·exact Lt hw.lq
 ·have:=XG b hb;have c1:=yq ct zi;have c2:=yq cb zi;have c3:=yq Wg zi;omega
 ·rcases hb with hb | ⟨hb,_⟩
  ·exact .inl hb
  ·exact .inr (mz.up b hb)
 ·exact vo b (hb.resolve_left hz).1
 ·have eK:(fun j=>gs.size≤j∧j<sJ.size)=fun _=>False:=by
   funext j
   apply propext;constructor
   ·intro x;omega
   ·exact fun x=>x.elim
  rw[eK];exact tM cg
 ·show W1.heap[Wg]?=_;rw[hw.gx];simp[wgBlock]
end
def qL:={ v:Value // kG v=true }
def B4 (x:qL):List Value:=[x.1]
theorem Vd:cR 1 B4:=⟨fun _=>rfl,fun x=>by simp[B4,x.2],by decide⟩
def rH:={ v:Value // B8 v }
def A2 (x:rH):List Value:=cM x.1
def Br:Nat:=match kd.b with
 | false=>1
 | true=>2
def NG:Nat:=match kd.b with
 | false=>24
 | true=>48
def KF:TypeId:=match kd.b with
 | false=>22
 | true=>43
def Yl:TypeId:=match kd.b with
 | false=>53
 | true=>26
theorem zy5:prog.underlying Yl=some (.slice KF):=by
 obtain⟨_|_⟩:=kd
 ·exact underlying53
 ·exact underlying26
theorem Nu:cR Br A2:=by
 obtain⟨_|_⟩:=kd
 ·exact⟨fun⟨_,_,_,_,rfl⟩=>rfl,fun⟨_,_,_,_,rfl⟩=>rfl,by decide⟩
 ·exact⟨fun⟨_,_,_,_,_,_,_,rfl⟩=>rfl,fun⟨_,_,_,_,_,_,_,rfl⟩=>rfl,by decide⟩
def B5:rH:=⟨A5,by
 obtain⟨_|_⟩:=kd
 ·exact⟨none,0,0,rfl⟩
 ·exact⟨none,0,0,none,0,0,rfl⟩⟩
theorem zqP {z:Array Value}(h:∀i,z[i % z.size]! = v)(n:Nat):(madeCells z n).toList=List.replicate n v:=by
 unfold madeCells;apply List.ext_getElem?;intro i;by_cases hi:i<n<;>simp[hi,h]
theorem zte (many:Nat):(madeCells A5.cells (many*Br)).toList=(List.replicate many B5).flatMap A2:=by
 have e:A2 B5=List.replicate Br (.slice none 0 0):=by obtain⟨_|_⟩:=kd<;>rfl
 have h:∀i,A5.cells[i % A5.cells.size]! = .slice none 0 0:=fun i=>by
  obtain⟨_|_⟩:=kd
  ·show(#[Value.slice none 0 0])[i % 1]! = _;simp[Nat.mod_one]
  ·show(#[Value.slice none 0 0,.slice none 0 0])[i % 2]! = _;rcases Nat.mod_two_eq_zero_or_one i with e|e<;>simp[e]
 rw[zqP h]
 induction many with
 | zero=>simp
 | succ n ih=>rw[List.replicate_succ,List.flatMap_cons,←ih,e,Nat.succ_mul,Nat.add_comm,List.replicate_append_replicate]
theorem zyK (h:many≤100000):many*Br≤16777216∧NG*many≤281474976710656:=by
 obtain⟨_|_⟩:=kd
 ·show many*1≤_∧24*many≤_;omega
 ·show many*2≤_∧48*many≤_;omega
def Fe:qL:=⟨.nilIface,rfl⟩
def mL (b n:Nat)(xs:List rH):bZ:=az KF Br A2 (.slice (some ⟨b,0,none⟩) n n) xs
def mK (b n:Nat)(xs:List qL):bZ:=az 28 1 B4 (.slice (some ⟨b,0,none⟩) n n) xs
def Ea (many bt bb Wg bo be:Nat):cr:=[(0,.int .i64 many),(6,.slice (some ⟨bo,0,none⟩) many many),(7,.slice (some ⟨be,0,none⟩) many many),(8,.pointer (some ⟨bt,0,none⟩)),(9,.pointer (some ⟨bb,0,none⟩)),(10,.pointer (some ⟨Wg,0,none⟩))]
set_option maxHeartbeats 4000000 in
theorem ztC {bt bb:Nat}(hm:many≤100000)(w1:World):ek prog aL 62 (cY ej 7) (dD fun σ w'=>∃bo be,σ=Ea many bt bb Wg bo be∧St { w1 with drawn:=w1.drawn+1 } No w' [mL bo many (List.replicate many B5),mK be many (List.replicate many Fe)]) [(0,.int .i64 many),(8,.pointer (some ⟨bt,0,none⟩)),(9,.pointer (some ⟨bb,0,none⟩)),(10,.pointer (some ⟨Wg,0,none⟩))] w1:=by
 obtain⟨b⟩:=kd
 letI kd:Kd:=⟨b⟩
 cases b
 all_goals
  have hx:∀v:qL,(madeCells #[v.1] (many*1)).toList=(List.replicate many v).flatMap B4:=fun v=>by
   rw[EN,Nat.mul_one]
   induction many with
   | zero=>rfl
   | succ n ih=>rw[List.replicate_succ,List.replicate_succ,List.flatMap_cons,←ih zo];rfl
  have hy:=zte many;have zj:=zyK hm;refine sj aj mixed [] (No) (.take 0 (.take 2 (.alt 1 (.take 4 (.alt 3 (.take 5 .fin) .fin)) (.alt 3 (.alt 1 (.take 4 (.take 5 .fin)) .fin) .fin)))) zk ?_;rintro w5 rfl;have hS:=St.start { w1 with drawn:=w1.drawn+1 } No;repeat' ((conv=>whnf);first|refine And.intro ?_ ?_|refine hS.mkSlice (xs:=List.replicate many B5) (enc:=A2) (sz:=Br) (bytes:=NG) (e:=KF) (z:=A5) zy5 zk zk zj.1 zj.2 (by unfold maxLen;omega) zi hy (fun b w' hb hS=>ae.mk hS.ext ?_)|refine hS.mkSlice (xs:=List.replicate many Fe) (enc:=B4) (sz:=1) (bytes:=16) (e:=28) (z:=.nilIface) underlying63 zk zk zo zo (by unfold maxLen;omega) zi (hx Fe) (fun b w' hb hS=>ae.mk hS.ext ?_))
  all_goals first
  | exact dD.mk ⟨Ea many bt bb Wg _ _,zs,_,_,rfl,hS.dv [0,1] zd⟩
  | exact dD.mk ⟨Ea many bt bb Wg _ _,zs,_,_,rfl,hS.dv [1,0] zd⟩
  | trace_state
open Go.ConcN (upd upd_same upd_ne WgLive sumTo)
def wx (O:Nat→Prop)(W:World):Prop:=∀b,O b→l3 W b
def lZ (cg:Nat→Value→Value→bZ→Prop)(bo be:Nat)(O:Nat→Prop)(w:World)(xs:List rH)(ys:List qL)(i:Nat):Prop :=
 ∃x y e,xs[i]?=some x∧ys[i]?=some y∧(y.1=.nilIface∨∃t u,y.1=.iface t u)∧cg i x.1 y.1 e∧e.Local∧e.holds w∧∀b∈e.aW,O b∧b≠bo∧b≠be
structure dY (J:iB)(cg:Nat→Value→Value→bZ→Prop)(next:Nat)(done:Nat→Bool)(bo be:Nat)(O:Nat→Prop)(w:World):Prop where
 le:next≤J.many
 rN:∀i,done i=true→i<next
 oo:O bo
 oe:O be
 ne:bo≠be
 seen:yh J w
 rows:∃(xs:List rH) (ys:List qL),xs.length=J.many∧ys.length=J.many∧(mL bo J.many xs).holds w∧(mK be J.many ys).holds w∧∀i,done i=true→lZ cg bo be O w xs ys i
section
variable {cg:Nat→Value→Value→bZ→Prop}       {xs:List rH}{ys:List qL}
theorem GH:(mL bo i xs).Local:=fq
theorem GX:(mK bo i ys).Local:=fq
theorem lZ.keep (h:lZ cg bo be O w xs ys i)(ho:∀b,O b→O' b)(k:∀b,O b→b≠bo→b≠be→w'.heap[b]?=w.heap[b]?):lZ cg bo be O' w' xs ys i:=by
 obtain⟨x,y,e,h1,h2,h4,h5,h6,h7,h8⟩:=h;exact⟨x,y,e,h1,h2,h4,h5,h6,h6 w w' (fun b hb=>k b (h8 b hb).1 (h8 b hb).2.1 (h8 b hb).2.2) h7,fun b hb=>⟨ho b (h8 b hb).1,(h8 b hb).2⟩⟩
theorem dY.keep (h:dY J cg next done bo be O w)(ho:∀b,O b→O' b)(k:∀b,O b→w'.heap[b]?=w.heap[b]?)(hs:yh J w'):dY J cg next done bo be O' w':=by
 obtain⟨xs,ys,h1,h2,h3,h4,h5⟩:=h.rows;refine⟨h.le,h.rN,ho _ h.oo,ho _ h.oe,h.ne,hs,xs,ys,h1,h2,GH _ _ (fun b hb=>k b ?_) h3,GX _ _ (fun b hb=>k b ?_) h4,fun i hi=>(h5 i hi).keep ho fun b hb _ _=>k b hb⟩
 ·obtain rfl:b=bo:=by simpa[mL,az,own,Value.ownBlock]using hb
  exact h.oo
 ·obtain rfl:b=be:=by simpa[mK,az,own,Value.ownBlock]using hb
  exact h.oe
theorem dY.Bq (h:dY J cg next done bo be O w)(hl:dx O Z w W):dY J cg next done bo be O W :=
 h.keep (fun _ h=>h) (fun b hb=>let ⟨o,e1,e2,_⟩:=hl.own b hb;e2.trans e1.symm) fun b o v hb hv=>(hl.cell (h.seen b o v hb hv)).1
theorem dY.rely (h:dY J cg next done bo be O W)(r:cv O J.Z W W1):dY J cg next done bo be O W1 :=
 h.keep (fun _ h=>h) (fun b hb=>r.keep b (.inl hb)) fun b o v hb hv=>ri (h.seen b o v hb hv) (r.keep b (.inr hb))
theorem dY.view (h:dY J cg next done bo be O W):dY J cg next done bo be O (Pool.view O J.Z W) :=
 h.keep (fun _ h=>h) (fun b hb=>uK hb) fun b o v hb hv=>BA (.inr hb) (h.seen b o v hb hv)
theorem dY.wid (h:dY J cg next done bo be O w)(ho:∀b,O b→O' b):dY J cg next done bo be O' w:=h.keep ho (fun _ _=>rfl) h.seen
theorem SM (hl:dx O Z w W)(r:cv O Z W W1):wx O W1:=fun b hb=>let ⟨o,_,e2,e3⟩:=hl.own b hb;⟨o,(r.keep b (.inl hb)).trans e2,e3⟩
noncomputable def oE:Code:=.seq (.region 21 (cY ej 21) false) (.seq (.region 22 (cY ej 22) false) (.seq (.region 23 (cY ej 23) false) .ret))
noncomputable def yr:Code:=(xQ (ej.body.getD .skip) 4).getD .skip
noncomputable def wJ:Code:=.seq (.region 11 (cY ej 11) false) (.cond (.tmp 33) (.region 12 (cY ej 12) false) .skip)
noncomputable def wK:Code:=.seq (.seq (.region 13 (cY ej 13) false) (.region 14 (cY ej 14) false)) (.region 15 (cY ej 15) false)
theorem zu4:tailA=.seq (.region 7 (cY ej 7) true) (.seq (.seq (.region 8 (cY ej 8) false) (.block 2 (.loop (jw ej 2)))) oE):=by obtain⟨_|_⟩:=kd<;>rfl
theorem zrB:jw ej 2=.seq (.seq (.region 9 (cY ej 9) false) (.cond (.tmp 29) .skip (.exit 2))) (.block 3 (.seq (.region 10 (cY ej 10) false) (.seq wJ (.seq wK (.seq (.region 16 (cY ej 16) false) (.block 4 yr)))))):=by obtain⟨_|_⟩:=kd<;>rfl
def qu (J:iB)(next ready bo be:Nat):cr:=(11,.int .i64 next)::(12,.int .i64 ready)::Ea J.many J.bt J.bb J.Wg bo be
def Fq (J:iB)(next:Nat):Value:=if next<J.many then .chan (some J.ct) else .chan none
def D9 (J:iB)(next ready bo be:Nat):cr:=(34,Fq J next)::(35,.int .i64 next)::(36,.chan (some J.cb))::qu J next ready bo be
noncomputable def wU (a:Act)(cs:List Frame):Goroutine:=G ((base iA).at a [.code (jw ej 2),.inLoop (jw ej 2),.inBlock 2,.code oE]) cs
noncomputable def jb (a:Act)(ix:List Nat)(cs:List Frame):Goroutine:=G ((base iA).at a [.inRegion (cY ej 16) ix,.code (.block 4 yr),.inBlock 3,.inLoop (jw ej 2),.inBlock 2,.code oE]) cs
noncomputable def mO (a:Act)(cs:List Frame):Goroutine:=G ((base iA).at a [.inRegion (cY ej 21) [1],.code (.seq (.region 22 (cY ej 22) false) (.seq (.region 23 (cY ej 23) false) .ret))]) cs
def D8 (J:iB)(bo be:Nat):cr:=[(58,.chan (some J.ct)),(6,.slice (some ⟨bo,0,none⟩) J.many J.many),(7,.slice (some ⟨be,0,none⟩) J.many J.many),(10,.pointer (some ⟨J.Wg,0,none⟩))]
def Fb (J:iB)(cg:Nat→Value→Value→bZ→Prop)(cs:List Frame)(next:Nat)(done:Nat→Bool)(O:Nat→Prop)(g:Goroutine)(W:World):Prop :=
 ∃bo be ready,dY J cg next done bo be O W∧wx O W∧ready+left (bY J cg) done=J.many ∧
  ((ready<J.many∧∃a,Fits 62 (D9 J next ready bo be) a∧g=jb a [0,1,2,3] cs)∨(ready=J.many∧∃a,Fits 62 (D8 J bo be) a∧g=mO a cs))
theorem Mg (ok:fX J)(hm:J.many≤100000)(hr:ready+left (bY J cg) done=J.many)(hR:dY J cg next done bo be O w)(hl:dx O J.Z w W){a:Act}(hf:Fits 62 (qu J next ready bo be) a) :
  gk prog true J.Z (Fb J cg cs next done) O (wU a cs) W:=by
 obtain⟨b⟩:=kd
 letI kd:Kd:=⟨b⟩
 cases b
 all_goals
  have gE:=hR.seen _ _ _ ok.zt ok.todo;have lq:=hR.seen _ _ _ ok.zb ok.back;unfold wU;rw[zrB];refine .ctl rfl (fun _=>stepG_seq) ?_;by_cases aQ:ready<J.many
  ·refine mi (Q:=fun e σ w'=>e=.normal∧w'=w∧Sub (qu J next ready bo be) σ) aj zd hf hl ?_ ?_
   ·(conv=>whnf)
    have e:decide ((ready:Int)<(J.many:Int))=true:=decide_eq_true zo;rw[e];exact zs
   rintro e σ1 a1 w1 O1 W1 nX fy ee ⟨rfl,rfl,eE⟩ _;replace ee:=ee.weaken eE.cB;show gk _ _ _ _ _ _ _;refine .ctl rfl (fun _=>stepG_block) ?_;refine .ctl rfl (fun _=>stepG_seq) ?_;refine mi (Q:=fun e σ w'=>e=.normal∧w'=w1∧Sub ((13,.chan (some J.ct))::qu J next ready bo be) σ) aj zd ee fy ?_ ?_
   ·refine g9 gE ?_;exact zs
   rintro e σ2 a2 w2 O2 W2 kP ft ic ⟨rfl,rfl,dR⟩ _;replace ic:=ic.weaken dR.cB;show gk _ _ _ _ _ _ _;refine .ctl rfl (fun _=>stepG_seq) ?_;refine mi (Q:=fun e σ w'=>e=.normal∧w'=w2∧Sub ((13,Fq J next)::qu J next ready bo be) σ) aj zd ic ft ?_ ?_
   ·have hle:=hR.le;unfold Fq wJ;by_cases hn:next<J.many
    ·(conv=>whnf)
     have e:((next:Int) == (J.many:Int))=false:=by simp;omega
     simp only[if_pos hn,e];exact zs
    ·(conv=>whnf)
     have e:((next:Int) == (J.many:Int))=true:=by simp;omega
     simp only[if_neg hn,e];exact zs
   rintro e σ3 a3 w3 O3 W3 uz tB iY ⟨rfl,rfl,vu⟩ _;replace iY:=iY.weaken vu.cB;show gk _ _ _ _ _ _ _;refine .ctl rfl (fun _=>stepG_seq) ?_;refine mi (Q:=fun e σ w'=>e=.normal∧w'=w3∧Sub (D9 J next ready bo be) σ) aj zd iY tB ?_ ?_
   ·unfold wK;refine g9 lq ?_;exact zs
   rintro e σ4 a4 w4 O4 W4 zu kO jF ⟨rfl,rfl,zQ⟩ _;replace jF:=jF.weaken zQ.cB;show gk _ _ _ _ _ _ _;refine .ctl rfl (fun _=>stepG_seq) ?_;refine .ctl rfl (fun _=>stepG_region) ?_;have ho:∀b,O b→O4 b:=fun b hb=>zu b (uz b (kP b (nX b hb)))
   exact .stop fun W5 h5=>⟨bo,be,ready,((hR.wid ho).Bq kO).rely h5,SM kO h5,hr,.inl ⟨aQ,a4,jF,rfl⟩⟩
  ·have hle:left (bY J cg) done+ready=J.many:=by omega
   refine mi (Q:=fun e σ w'=>e=.exit 2∧w'=w∧Sub (qu J next ready bo be) σ) aj zd hf hl ?_ ?_
   ·(conv=>whnf)
    have e:decide ((ready:Int)<(J.many:Int))=false:=decide_eq_false zo;rw[e];exact zs
   rintro e σ1 a1 w1 O1 W1 nX fy ee ⟨rfl,rfl,eE⟩ _;replace ee:=ee.weaken eE.cB;refine⟨[.code oE],rfl,?_⟩;unfold oE;refine .ctl rfl (fun _=>stepG_seq) ?_;refine .ctl rfl (fun _=>stepG_region) ?_;refine vW (Q:=fun σ w'=>w'=w1∧Sub (D8 J bo be) σ) (tail:=[1]) aj 0 1 rfl zd ee fy ?_ ?_
   ·refine g9 gE ?_;exact zs
   rintro σ2 a2 w2 O2 W2 kP ft ic ⟨rfl,dR⟩;replace ic:=ic.weaken dR.cB;have ho:∀b,O b→O2 b:=fun b hb=>kP b (nX b hb)
   exact .stop fun W5 h5=>⟨bo,be,ready,((hR.wid ho).Bq ft).rely h5,SM ft h5,hr,.inr ⟨by omega,a2,ic,rfl⟩⟩
end
section
variable {cg:Nat→Value→Value→bZ→Prop}    {T:Nat→Prop}   {xs:List rH}{ys:List qL}
theorem zsN (k:Int)(v:Value)(b:Bool):commResult (jy (bY J cg) (.int .i64 0) next) .select k v b=.tuple #[goInt k,.bool b,if (1:Int)=k then v else AW]:=by
 unfold jy;split<;>simp[commResult,rcase,scase,bY]
theorem TL (k:Int)(v:Value)(b:Bool):(jb a [0,1,2,3] cs).finishComm prog (jy (bY J cg) (.int .i64 0) next) .select k v b=jb (a.put (some 37) (.tuple #[goInt k,.bool b,if (1:Int)=k then v else AW])) [1,2,3] cs:=by
 obtain⟨b⟩:=kd
 letI kd:Kd:=⟨b⟩
 cases b
 all_goals
  unfold Goroutine.finishComm;rw[zsN];simp only[jb,G,Frame.finish_at];rfl
theorem ztR (hf:Fits 62 (D9 J next ready bo be) a)(w:World):stepG prog true (jb a [0,1,2,3] cs) w=.comm (jb a [0,1,2,3] cs) (jy (bY J cg) (.int .i64 0) next) true .select w #[]:=by
 obtain⟨b⟩:=kd
 letI kd:Kd:=⟨b⟩
 cases b
 all_goals
  have Il:=dt hf (x:=.tmp 34) rfl;have Im:=dt hf (x:=.tmp 35) rfl;have Io:=dt hf (x:=.tmp 36) rfl;have z3:=Tryz.zeroValue3;have zd:∀w,(zeroValue xG).run prog w=.ok AW w:=L8 (by kernel_rfl);refine Ly (rest:=[1,2,3]) rfl rfl (by decide) (fun w=>?_) (fun w=>?_) w
  ·show(execOp a.eval ⟨some 37,.select #[⟨.tmp 34,some (.tmp 35),3⟩,⟨.tmp 36,none,xG⟩] true,_,_,_,_⟩).run prog w=_;unfold execOp jy Fq at *;by_cases hn:next<J.many
   ·simp[Il,Im,Io,z3,zd,hn,bY,rcase,scase]
   ·simp[Il,Im,Io,z3,zd,hn,bY,rcase]
  ·show(execOp a.eval ⟨some 37,.select #[⟨.tmp 34,some (.tmp 35),3⟩,⟨.tmp 36,none,xG⟩] true,_,_,_,_⟩).events prog w #[]=_;unfold execOp;simp[Il,Im,Io,z3,zd,go_sem]
theorem ztI (ok:fX J)(hm:J.many≤100000)(aQ:next<J.many)(hr:ready+left (bY J cg) done=J.many)(hR:dY J cg next done bo be O W)(ho:wx O W)(hf:Fits 62 (D9 J next ready bo be) a) :
  gk prog true J.Z (Fb J cg cs (next+1) done) O ((jb a [0,1,2,3] cs).finishComm prog (jy (bY J cg) (.int .i64 0) next) .select 0 undef false) W:=by
 obtain⟨b⟩:=kd
 letI kd:Kd:=⟨b⟩
 cases b
 all_goals
  rw[TL];have hl:dx O J.Z (view O J.Z W) W:=uJ ho;replace hR:=hR.view;generalize view O J.Z W=w at hl hR
  have ee:Fits 62 ((37,.tuple #[.int .i64 0,.bool false,AW])::qu J next ready bo be) (a.put (some 37) (.tuple #[goInt 0,.bool false,if (1:Int)=0 then undef else AW])) :=
   (hf.put (d:=37) zd _).weaken (Sub.cB zs)
  unfold jb;refine vW (Q:=fun σ w'=>w'=w∧Sub ((39,.bool true)::qu J next ready bo be) σ) (tail:=[]) aj 1 3 rfl zd ee hl ?_ ?_
  ·exact zs
  rintro σ2 a2 w2 O2 W2 kP ft ic ⟨rfl,dR⟩;replace ic:=ic.weaken dR.cB;refine .ctl rfl (fun _=>stepG_region_end) ?_;refine mi (Q:=fun e σ w'=>e=.normal∧w'=w2∧Sub (qu J (next+1) ready bo be) σ) aj zd ic ft ?_ ?_
  ·refine ag.mk zo zo ?_;exact zs
  rintro e σ1 a1 w1 O1 W1 nX fy ee ⟨rfl,rfl,eE⟩ _;replace ee:=ee.weaken eE.cB;show gk _ _ _ _ _ _ _;refine .ctl rfl (fun _=>stepG_inBlock) ?_;refine .ctl rfl (fun _=>stepG_inLoop) ?_;refine Mg ok hm hr ⟨by omega,fun i hi=>by have:=hR.rN i hi;omega,nX _ (kP _ hR.oo),nX _ (kP _ hR.oe),hR.ne,hR.seen,(hR.wid fun b hb=>nX b (kP b hb)).rows⟩ fy ee
end
def p9 (bo be:Nat):Nat→Prop:=fun b=>b=bo∨b=be
section
variable {d:Nat}{x:rH}{er:qL}{xs:List rH}{ys:List qL}{w0:World}
def Fg (J:iB)(next ready bo be d:Nat):cr:=(14,.pointer (some ⟨d,0,none⟩))::qu J next ready bo be
set_option maxHeartbeats 4000000 in
theorem zrx (hi:i<J.many)(hx:xs.length=J.many)(hy:ys.length=J.many)(hd:¬p9 bo be d)(hS:St w0 (p9 bo be) w1 [mL bo J.many xs,mK be J.many ys,blk d xG (.int .i64 i::(cM x.1++[er.1]))]) :
  ek prog aL 62 (cY ej 19) (dD fun σ w'=>σ=Fg J next ready bo be d∧St w0 (p9 bo be) w' [mL bo J.many (xs.set i x),mK be J.many (ys.set i er),blk d xG (.int .i64 i::(cM x.1++[er.1]))]) (Fg J next ready bo be d) w1:=by
 obtain⟨b⟩:=kd
 letI kd:Kd:=⟨b⟩
 cases b
 all_goals
  obtain⟨er,aG⟩:=er;obtain⟨x,he⟩:=x
  first|obtain⟨sa,sn,sc,rfl⟩:=id he|obtain⟨sa,sn,sc,XT,XX,XU,rfl⟩:=id he
  have lH:∃x,xs[i]?=some x:=⟨_,List.getElem?_eq_getElem zo⟩;have nx:∃x,ys[i]?=some x:=⟨_,List.getElem?_eq_getElem zo⟩;obtain⟨x0,lH⟩:=lH;obtain⟨y0,nx⟩:=nx;have ec:cM er=[er]:=K1 aG;refine hS.dr [] (p9 bo be) [0,1,2,3,4,5,6,7,8,9,10,11,12,13] fun w1 hS=>?_
  repeat' ((conv=>whnf);first|apply aI.mk|refine bO.mk zd ?_|refine ag.mk zo zo ?_|refine ao.mk zo zo ?_|refine hS.bU 2 rfl rfl hd ?_|refine hS.fK 2 rfl rfl hd ?_|refine ao.mk zo zo ?_|(first|apply aM|apply ca|apply cE|apply cD)<;>(intro))
  (conv=>whnf);refine hS.jN Nu (k:=i) (x:=⟨_,he⟩) 0 rfl lH (by first|(show _=i*1;omega)|(show _=i*2;omega)) rfl (fun w' eH hS=>?_);replace eH:=eH.mono (T:=p9 bo be) fun b hb=>.inl hb
  refine ae.mk eH ?_;replace hS:St w0 (p9 bo be) w' [mL bo J.many (xs.set i ⟨_,he⟩),mK be J.many ys,blk d xG _]:=hS;repeat' ((conv=>whnf);first|apply aI.mk|refine bO.mk zd ?_|refine ag.mk zo zo ?_|refine ao.mk zo zo ?_|refine ao.mk zo zo ?_|(first|apply aM|apply ca|apply cE|apply cD)<;>(intro))
  (conv=>whnf);rw[ec];refine hS.jN Vd (k:=i) (x:=⟨er,aG⟩) 1 rfl nx zo rfl (fun w' aU hS=>?_);refine ae.mk (eH.trans (aU.mono (T:=p9 bo be) fun b hb=>.inr hb)) ?_;exact dD.mk ⟨Fg J next ready bo be d,zs,rfl,hS⟩;rename_i hh;rw[show cM (⟨er,aG⟩:qL).val=[er] from ec]at hh;cases hh
end
section
variable {cg:Nat→Value→Value→bZ→Prop}    {T:Nat→Prop}   {xs:List rH}{ys:List qL}{j:Nat}
theorem lZ.set (h:lZ cg bo be O w xs ys j)(Bi:i≠j)(x:rH)(y:qL):lZ cg bo be O w (xs.set i x) (ys.set i y) j:=by
 obtain⟨x0,y0,e,h1,h2,h⟩:=h;exact⟨x0,y0,e,by rw[List.getElem?_set_ne Bi];exact h1,by rw[List.getElem?_set_ne Bi];exact h2,h⟩
theorem zvX:yr=.cond (.tmp 39) (.region 17 (cY ej 17) false) (.cond (.tmp 40) (.seq (.region 18 (cY ej 18) false) (.seq (.region 19 (cY ej 19) true) (.region 20 (cY ej 20) false))) .skip):=by obtain⟨_|_⟩:=kd<;>rfl
set_option maxHeartbeats 2000000 in
theorem zwS (ok:fX J)(hm:J.many≤100000)(hi:i<next)(rS:done i=false)(y9:∀b,O b→J.W0.heap.size≤b)(kh:Ns J cg i v T W)(hT:∀b,T b→¬O b∧¬J.Z b)(hr:ready+left (bY J cg) done=J.many)(hR:dY J cg next done bo be O W)(ho:wx O W)(hf:Fits 62 (D9 J next ready bo be) a) :
  gk prog true J.Z (Fb J cg cs next (upd done i true)) (fun b=>O b∨T b) ((jb a [0,1,2,3] cs).finishComm prog (jy (bY J cg) (.int .i64 0) next) .select 1 v true) W:=by
 obtain⟨b⟩:=kd
 letI kd:Kd:=⟨b⟩
 cases b
 all_goals
  rw[TL];obtain⟨x,err,en,rfl,he,lz,sQ,za,hold,y1,IZ⟩:=kh;have kP:wx (fun b=>O b∨T b) W:=fun b hb=>hb.elim (ho b) fun x=>(IZ b x).2
  have hl:dx (fun b=>O b∨T b) J.Z (Pool.view (fun b=>O b∨T b) J.Z W) W:=uJ kP;have Oe:i<J.many:=by have:=hR.le;omega
  have Om:=Hj (X:=bY J cg) Oe rS;have hrm:ready<J.many:=by omega
  have cj:∀b∈en.aW,b≠bo∧b≠be:=fun b hb=>⟨fun e=>(hT b (y1 b hb)).1 (e ▸ hR.oo),fun e=>(hT b (y1 b hb)).1 (e ▸ hR.oe)⟩
  have Xw:∀b,J.Z b→¬p9 bo be b:=fun b hz h=>by
   have:=ok.Ms b hz;rcases h with rfl|rfl
   ·have:=y9 _ hR.oo;omega
   ·have:=y9 _ hR.oe;omega
  have fO:=(hR.wid (O':=fun b=>O b∨T b) fun b hb=>.inl hb).view;have xh:en.holds (Pool.view (fun b=>O b∨T b) J.Z W):=za _ _ (fun b hb=>uK (.inr (y1 b hb))) hold;generalize Pool.view (fun b=>O b∨T b) J.Z W=w at hl fO xh;have aQ:∀b,(O b∨T b)→b<w.heap.size:=fun b hb=>let ⟨o,e,_⟩:=hl.own b hb;(Array.getElem?_eq_some_iff.1 e).1
  obtain⟨xs,ys,hx,hy,vB,FX,y4⟩:=fO.rows;have aG:kG err=true:=by rcases lz with rfl | ⟨t,u,rfl⟩<;>rfl
  have V3:St w (p9 bo be) w [mL bo J.many xs,mK be J.many ys]:=by
   refine((St.start w (p9 bo be)).add GH vB (fun b hb=>?_) zi).add GX FX (fun b hb=>?_) fun f hf b hb dk=>?_
   ·obtain rfl:b=bo:=by simpa[mL,az,own,Value.ownBlock]using hb
    exact⟨.inl (.inl rfl),aQ _ fO.oo⟩
   ·obtain rfl:b=be:=by simpa[mK,az,own,Value.ownBlock]using hb
    exact⟨.inl (.inr rfl),aQ _ fO.oe⟩
   ·obtain rfl:f=mL bo J.many xs:=by simpa using hf
    obtain rfl:b=bo:=by simpa[mL,az,own,Value.ownBlock]using hb
    have:b=be:=by simpa[mK,az,own,Value.ownBlock]using dk
    exact fO.ne this
  have ee:Fits 62 ((37,.tuple #[.int .i64 1,.bool true,wL i x err])::qu J next ready bo be) (a.put (some 37) (.tuple #[goInt 1,.bool true,if (1:Int)=1 then wL i x err else AW])) :=
   (hf.put (d:=37) zd _).weaken (Sub.cB zs)
  unfold jb;refine vW (Q:=fun σ w'=>w'=w∧Sub ((39,.bool false)::(40,.bool true)::(37,.tuple #[.int .i64 1,.bool true,wL i x err])::qu J next ready bo be) σ) (tail:=[]) aj 1 3 rfl zd ee hl ?_ ?_
  ·exact zs
  rintro σ2 a2 w2 O2 W2 kP ft ic ⟨rfl,dR⟩;replace ic:=ic.weaken dR.cB;refine .ctl rfl (fun _=>stepG_region_end) ?_;rw[zvX];refine .ctl rfl (fun _=>stepG_block) ?_;refine .ctl rfl (fun _=>stepG_cond (t:=false) (dt ic rfl)) ?_;refine .ctl rfl (fun _=>stepG_cond (t:=true) (dt ic rfl)) ?_;refine .ctl rfl (fun _=>stepG_seq) ?_;refine mi (Q:=fun e σ w'=>e=.normal∧∃d,¬p9 bo be d∧St w2 (p9 bo be) w' [mL bo J.many xs,mK be J.many ys,blk d xG (.int .i64 i::(cM x++[err]))]∧Sub (Fg J next ready bo be d) σ) aj zd ic ft ?_ ?_
  ·have hS:=V3
   first|obtain⟨sa,sn,sc,rfl⟩:=id he|obtain⟨sa,sn,sc,XT,XX,XU,rfl⟩:=id he
   refine hS.new (fun b w' hb hS=>?_)
   have f7:¬p9 bo be b:=fun h=>by
    rcases h with rfl|rfl
    ·have:=aQ _ fO.oo;omega
    ·have:=aQ _ fO.oe;omega
   rcases lz with rfl | ⟨t,u,rfl⟩
   ·refine hS.sT 2 fun w' hS=>?_
    exact⟨rfl,b,f7,hS,rfl,rfl,rfl,rfl,rfl,rfl,rfl,rfl,rfl,trivial⟩
   ·refine hS.sT 2 fun w' hS=>?_
    exact⟨rfl,b,f7,hS,rfl,rfl,rfl,rfl,rfl,rfl,rfl,rfl,rfl,trivial⟩
  rintro e σ3 a3 w3 O3 W3 uz tB iY ⟨rfl,d,vn,lj,vu⟩ _;replace iY:=iY.weaken vu.cB;show gk _ _ _ _ _ _ _;refine .ctl rfl (fun _=>stepG_seq) ?_;refine mi (Q:=fun e σ w'=>e=.normal∧St w2 (p9 bo be) w' [mL bo J.many (xs.set i ⟨x,he⟩),mK be J.many (ys.set i ⟨err,aG⟩)]∧σ=Fg J next ready bo be d) aj zd iY tB ?_ ?_
  ·refine ek.cut _ (zrx (x:=⟨x,he⟩) (er:=⟨err,aG⟩) Oe hx hy vn lj) ?_;rintro _ w4 ⟨rfl,hS⟩;exact⟨rfl,hS.dv [0,1] zd,rfl⟩
  rintro e σ4 a4 w4 O4 W4 zu kO jF ⟨rfl,ln,rfl⟩ _;show gk _ _ _ _ _ _ _;refine mi (Q:=fun e σ w'=>e=.normal∧w'=w4∧Sub (qu J next (ready+1) bo be) σ) aj zd jF kO ?_ ?_
  ·refine ag.mk zo zo ?_;exact zs
  rintro e σ5 a5 w5 O5 W5 JG WG nR ⟨rfl,rfl,Xe⟩ _;replace nR:=nR.weaken Xe.cB;show gk _ _ _ _ _ _ _;refine .ctl rfl (fun _=>stepG_inBlock) ?_;refine .ctl rfl (fun _=>stepG_inBlock) ?_;refine .ctl rfl (fun _=>stepG_inLoop) ?_;have hO:∀b,(O b∨T b)→O5 b:=fun b hb=>JG b (zu b (uz b (kP b hb)))
  have qi:∀b,(O b∨T b)→b≠bo→b≠be→w5.heap[b]?=w2.heap[b]?:=fun b hb h1 h2=>ln.ext.block b (aQ b hb) fun h=>h.elim h1 h2
  refine Mg ok hm zo ⟨fO.le,fun j hj=>?_,hO _ fO.oo,hO _ fO.oe,fO.ne,fun b o v hb hv=>ln.ext.cell (fO.seen b o v hb hv) (Xw b hb),_,_,List.length_set.trans hx,List.length_set.trans hy,ln.get 0 rfl,ln.get 1 rfl,fun j hj=>?_⟩ WG nR
  ·by_cases eQ:j=i
   ·omega
   ·rw[upd_ne _ _ eQ]at hj;exact fO.rN j hj
  ·by_cases eQ:j=i
   ·subst eQ;exact⟨_,_,en,List.getElem?_set_self zo,List.getElem?_set_self zo,lz,sQ,za,za _ _ (fun b hb=>qi b (.inr (y1 b hb)) (cj b hb).1 (cj b hb).2) xh,fun b hb=>⟨hO b (.inr (y1 b hb)),cj b hb⟩⟩
   ·rw[upd_ne _ _ eQ]at hj;exact((y4 j hj).keep hO qi).set (Ne.symm eQ) _ _
end
end Pool
end Go.Proofs.YtggfpjldhglmeaaGreatDoor