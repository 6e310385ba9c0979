/-
  Texts of this claim, joined: Track, Role, Number, Sum, Byt, Cell, CellP, CellL, Packet, Policy, PolicyB, NodeS, Code, As, Fault, EvQ, Node.
-/
import Derived.Test.YtogjajjdaoihdaaGreatDoorScriptPlaysC
import Derived.Laws.Externs
import Derived.LaidEql
import Derived.Stop.Asserts

namespace Go.Proofs.YtogjajjdaoihdaaGreatDoor
set_option maxRecDepth 20000
open Go Ev

def zdS (p s f:Int) (o:Bool):Int × Bool :=
 if p≠2 then (s,false) else if zob f 8≠0 then (0,true) else if zob f 4≠0 then (3,false)
 else if s=1∧o=false∧zob f 1≠0∧zob f 2≠0 then (2,false) else (s,false)

theorem zsR (p s f:Int) (o:Bool) (w:World):CallC Tryz.prog 291 #[.int .i64 p,.int .i64 s,.int .i64 f,.bool o] w fun v w'=>v = .tuple #[.int .i64 (zdS p s f o).1,.bool (zdS p s f o).2]∧w=w':=by
 refine zaa tabOk Tryz.func291 (by kernel_rfl) rfl Tryz.ntmps291 (lbO rfl) ?_;repeat' ((conv=>whnf);first|apply RetC.mk|refine rgO ?_|refine ixO ?_|(first|apply brD|apply zad|apply brN|apply brI)<;>(intro))
 all_goals simp_all [zdS]

def zcB (p f:Int):Int × Nat :=
 if p≠1∧p≠2∨f < 0∨15 < f then (0,2) else if p=1 then (2,0) else if f≠1 then (0,9) else (1,0)
theorem zlo (p f:Int):(zcB p f).2 < 12:=by
 unfold zcB;repeat' split
 all_goals decide

theorem zqD {E:Nat→Addr}{n:Nat}(p f:Int) (w:World) (hE:Errs w E n [2,9]):CallC Tryz.prog 296 #[.int .i64 p,.int .i64 f] w fun v w'=>v = .tuple #[.int .i64 (zcB p f).1,zc9 E (zcB p f).2]∧Ext No w w':=by
 refine zaa tabOk Tryz.func296 (by kernel_rfl) rfl Tryz.ntmps296 (lbO rfl) ?_;have hS:=St.start w No;repeat' ((conv=>whnf);first|apply RetC.mk|refine rgO ?_|refine ixO ?_|refine hS.ldrF (hE.at_ 2 rfl) id id ?_|refine hS.ldrF (hE.at_ 9 rfl) id id ?_|(refine zuC tabOk mixed [] No [0,1,2] rfl (by kernel_rfl) ?_;rintro w1 rfl;replace hS:=hS.drew)|(first|apply brD|apply zad|apply brN|apply brI)<;>(intro))
 all_goals refine ⟨?_,hS.ext⟩
 all_goals clear hE hS
 all_goals unfold zcB
 all_goals ((repeat' split)<;>first|rfl|(exfalso;omega)|(simp_all [zaO,zam];done)|(simp_all [zaO,zam];omega)|trace_state)

theorem zrT (w:World):CallC Tryz.prog 327 #[] w fun v w'=>∃ r l c,v = .map (some r)∧Ext No w w'∧w'.heap[r]?=some (zl9 l c)∧∀ p s,p≠1→zlH p s l=zc4 p s:=by
 refine zaa tabOk Tryz.func327 (by kernel_rfl) rfl Tryz.ntmps327 (lbO rfl) ?_;(conv=>whnf)
 refine zeI tabOk mixed [] No (.take 1 (.take 3 (.take 5 (.alt 0
  (.alt 2 (.alt 4 (.alt 6 (.take 7 (.take 8 .fin)) .fin) (.alt 6 (.alt 4 (.take 7 (.take 8 .fin)) .fin) .fin))
  (.alt 4 (.alt 2 (.alt 6 (.take 7 (.take 8 .fin)) .fin) (.alt 6 (.alt 2 (.take 7 (.take 8 .fin)) .fin) .fin))
  (.alt 6 (.alt 2 (.alt 4 (.take 7 (.take 8 .fin)) .fin) (.alt 4 (.alt 2 (.take 7 (.take 8 .fin)) .fin) .fin)) .fin))) .fin)))) (by kernel_rfl) ?_
 intro w1 hw1;have hS:=St.start w1 No;have hx0:Ext No w w1:=by subst hw1;exact Ext.drawn _ _ _
 clear hw1;repeat' ((conv=>whnf);first|apply RetC.mk|refine And.intro ?_ ?_|refine hS.mkMap (fun r w' hr hS=>?_)|refine hS.ins 0 rfl rfl (fun w' hx hS=>?_)|refine KeepC.mk hS.ext ?_)
 all_goals refine ⟨_,_,_,rfl,hx0.trans hS.ext,hS.get 0 rfl,fun p s hp=>?_⟩
 all_goals clear hS hx0
 all_goals simp only [List.nil_append,List.cons_append,zlH,zc4]
 all_goals (by_cases h2:p=2<;>by_cases s1:s=1<;>by_cases s2:s=2<;>by_cases s3:s=3<;>simp_all)

theorem zlJ (p s:Int) (w:World):CallC Tryz.prog 294 #[.int .i64 p,.int .i64 s] w fun v w'=>v = .int .i64 (zc4 p s)∧Ext No w w':=by
 refine zaa tabOk Tryz.func294 (by kernel_rfl) rfl Tryz.ntmps294 (lbO rfl) ?_;(conv=>whnf);refine brD (fun h=>?_) (fun h=>?_)
 ·repeat' ((conv=>whnf);first|apply RetC.mk|refine rgO ?_|refine ixO ?_|(first|apply brD|apply zad|apply brN|apply brI)<;>(intro))
  exact ⟨by simp [zc4,h],Ext.refl _ _⟩
 ·(conv=>whnf)
  refine (zrT w).mono ?_;rintro v w' ⟨r,l,c,rfl,hx,hr,hk⟩;(conv=>whnf);refine ⟨_,_,ztk p s hr,?_⟩;repeat' ((conv=>whnf);first|apply RetC.mk|refine rgO ?_|refine ixO ?_|(first|apply brD|apply zad|apply brN|apply brI)<;>(intro))
  exact ⟨by rw [hk p s h],hx⟩

theorem zri (x:Int) (k:Nat) (hk:k < 4):zob x (2 ^ k:Nat)=0∨zob x (2 ^ k:Nat)=(2 ^ k:Nat):=by
 have h1:BitVec.ofInt 64 ((2 ^ k:Nat):Int)=BitVec.twoPow 64 k:=by
  match k,hk with
  | 0,_|1,_|2,_|3,_=>rfl
  | n+4,h=>omega
 unfold zob;rw [h1,BitVec.and_twoPow];split
 ·right
  match k,hk with
  | 0,_|1,_|2,_|3,_=>rfl
  | n+4,h=>omega
 ·left
  rfl
theorem zlY (x:Int) (k:Nat) (hk:k < 4):(zob x (2 ^ k:Nat) == ((2 ^ k:Nat):Int))=decide (zob x (2 ^ k:Nat)≠0):=by
 have h2:((2 ^ k:Nat):Int)≠0:=by
  match k,hk with
  | 0,_|1,_|2,_|3,_=>decide
  | n+4,h=>omega
 rcases zri x k hk with h|h
 ·rw [h];simpa using h2.symm
 ·rw [h];simpa using h2

theorem zlX (x y:Int) (w:World):CallC Tryz.prog 312 #[.int .i64 x,.int .i64 y] w fun v w'=>v = .bool (zob x y == y)∧w=w':=by
 refine zaa tabOk Tryz.func312 (by kernel_rfl) rfl Tryz.ntmps312 (lbO rfl) ?_;repeat' ((conv=>whnf);first|apply RetC.mk|refine rgO ?_|refine ixO ?_|(first|apply brD|apply zad|apply brN|apply brI)<;>(intro))
 exact ⟨rfl,rfl⟩

theorem zqb (p s f:Int) (o:Bool) (w:World):CallC Tryz.prog 263 #[.int .i64 p,.int .i64 s,.int .i64 f,.bool o] w fun v w'=>v = .tuple #[.int .i64 (zdS p s f o).1,.bool (zdS p s f o).2]∧w=w':=by
 have b0:=zlY f 0 (by decide);have b1:=zlY f 1 (by decide);have b2:=zlY f 2 (by decide);have b3:=zlY f 3 (by decide);simp only [show ((2 ^ 0:Nat):Int)=1 from rfl,show ((2 ^ 1:Nat):Int)=2 from rfl,show ((2 ^ 2:Nat):Int)=4 from rfl,show ((2 ^ 3:Nat):Int)=8 from rfl] at b0 b1 b2 b3;have c0:=zlX f 1 w;have c1:=zlX f 2 w;have c2:=zlX f 4 w;have c3:=zlX f 8 w;rw [b0] at c0;rw [b1] at c1;rw [b2] at c2;rw [b3] at c3;clear b0 b1 b2 b3;refine zaa tabOk Tryz.func263 (by kernel_rfl) rfl Tryz.ntmps263 (lbO rfl) ?_;repeat' ((conv=>whnf);first|apply RetC.mk|refine rgO ?_|refine ixO ?_|(refine c3.mono ?_;rintro v w' ⟨rfl,rfl⟩)|(refine c2.mono ?_;rintro v w' ⟨rfl,rfl⟩)|(refine c1.mono ?_;rintro v w' ⟨rfl,rfl⟩)|(refine c0.mono ?_;rintro v w' ⟨rfl,rfl⟩)|(first|apply brD|apply zad|apply brN|apply brI)<;>(intro))
 all_goals simp_all [zdS]

theorem zn4 (p f:Int) (w:World):CallC Tryz.prog 194 #[.int .i64 p,.int .i64 f] w fun v w'=>v = .tuple #[.int .i64 (zcB p f).1,.int .i64 (zcB p f).2]∧w=w':=by
 refine zaa tabOk Tryz.func194 (by kernel_rfl) rfl Tryz.ntmps194 (lbO rfl) ?_;repeat' ((conv=>whnf);first|apply RetC.mk|refine rgO ?_|refine ixO ?_|(first|apply brD|apply zad|apply brN|apply brI)<;>(intro))
 all_goals refine ⟨?_,rfl⟩
 all_goals unfold zcB
 all_goals ((repeat' split)<;>first|rfl|(exfalso;omega)|(simp_all [zaO,zam];done)|(simp_all [zaO,zam];omega)|trace_state)

theorem zhf (p s:Int) (w:World):CallC Tryz.prog 196 #[.int .i64 p,.int .i64 s] w fun v w'=>v = .int .i64 (zc4 p s)∧w=w':=by
 refine zaa tabOk Tryz.func196 (by kernel_rfl) rfl Tryz.ntmps196 (lbO rfl) ?_;repeat' ((conv=>whnf);first|apply RetC.mk|refine rgO ?_|refine ixO ?_|(first|apply brD|apply zad|apply brN|apply brI)<;>(intro))
 all_goals refine ⟨?_,rfl⟩
 all_goals unfold zc4
 all_goals ((repeat' split)<;>first|rfl|(exfalso;omega)|(simp_all [zaO,zam];done)|(simp_all [zaO,zam];omega)|trace_state)

structure RoleS where
 node:Int
 epoch:Int
 silence:Int
 active:Bool

def za0 (r:RoleS):List Value:=[.int .i64 r.node,.int .i64 r.epoch,.int .i64 r.silence,.bool r.active]

structure RoleS.Ok (r:RoleS):Prop where
 n0:r.node=0∨r.node=1
 e0:0≤r.epoch
 e1:r.epoch≤1073741824
 s0:0≤r.silence
 s1:r.silence≤1000000000000

def RoleS.next (r:RoleS):Int × Nat :=
 let e:=if (r.epoch+1).tmod 2≠r.node then r.epoch+1+1 else r.epoch+1
 if e > 1073741824 then (0,2) else (e,0)
def RoleS.tick (r:RoleS):Bool × RoleS:=if r.active then (false,r) else (decide (r.silence+1 > 9),{ r with silence:=r.silence+1 })
def RoleS.claim (r:RoleS) (e:Int):Nat × RoleS :=
 if r.active then (11,r) else if r.next.2≠0 then (r.next.2,r) else if r.next.1≠e then (3,r) else (0,{ r with active:=true,epoch:=e })
def RoleS.hear (r:RoleS) (e:Int):Bool × RoleS :=
 if e < 0∨e > 1073741824 then (false,r) else
 let d:=if e > r.epoch then r.active else false
 let r1:=if e > r.epoch then { r with epoch:=e,active:=false } else r
 (d,if r1.active=false∧e=r1.epoch then { r1 with silence:=0 } else r1)

section
variable {w : World} {b : Nat} {r : RoleS}

theorem zby (hb:Blk w b 335 (za0 r)):CallC Tryz.prog 157 #[.pointer (some ⟨b,0,none⟩)] w fun v w'=>v = .bool r.active∧w=w':=by
 refine zaa tabOk Tryz.func157 (by kernel_rfl) rfl Tryz.ntmps157 (lbO rfl) ?_;have hS:=(St.start w (· = b)).add (zab b _ _) hb (by simp [blk];exact hb.lt) (by simp);repeat' ((conv=>whnf);first|apply RetC.mk|refine nzO ?_|refine rgO ?_|refine ixO ?_|refine hS.ld 0 rfl rfl ?_|(first|apply brD|apply zad|apply brN|apply brI)<;>(intro))
 exact ⟨rfl,rfl⟩

theorem zbq (hb:Blk w b 335 (za0 r)):CallC Tryz.prog 167 #[.pointer (some ⟨b,0,none⟩)] w fun v w'=>v = .int .i64 r.epoch∧w=w':=by
 refine zaa tabOk Tryz.func167 (by kernel_rfl) rfl Tryz.ntmps167 (lbO rfl) ?_;have hS:=(St.start w (· = b)).add (zab b _ _) hb (by simp [blk];exact hb.lt) (by simp);repeat' ((conv=>whnf);first|apply RetC.mk|refine nzO ?_|refine rgO ?_|refine ixO ?_|refine hS.ld 0 rfl rfl ?_|(first|apply brD|apply zad|apply brN|apply brI)<;>(intro))
 exact ⟨rfl,rfl⟩

theorem zqf (hb:Blk w b 335 (za0 r)) (hr:r.Ok):CallC Tryz.prog 319 #[.pointer (some ⟨b,0,none⟩)] w fun v w'=>v = .bool r.tick.1∧Ext (· = b) w w'∧Blk w' b 335 (za0 r.tick.2):=by
 have h1:=hr.s1;have h0:=hr.s0;refine zaa tabOk Tryz.func319 (by kernel_rfl) rfl Tryz.ntmps319 (lbO rfl) ?_;have hS:=(St.start w (· = b)).add (zab b _ _) hb (by simp [blk];exact hb.lt) (by simp);(conv=>whnf);refine hS.ld 0 rfl rfl ?_;(conv=>whnf);refine brI (fun ha=>?_) (fun ha=>?_)
 ·repeat' ((conv=>whnf);first|apply RetC.mk|refine nzO ?_|refine rgO ?_|refine ixO ?_|(first|apply brD|apply zad|apply brN|apply brI)<;>(intro))
  have e:r.tick=(false,r):=by simp [RoleS.tick,ha]
  rw [e];exact ⟨rfl,hS.ext,hS.blk 0 rfl⟩
 ·repeat' ((conv=>whnf);first|apply RetC.mk|refine nzO ?_|refine rgO ?_|refine ixO ?_|refine hS.ld 0 rfl rfl ?_|refine hS.st 0 rfl (lbO rfl) rfl (fun w' hS=>?_)|(first|apply brD|apply zad|apply brN|apply brI)<;>(intro))
  have e:r.tick=(decide (r.silence+1 > 9),{ r with silence:=r.silence+1 }):=by simp [RoleS.tick,ha]
  rw [e];exact ⟨rfl,hS.ext,hS.blk 0 rfl⟩

theorem zu6 {x:Int}(h:0≤x):x.tmod 2=x % 2:=Int.tmod_eq_emod_of_nonneg h

theorem zkM {E:Nat→Addr}(hb:Blk w b 335 (za0 r)) (hr:r.Ok) {n:Nat}(hE:Errs w E n [2]) :
  CallC Tryz.prog 339 #[.pointer (some ⟨b,0,none⟩)] w fun v w'=>v = .tuple #[.int .i64 r.next.1,zc9 E r.next.2]∧Ext No w w':=by
 have h1:=hr.e1;have h0:=hr.e0;refine zaa tabOk Tryz.func339 (by kernel_rfl) rfl Tryz.ntmps339 (lbO rfl) ?_;have hS:=St.start w No;repeat' ((conv=>whnf);first|refine hS.ldr (show w.cell? ⟨b,0+0,none⟩=_ from hb.cell _) id ?_|refine hS.ldr (show w.cell? ⟨b,0+1,none⟩=_ from hb.cell _) id ?_|(refine zah tabOk mixed [] No [0,1,2] (by kernel_rfl) ?_;rintro w1 rfl;replace hS:=hS.drew)|refine hS.ldrF (hE.at_ 2 rfl) id id ?_|apply RetC.mk|refine nzO ?_|refine rgO ?_|refine brD ?_ ?_<;>(intro)|refine zad ?_ ?_<;>(intro))
 all_goals refine ⟨?_,hS.ext⟩
 all_goals clear hb hE hS
 all_goals unfold RoleS.next;dsimp only
 all_goals ((repeat' split)<;>first|rfl|(exfalso;omega)|(simp_all [zaO,zam];done)|(simp_all [zaO,zam];omega)|trace_state)

theorem zn0 {E:Nat→Addr}(e:Int) (hb:Blk w b 335 (za0 r)) (hr:r.Ok) {n:Nat}(hE:Errs w E n [2,3,11]) (hn:n≤b) :
  CallC Tryz.prog 340 #[.pointer (some ⟨b,0,none⟩),.int .i64 e] w fun v w'=>v=zc9 E (r.claim e).1∧Ext (· = b) w w'∧Blk w' b 335 (za0 (r.claim e).2):=by
 refine zaa tabOk Tryz.func340 (by kernel_rfl) rfl Tryz.ntmps340 (lbO rfl) ?_;have hS:=(St.start w (· = b)).add (zab b _ _) hb (by simp [blk];exact hb.lt) (by simp);(conv=>whnf);have g2:=hE.lt 2 rfl;have g3:=hE.lt 3 rfl;have g11:=hE.lt 11 rfl;simp only [zlm] at g2 g3 g11;refine (zkM hb hr (hE.sub rfl)).mono ?_;rintro v w' ⟨rfl,hx⟩;replace hS:=hS.no hx
 obtain ⟨x,k,hk,hk2⟩:∃ x k,r.next=(x,k)∧(k=0∨k=2):=by
  refine ⟨r.next.1,r.next.2,rfl,?_⟩;unfold RoleS.next;dsimp only;split<;>split<;>simp
 rw [hk];rcases hk2 with rfl|rfl
 all_goals repeat' ((conv=>whnf);first|apply RetC.mk|refine nzO ?_|refine rgO ?_|refine ixO ?_|refine hS.ld 0 rfl rfl ?_|refine hS.ldr (hE.at_ 2 rfl) (hE.ne 2 rfl hn) ?_|refine hS.ldr (hE.at_ 3 rfl) (hE.ne 3 rfl hn) ?_|refine hS.ldr (hE.at_ 11 rfl) (hE.ne 11 rfl hn) ?_|refine hS.st 0 rfl (lbO rfl) rfl (fun w' hS=>?_)|(first|apply brD|apply zad|apply brN|apply brI)<;>(intro))
 all_goals have hB:=hS.blk 0 rfl
 all_goals refine ⟨?_,hS.ext,hB.to ?_⟩
 all_goals clear hB hS
 all_goals unfold RoleS.claim;rw [hk];dsimp only [za0]
 all_goals ((repeat' split)<;>first|rfl|(exfalso;omega)|(simp_all [zaO,zam];done)|(simp_all [zaO,zam];omega)|trace_state)

theorem zqj (e:Int) (hb:Blk w b 335 (za0 r)):CallC Tryz.prog 301 #[.pointer (some ⟨b,0,none⟩),.int .i64 e] w fun v w'=>v = .bool (r.hear e).1∧Ext (· = b) w w'∧Blk w' b 335 (za0 (r.hear e).2):=by
 refine zaa tabOk Tryz.func301 (by kernel_rfl) rfl Tryz.ntmps301 (lbO rfl) ?_;have hS:=(St.start w (· = b)).add (zab b _ _) hb (by simp [blk];exact hb.lt) (by simp);repeat' ((conv=>whnf);first|apply RetC.mk|refine nzO ?_|refine rgO ?_|refine ixO ?_|refine hS.ld 0 rfl rfl ?_|refine hS.st 0 rfl (lbO rfl) rfl (fun w' hS=>?_)|(first|apply brD|apply zad|apply brN|apply brI)<;>(intro))
 all_goals have hB:=hS.blk 0 rfl
 all_goals refine ⟨?_,hS.ext,hB.to ?_⟩
 all_goals clear hB hS hb
 all_goals unfold RoleS.hear;dsimp only [za0]
 all_goals ((repeat' split)<;>first|rfl|(exfalso;omega)|(simp_all [zaO,zam];done)|(simp_all [zaO,zam];omega)|trace_state)

theorem zrM (a e:Int) (w:World) (ha:a=0∨a=1) (h0:0≤e) (h1:e≤1073741824):CallC Tryz.prog 129 #[.int .i64 a,.int .i64 e] w fun v w' =>
  ∃ b,v = .tuple #[.pointer (some ⟨b,0,none⟩),.nilIface]∧w.heap.size≤b∧Ext No w w'∧Blk w' b 335 (za0 ⟨a,e,0,false⟩):=by
 refine zaa tabOk Tryz.func129 (by kernel_rfl) rfl Tryz.ntmps129 (lbO rfl) ?_;have hS:=St.start w No;repeat' ((conv=>whnf);first|refine hS.new (fun b w' hb hS=>?_)|apply RetC.mk|refine brD ?_ ?_<;>(intro)|refine zad ?_ ?_<;>(intro))
 all_goals first|(exfalso;omega)|exact ⟨_,rfl,hb,hS.ext,hS.blk 0 rfl⟩

end

def zmZ (n m i:Nat):List UInt8:=(List.range m).map fun j=>if m≤j+i then UInt8.ofNat (n / 256 ^ (m - 1 - j)) else 0
def zdN (n m:Nat):List UInt8:=(List.range m).map fun j=>UInt8.ofNat (n / 256 ^ (m - 1 - j))
theorem zgE (n m i:Nat):(zmZ n m i).length=m:=by simp [zmZ]
theorem zbh (n m:Nat):(zdN n m).length=m:=by simp [zdN]
theorem zpK (n m:Nat):zmZ n m 0=List.replicate m 0:=by
 apply List.ext_getElem?;intro j;by_cases h:j < m
 ·have:¬ m≤j:=by omega
  simp [zmZ,h,this]
 ·simp [zmZ,h]
theorem zol (n m:Nat):zmZ n m m=zdN n m:=by
 unfold zmZ zdN;apply List.map_congr_left;intro j _;rw [if_pos (by omega)]
theorem ziF {n m i j:Nat}(h:j < m):(zmZ n m i)[j]?=some (if m≤j+i then UInt8.ofNat (n / 256 ^ (m - 1 - j)) else 0):=by simp [zmZ,h]
theorem zrD {n m i:Nat}(h:i < m):(zmZ n m i).set (m - 1 - i) (UInt8.ofNat (n / 256 ^ i))=zmZ n m (i+1):=by
 apply List.ext_getElem?;intro j;rw [List.getElem?_set];by_cases e:m - 1 - i=j
 ·subst e;rw [if_pos rfl,if_pos (by rw [zgE];omega),ziF (by omega),if_pos (by omega),show m - 1 - (m - 1 - i)=i by omega]
 ·rw [if_neg e];by_cases hj:j < m
  ·rw [ziF hj,ziF hj];by_cases h1:m≤j+i
   ·rw [if_pos h1,if_pos (by omega)]
   ·rw [if_neg h1,if_neg (by omega)]
  ·rw [List.getElem?_eq_none (by rw [zgE];omega),List.getElem?_eq_none (by rw [zgE];omega)]
theorem zpM (q:Nat):((UInt8.ofNat q).toNat:Int)=(q:Int) % 256:=by
 rw [UInt8.toNat_ofNat'];omega

theorem zgY {α:Type}{w:World}{sz n c g:Nat}{e:TypeId}{enc:α→List Value}(C:Codec sz enc) {xs:List α}(h:(zaf e sz enc (.slice (some ⟨g,0,none⟩) n c) xs).holds w):CellsAt w g 0 (xs.flatMap enc):=by
 obtain ⟨_,⟨h1,_⟩ | ⟨g',cap,cur,h1,h2,h3,h4,h5,h6,h7⟩⟩:=h
 ·cases h1
 ·cases h1;intro j v hj;have hlt:=(List.getElem?_eq_some_iff.1 hj).1;rw [zas C] at hlt;rw [← h7,List.getElem?_take_of_lt (by omega)] at hj;simp only [World.cell?,h3,Nat.zero_add];simpa using hj
theorem zi7:∀ m:Nat,List.replicate m (Value.int .u8 0)=(List.replicate m (0:UInt8)).flatMap zjP
 | 0=>rfl
 | m+1=>by rw [List.replicate_succ,List.replicate_succ,List.flatMap_cons,← zi7 m];rfl
theorem zq4 (n i:Nat):IntKind.u8.wrap ((n:Int) / 2 ^ (8 * i))=((UInt8.ofNat (n / 256 ^ i)).toNat:Int):=by
 rw [IntKind.wrap_u8',zpM,Int.pow_mul];have:((2:Int) ^ 8) ^ i=((256 ^ i:Nat):Int):=by simp
 rw [this,← Int.natCast_ediv]
theorem zfa (n m:Nat) (hm:m≤7) (_hn:n < 9223372036854775808) (w:World) :
  CallC Tryz.prog 281 #[.int .i64 (n:Int),.int .i64 (m:Int)] w fun v w'=>v = .string (bs (zdN n m))∧Ext No w w':=by
 refine zaa tabOk Tryz.func281 (by kernel_rfl) rfl Tryz.ntmps281 (lbO rfl) ?_;have hS:=St.start w No;(conv=>whnf);refine hS.mkSlice (n:=m) Tryz.underlying192 (sz:=1) (bytes:=1) (by kernel_rfl) (z:=.int .u8 0) (by kernel_rfl) (by omega) (by omega) (by unfold maxLen;omega) (enc:=zjP) (xs:=zmZ n m 0) (zgE _ _ _) (by rw [zpK,show (Value.int .u8 0).cells = #[.int .u8 0] from rfl,zml,Nat.mul_one];exact zi7 m) (fun g w' hg hS=>?_);(conv=>whnf)
 refine zaL tabOk (fun σ w' q=>∃ i:Nat,σ=[(10,.int .i64 i),(9,.int .i64 m),(5,.slice (some ⟨g,0,none⟩) m m),(1,.int .i64 m),(0,.int .i64 n)]∧q=m - i∧i≤m∧St w No w' [zaf 5 1 zjP (.slice (some ⟨g,0,none⟩) m m) (zmZ n m i)])
  (σ':=[(10,.int .i64 ((0:Nat):Int)),(9,.int .i64 m),(5,.slice (some ⟨g,0,none⟩) m m),(1,.int .i64 m),(0,.int .i64 n)]) (n:=m) ⟨rfl,rfl,rfl,rfl,rfl,trivial⟩ ⟨0,rfl,rfl,Nat.zero_le _,hS⟩ ?_
 clear hS;rintro _ w1 q ⟨i,rfl,rfl,hi,hS⟩;(conv=>whnf);refine brD (fun h3=>?_) (fun h3=>?_)
 ·have hi2:i < m:=by omega
  repeat' ((conv=>whnf);first|apply RetC.mk|refine rgO ?_|refine ixO ?_|refine rgO ?_|(first|apply brD|apply zad|apply brN|apply brI)<;>(intro))
  refine zvA (n:=8 * i) (by omega) (by show 8 * i≤64;omega) ?_;(conv=>whnf);refine zkV (kd:=.u8) (by kernel_rfl) Tryz.underlying5 (zq4 n i) ?_;(conv=>whnf);refine ixO ?_;(conv=>whnf);refine hS.setL zmT 0 (k:=m - 1 - i) (x:=UInt8.ofNat (n / 256 ^ i)) rfl (ziF (by omega)) (by omega) rfl (fun w' _ hS=>?_);rw [zrD hi2] at hS;(conv=>whnf);refine rgO ?_;(conv=>whnf);refine LoopE.mk ⟨_,[(10,.int .i64 ((i+1:Nat):Int)),(9,_),(5,_),(1,_),(0,_)],?_,⟨rfl,rfl,rfl,rfl,rfl,trivial⟩,⟨i+1,rfl,rfl,by omega,hS⟩⟩;omega
 ·obtain rfl:i=m:=by omega
  rw [zol] at hS;obtain ⟨_,_,h0⟩:∃ b o,CellsAt w1 g 0 ((zdN n i).flatMap zjP):=⟨0,0,zgY zmT (hS.get 0 rfl)⟩;(conv=>whnf);refine zuV Tryz.underlying192 Tryz.underlying5 Tryz.underlying9 h0 (zbh _ _) ?_;repeat' ((conv=>whnf);first|apply RetC.mk|refine rgO ?_|refine ixO ?_|(first|apply brD|apply zad|apply brN|apply brI)<;>(intro))
  exact ⟨rfl,hS.ext⟩

def zeV (l:List UInt8):Nat:=l.foldl (fun n b=>n * 256+b.toNat) 0
theorem zjS {l:List UInt8}{k:Nat}{x:UInt8}(h:l[k]?=some x):zeV (l.take (k+1))=zeV (l.take k) * 256+x.toNat:=by
 unfold zeV;rw [List.take_add_one,h,List.foldl_append];rfl
theorem zqG (l:List UInt8) (x:UInt8):zeV (l++[x])=zeV l * 256+x.toNat:=by
 unfold zeV;rw [List.foldl_append];rfl
theorem zmA:∀ (l:List UInt8) (n c:Nat),n < 256 ^ c→l.foldl (fun n b=>n * 256+b.toNat) n < 256 ^ (c+l.length)
 | [],n,c,h=>by simpa using h
 | x::l,n,c,h=>by
  have hx:=x.toNat_lt;have:=zmA l (n * 256+x.toNat) (c+1) (by rw [Nat.pow_succ];omega);rw [List.foldl_cons,List.length_cons,show c+(l.length+1)=c+1+l.length by omega];exact this
theorem zlj (l:List UInt8):zeV l < 256 ^ l.length:=by
 have:=zmA l 0 0 (by simp)
 rwa [Nat.zero_add] at this
theorem zuJ {a b:Nat}(hb:b < 256):a * 256 ||| b=a * 256+b:=by
 have:=Nat.shiftLeft_add_eq_or_of_lt (i:=8) (b:=b) (by omega) a;rw [Nat.shiftLeft_eq] at this;exact this.symm
theorem ziz (l:List UInt8) (hl:l.length≤7) (w:World) :
  CallC Tryz.prog 220 #[.string (bs l)] w fun v w'=>v = .int .i64 (zeV l:Nat)∧Ext No w w':=by
 refine zaa tabOk Tryz.func220 (by kernel_rfl) rfl Tryz.ntmps220 (lbO rfl) ?_;have hS:=St.start w No;(conv=>whnf);rw [zaN]
 refine zaL tabOk (fun σ w' q=>∃ i:Nat,σ=[(7,.int .i64 i),(6,.int .i64 (l.length:Nat)),(3,.int .i64 (zeV (l.take i):Nat)),(0,.string (bs l))]∧q=l.length - i∧i≤l.length∧St w No w' [])
  (σ':=[(7,.int .i64 ((0:Nat):Int)),(6,.int .i64 (l.length:Nat)),(3,.int .i64 ((0:Nat):Int)),(0,.string (bs l))]) (n:=l.length) ⟨rfl,rfl,rfl,rfl,trivial⟩ ⟨0,rfl,rfl,Nat.zero_le _,hS⟩ ?_
 clear hS;rintro _ w1 q ⟨i,rfl,rfl,hi,hS⟩;(conv=>whnf);refine brD (fun h3=>?_) (fun h3=>?_)
 ·obtain ⟨x,hx⟩:∃ x,l[i]?=some x:=⟨_,List.getElem?_eq_getElem (by omega)⟩;have hst:=zjS hx;have hlt:=zlj (l.take i);have h7:256 ^ (l.take i).length≤256 ^ 6:=Nat.pow_le_pow_right (by omega) (by rw [List.length_take];omega);have hx8:=x.toNat_lt;generalize zeV (l.take i)=v at hst hlt;have hv:v < 281474976710656:=Nat.lt_of_lt_of_le hlt h7;(conv=>whnf);refine zvC (n:=8) (m:=((v * 256:Nat):Int)) rfl (by decide) (by rw [IntKind.wrap_i64];omega) ?_;(conv=>whnf);refine zsz Tryz.underlying9 rfl hx ?_;(conv=>whnf);refine zkV (kd:=.i64) (m:=(x.toNat:Int)) (by kernel_rfl) Tryz.underlying3 (by rw [IntKind.wrap_i64];omega) ?_;(conv=>whnf);refine zvm (a:=v * 256) (by omega) (by omega) ?_;rw [zuJ (by omega),← hst];(conv=>whnf);refine rgO ?_;(conv=>whnf);refine LoopE.mk ⟨_,[(7,.int .i64 ((i+1:Nat):Int)),(6,_),(3,.int .i64 (zeV (l.take (i+1)):Nat)),(0,_)],?_,⟨rfl,rfl,rfl,rfl,trivial⟩,⟨i+1,rfl,rfl,by omega,hS⟩⟩;omega
 ·obtain rfl:i=l.length:=by omega
  rw [List.take_length];repeat' ((conv=>whnf);first|apply RetC.mk|refine rgO ?_|refine ixO ?_|(first|apply brD|apply zad|apply brN|apply brI)<;>(intro))
  exact ⟨rfl,hS.ext⟩
theorem zor (n m:Nat):zdN n (m+1)=zdN (n / 256) m++[UInt8.ofNat n]:=by
 unfold zdN;rw [List.range_succ,List.map_append];congr 1
 ·apply List.map_congr_left;intro j hj;have hj:=List.mem_range.1 hj;rw [show m+1 - 1 - j=(m - 1 - j)+1 by omega,Nat.pow_succ,Nat.mul_comm,← Nat.div_div_eq_div_mul]
 ·simp
theorem zgH:∀ (m n:Nat),zeV (zdN n m)=n % 256 ^ m
 | 0,n=>by simp [zdN,zeV,Nat.mod_one]
 | m+1,n=>by
  have h:(256:Nat) ^ (m+1)=256 * 256 ^ m:=Nat.pow_succ';rw [zor,zqG,zgH m,UInt8.toNat_ofNat',h,Nat.mod_mul];omega

def zmi (c:Nat):Nat:=c / 2 ^ 1 ^^^ 3988292384 * (c &&& 1)
def zfR:Nat→Nat→Nat
 | 0,c=>c
 | k+1,c=>zmi (zfR k c)
def zdU (c:Nat) (b:UInt8):Nat:=zfR 8 (c ^^^ b.toNat)
def zqP (l:List UInt8):Nat:=l.foldl zdU 4294967295
def zqu (l:List UInt8):Nat:=4294967295 ^^^ zqP l
theorem zpC (c:Nat):c &&& 1≤1:=by
 rw [Nat.and_one_is_mod];omega
theorem zoW {c:Nat}(h:c < 4294967296):zmi c < 4294967296:=by
 have h1:=zpC c;have:3988292384 * (c &&& 1)≤3988292384 * 1:=Nat.mul_le_mul_left _ h1;exact Nat.xor_lt_two_pow (n:=32) (by omega) (by omega)
theorem zgK {c:Nat}(h:c < 4294967296):∀ k,zfR k c < 4294967296
 | 0=>h
 | k+1=>zoW (zgK h k)
theorem zl4 {c:Nat}(h:c < 4294967296) (b:UInt8):c ^^^ b.toNat < 4294967296:=by
 have:=b.toNat_lt;exact Nat.xor_lt_two_pow (n:=32) (by omega) (by omega)
theorem znc {c:Nat}(h:c < 4294967296) (b:UInt8):zdU c b < 4294967296:=zgK (zl4 h b) 8
theorem zoB:∀ (l:List UInt8) (c:Nat),c < 4294967296→l.foldl zdU c < 4294967296
 | [],_,h=>h
 | x::l,c,h=>zoB l (zdU c x) (znc h x)
theorem zhD (l:List UInt8):zqP l < 4294967296:=zoB l _ (by omega)
theorem zlv (l:List UInt8):zqu l < 4294967296:=Nat.xor_lt_two_pow (n:=32) (by omega) (zhD l)
theorem zkh {l:List UInt8}{k:Nat}{x:UInt8}(h:l[k]?=some x):zqP (l.take (k+1))=zdU (zqP (l.take k)) x:=by
 unfold zqP;rw [List.take_add_one,h,List.foldl_append];rfl

theorem zt5 (l:List UInt8) (hl:l.length≤1000000) (w:World) :
  CallC Tryz.prog 282 #[.string (bs l)] w fun v w'=>v = .int .i64 (zqu l:Nat)∧Ext No w w':=by
 refine zaa tabOk Tryz.func282 (by kernel_rfl) rfl Tryz.ntmps282 (lbO rfl) ?_;have hS:=St.start w No;(conv=>whnf);rw [zaN]
 refine zaL tabOk (fun σ w' q=>∃ i:Nat,σ=[(7,.int .i64 i),(6,.int .i64 (l.length:Nat)),(3,.int .u32 (zqP (l.take i):Nat)),(0,.string (bs l))]∧q=l.length - i∧i≤l.length∧St w No w' [])
  (σ':=[(7,.int .i64 ((0:Nat):Int)),(6,.int .i64 (l.length:Nat)),(3,.int .u32 ((4294967295:Nat):Int)),(0,.string (bs l))]) (n:=l.length) ⟨rfl,rfl,rfl,rfl,trivial⟩ ⟨0,rfl,rfl,Nat.zero_le _,hS⟩ ?_
 clear hS;rintro _ w1 q ⟨i,rfl,rfl,hi,hS⟩;(conv=>whnf);refine brD (fun h3=>?_) (fun h3=>?_)
 ·obtain ⟨x,hx⟩:∃ x,l[i]?=some x:=⟨_,List.getElem?_eq_getElem (by omega)⟩;have hst:=zkh hx;have hlt:=zhD (l.take i);have hx8:=x.toNat_lt;generalize zqP (l.take i)=c at hst hlt;have hxl:=zl4 hlt x;(conv=>whnf);refine zsz Tryz.underlying9 rfl hx ?_;(conv=>whnf);refine zkV (kd:=.u32) (m:=(x.toNat:Int)) (by kernel_rfl) Tryz.underlying219 (by rw [IntKind.wrap_u32'];omega) ?_;(conv=>whnf);refine zsl hlt (by omega) ?_;(conv=>whnf)
  refine zaL tabOk (fun σ w' q=>∃ j:Nat,σ=[(16,.int .i64 j),(7,.int .i64 i),(6,.int .i64 (l.length:Nat)),(3,.int .u32 (zfR j (c ^^^ x.toNat):Nat)),(0,.string (bs l))]∧q=8 - j∧j≤8∧St w No w' [])
   (σ':=[(16,.int .i64 ((0:Nat):Int)),(7,.int .i64 i),(6,.int .i64 (l.length:Nat)),(3,.int .u32 (zfR 0 (c ^^^ x.toNat):Nat)),(0,.string (bs l))]) (n:=8) ⟨rfl,rfl,rfl,rfl,rfl,trivial⟩ ⟨0,rfl,rfl,Nat.zero_le _,hS⟩ ?_
  clear hS;rintro _ w2 q ⟨j,rfl,rfl,hj,hS⟩;have hd:=zgK hxl j;have hd2:=zgK hxl (j+1);have hdd:zfR (j+1) (c ^^^ x.toNat)=zmi (zfR j (c ^^^ x.toNat)):=rfl;have h88:zdU c x=zfR 8 (c ^^^ x.toNat):=rfl;(conv=>whnf);refine brD (fun h4=>?_) (fun h4=>?_)
  ·generalize zfR j (c ^^^ x.toNat)=d at hd hdd;have h1:=zpC d;have h2:3988292384 * (d &&& 1)≤3988292384 * 1:=Nat.mul_le_mul_left _ h1;(conv=>whnf);refine zvb (n:=1) rfl (by decide) ?_;(conv=>whnf);refine zt9 (b:=1) hd (by omega) ?_;(conv=>whnf);refine zud (a:=3988292384) (by omega) ?_;(conv=>whnf);refine zsl (by omega) (by omega) ?_;(conv=>whnf);refine rgO ?_;(conv=>whnf);refine LoopE.mk ⟨_,[(16,.int .i64 ((j+1:Nat):Int)),(7,_),(6,_),(3,.int .u32 (zfR (j+1) (c ^^^ x.toNat):Nat)),(0,_)],?_,⟨rfl,rfl,rfl,by rw [hdd];rfl,rfl,trivial⟩,⟨j+1,rfl,rfl,by omega,hS⟩⟩;omega
  ·obtain rfl:j=8:=by omega
   rw [← h88,← hst];(conv=>whnf);refine rgO ?_;(conv=>whnf);refine LoopE.mk ⟨_,[(7,.int .i64 ((i+1:Nat):Int)),(6,_),(3,_),(0,_)],?_,⟨rfl,rfl,rfl,rfl,trivial⟩,⟨i+1,rfl,rfl,by omega,hS⟩⟩;omega
 ·obtain rfl:i=l.length:=by omega
  rw [List.take_length];have h1:=zhD l;have h2:=zlv l;(conv=>whnf);refine zuz h1 ?_;(conv=>whnf);refine zkV (kd:=.i64) (m:=(zqu l:Nat)) (by kernel_rfl) Tryz.underlying3 (by rw [IntKind.wrap_i64];unfold zqu at h2 ⊢;omega) ?_;repeat' ((conv=>whnf);first|apply RetC.mk|refine rgO ?_|refine ixO ?_|(first|apply brD|apply zad|apply brN|apply brI)<;>(intro))
  exact ⟨rfl,hS.ext⟩

def zfc (n e l:Nat):List UInt8:=zdN n 4++zdN e 4++zdN l 4
def zbs (n e l:Nat):List UInt8:=zfc n e l++zdN (zqu (zfc n e l)) 4
theorem zef (n e l:Nat):(zfc n e l).length=12:=by simp [zfc,zbh]
theorem zcV (n e l:Nat):(zbs n e l).length=16:=by simp [zbs,zef,zbh]
theorem zlk (n e l:Nat) (hn:n < 9223372036854775808) (he:e < 9223372036854775808) (hl:l < 9223372036854775808) (w:World) :
  CallC Tryz.prog 221 #[.int .i64 (n:Int),.int .i64 (e:Int),.int .i64 (l:Int)] w fun v w'=>v = .string (bs (zbs n e l))∧Ext No w w':=by
 have hs:=zlv (zfc n e l);refine zaa tabOk Tryz.func221 (by kernel_rfl) rfl Tryz.ntmps221 (lbO rfl) ?_;have hS:=St.start w No;(conv=>whnf);refine (zfa n 4 (by omega) hn _).mono ?_;rintro v w' ⟨rfl,hx⟩;replace hS:=hS.no hx;(conv=>whnf);refine (zfa e 4 (by omega) he _).mono ?_;rintro v w' ⟨rfl,hx⟩;replace hS:=hS.no hx;(conv=>whnf);refine zbp (by simp [zbh]) ?_;(conv=>whnf);refine (zfa l 4 (by omega) hl _).mono ?_;rintro v w' ⟨rfl,hx⟩;replace hS:=hS.no hx;(conv=>whnf);refine zbp (by simp [zbh]) ?_;rw [show zdN n 4++zdN e 4++zdN l 4=zfc n e l from rfl];(conv=>whnf);refine (zt5 (zfc n e l) (by rw [zef];omega) _).mono ?_;rintro v w' ⟨rfl,hx⟩;replace hS:=hS.no hx;(conv=>whnf);refine (zfa (zqu (zfc n e l)) 4 (by omega) (by omega) _).mono ?_;rintro v w' ⟨rfl,hx⟩;replace hS:=hS.no hx;(conv=>whnf);refine zbp (by simp [zbh,zef]) ?_;repeat' ((conv=>whnf);first|apply RetC.mk|refine rgO ?_|refine ixO ?_|(first|apply brD|apply zad|apply brN|apply brI)<;>(intro))
 exact ⟨rfl,hS.ext⟩

structure BytS where
 data:List UInt8
 off:Bool
 left:Int
def zaE (B:BytS):List Value:=B.data.flatMap zjP++[.bool B.off,.int .i64 B.left]
theorem zf8 {B:BytS}(h:B.data.length=64):(zaE B).length=66:=by
 simp only [zaE,List.length_append,zas zmT,h,List.length_cons,List.length_nil]
theorem zkz {B:BytS}(h:B.data.length=64):(zaE B)[64]?=some (.bool B.off):=by
 unfold zaE;rw [List.getElem?_append_right (by rw [zas zmT];omega),zas zmT,h];rfl
theorem zpn {B:BytS}(h:B.data.length=64):(zaE B)[65]?=some (.int .i64 B.left):=by
 unfold zaE;rw [List.getElem?_append_right (by rw [zas zmT];omega),zas zmT,h];rfl
theorem zu0 {B:BytS}{k:Nat}{x:UInt8}(h:B.data[k]?=some x):(zaE B)[k]?=some (.int .u8 (x.toNat:Int)):=by
 have:=zdG zmT (j:=0) h rfl;have lt:=(List.getElem?_eq_some_iff.1 h).1;unfold zaE;rw [List.getElem?_append_left (by rw [zas zmT];omega)];simpa using this
theorem zue {B:BytS}{k:Nat}{x y:UInt8}(h:B.data[k]?=some y):zaO (zaE B) k [.int .u8 (x.toNat:Int)]=zaE ⟨B.data.set k x,B.off,B.left⟩:=by
 have lt:=(List.getElem?_eq_some_iff.1 h).1;unfold zaE;have:=zdE [] (B.data.flatMap zjP) [.bool B.off,.int .i64 B.left] [.int .u8 (x.toNat:Int)] k (by rw [zas zmT];simp;omega);simp only [List.nil_append,List.length_nil,Nat.zero_add] at this;have h2:=zdR zmT (j:=0) (y:=x) (vs:=[.int .u8 (x.toNat:Int)]) h (by simp) rfl;rw [Nat.mul_one,Nat.add_zero] at h2;rw [this,h2]
theorem zfn {B:BytS}{x:Bool}(h:B.data.length=64):zaO (zaE B) 64 [.bool x]=zaE ⟨B.data,x,B.left⟩:=by
 unfold zaE;have:=zdE (B.data.flatMap zjP) [.bool B.off,.int .i64 B.left] [] [.bool x] 0 (by simp);simp only [zas zmT,h,List.append_nil,Nat.mul_one,Nat.add_zero] at this;rw [this];rfl
theorem zfW {B:BytS}{x:Int}(h:B.data.length=64):zaO (zaE B) 65 [.int .i64 x]=zaE ⟨B.data,B.off,x⟩:=by
 unfold zaE;have:=zdE (B.data.flatMap zjP) [.bool B.off,.int .i64 B.left] [] [.int .i64 x] 1 (by simp);simp only [zas zmT,h,List.append_nil,Nat.mul_one] at this;rw [this];rfl

def BytS.write (B:BytS) (p:Nat):List UInt8→Bool × BytS
 | []=>(true,B)
 | x::r=>if B.off=true∨B.left=0 then (false,⟨B.data,true,B.left⟩) else BytS.write ⟨B.data.set p x,B.off,if B.left - 1 > -1 then B.left - 1 else -1⟩ (p+1) r
theorem zbT (B:BytS) (p:Nat) (x:UInt8) (r:List UInt8):B.write p (x::r)=if B.off=true∨B.left=0 then (false,⟨B.data,true,B.left⟩) else BytS.write ⟨B.data.set p x,B.off,if B.left - 1 > -1 then B.left - 1 else -1⟩ (p+1) r:=rfl
theorem zjR (B:BytS) (p:Nat):B.write p []=(true,B):=rfl
def by0:BytS:=⟨List.replicate 64 0,false,-1⟩

section
variable {w : World} {b : Nat} {B : BytS}
theorem zhm (w:World):CallC Tryz.prog 73 #[] w fun v w'=>∃ b,v = .pointer (some ⟨b,0,none⟩)∧w.heap.size≤b∧Ext No w w'∧Blk w' b 253 (zaE by0):=by
 have hb:∀ w,(Instr.build 253 #[(2,.int .i64 (-1))]).run Tryz.prog w = .ok (.agg (zaE by0).toArray) w:=fun w=>by kernel_rfl
 have hb2:∀ k:Value→Prop,k (.agg (zaE by0).toArray)→PureC Tryz.prog (Instr.build 253 #[(2,.int .i64 (-1))]) k:=fun k hk=>PureC.of hb hk
 have ho:zam (.agg (zaE by0).toArray)=zaE by0:=by simp [zam]
 generalize Value.agg (zaE by0).toArray=VV at hb2 ho;refine zaa tabOk Tryz.func73 (by kernel_rfl) rfl Tryz.ntmps73 (lbO rfl) ?_;have hS:=St.start w No;repeat' ((conv=>whnf);first|apply RetC.mk|refine hb2 _ ?_)
 refine hS.new (fun b w' hb hS=>?_);rw [ho] at hS;repeat' ((conv=>whnf);first|apply RetC.mk|refine rgO ?_|refine ixO ?_|(first|apply brD|apply zad|apply brN|apply brI)<;>(intro))
 exact ⟨b,rfl,hb,hS.ext,hS.blk 0 rfl⟩
theorem zuR (hb:Blk w b 253 (zaE B)) (hl:B.data.length=64):CallC Tryz.prog 239 #[.pointer (some ⟨b,0,none⟩)] w fun _ w'=>Ext (· = b) w w'∧Blk w' b 253 (zaE ⟨B.data,false,-1⟩):=by
 refine zaa tabOk Tryz.func239 (by kernel_rfl) rfl Tryz.ntmps239 (lbO rfl) ?_;have hS:=(St.start w (· = b)).add (zab b _ _) hb (by simp [blk];exact hb.lt) (by simp);(conv=>whnf);refine hS.st 0 rfl (by rw [zf8 hl];simp [zam]) rfl (fun w' hS=>?_);replace hS:St w (· = b) w' [blk b 253 (zaE ⟨B.data,false,B.left⟩)]:=by rw [← zfn hl];exact hS
 conv=>whnf
 refine hS.st 0 rfl (by rw [zf8 (by exact hl)];simp [zam]) rfl (fun w' hS=>?_);replace hS:St w (· = b) w' [blk b 253 (zaE ⟨B.data,false,-1⟩)]:=by rw [← zfW (B:=⟨B.data,false,B.left⟩) hl];exact hS
 repeat' ((conv=>whnf);first|apply RetC.mk|refine rgO ?_|refine ixO ?_|(first|apply brD|apply zad|apply brN|apply brI)<;>(intro))
 exact ⟨hS.ext,hS.blk 0 rfl⟩
theorem zsV (hb:Blk w b 253 (zaE B)) (hl:B.data.length=64):CallC Tryz.prog 238 #[.pointer (some ⟨b,0,none⟩)] w fun _ w'=>Ext (· = b) w w'∧Blk w' b 253 (zaE ⟨B.data,true,B.left⟩):=by
 refine zaa tabOk Tryz.func238 (by kernel_rfl) rfl Tryz.ntmps238 (lbO rfl) ?_;have hS:=(St.start w (· = b)).add (zab b _ _) hb (by simp [blk];exact hb.lt) (by simp);(conv=>whnf);refine hS.st 0 rfl (by rw [zf8 hl];simp [zam]) rfl (fun w' hS=>?_);replace hS:St w (· = b) w' [blk b 253 (zaE ⟨B.data,true,B.left⟩)]:=by rw [← zfn hl];exact hS
 repeat' ((conv=>whnf);first|apply RetC.mk|refine rgO ?_|refine ixO ?_|(first|apply brD|apply zad|apply brN|apply brI)<;>(intro))
 exact ⟨hS.ext,hS.blk 0 rfl⟩
theorem zpO (hb:Blk w b 253 (zaE B)) (hl:B.data.length=64):CallC Tryz.prog 278 #[.pointer (some ⟨b,0,none⟩)] w fun v w'=>v = .bool (!B.off)∧Ext No w w':=by
 refine zaa tabOk Tryz.func278 (by kernel_rfl) rfl Tryz.ntmps278 (lbO rfl) ?_;have hS:=St.start w No;(conv=>whnf);refine ldc (v:=.bool B.off) (by rw [hb.cell];exact zkz hl) ?_;repeat' ((conv=>whnf);first|apply RetC.mk|refine rgO ?_|refine ixO ?_|(first|apply brD|apply zad|apply brN|apply brI)<;>(intro))
 exact ⟨rfl,hS.ext⟩
theorem ztI (hb:Blk w b 253 (zaE B)) (hl:B.data.length=64):CallC Tryz.prog 219 #[.pointer (some ⟨b,0,none⟩)] w fun v w'=>v = .string (bs B.data)∧Ext No w w':=by
 have h0:CellsAt w b 0 (B.data.flatMap zjP):=fun j v hj=>by
  have lt:=(List.getElem?_eq_some_iff.1 hj).1;rw [hb.cell];unfold zaE;rw [Nat.zero_add,List.getElem?_append_left lt];exact hj
 refine zaa tabOk Tryz.func219 (by kernel_rfl) rfl Tryz.ntmps219 (lbO rfl) ?_;have hS:=St.start w No;(conv=>whnf);refine zuV Tryz.underlying192 Tryz.underlying5 Tryz.underlying9 h0 hl ?_;repeat' ((conv=>whnf);first|apply RetC.mk|refine rgO ?_|refine ixO ?_|(first|apply brD|apply zad|apply brN|apply brI)<;>(intro))
 exact ⟨rfl,hS.ext⟩
theorem zs6 {E:Nat→Addr}{n:Nat}(k:Int) (hb:Blk w b 253 (zaE B)) (hl:B.data.length=64) (hE:Errs w E n [2,7]) (hq:n≤b):CallC Tryz.prog 240 #[.pointer (some ⟨b,0,none⟩),.int .i64 k] w fun v w'=>v=zc9 E (if k < 0 then 2 else if B.off=true then 7 else 0)∧Ext (· = b) w w'∧Blk w' b 253 (zaE (if k < 0∨B.off=true then B else ⟨B.data,B.off,k⟩)):=by
 refine zaa tabOk Tryz.func240 (by kernel_rfl) rfl Tryz.ntmps240 (lbO rfl) ?_;have hS:=(St.start w (· = b)).add (zab b _ _) hb (by simp [blk];exact hb.lt) (by simp);(conv=>whnf);refine brD (fun h1=>?_) (fun h1=>?_)
 ·repeat' ((conv=>whnf);first|apply RetC.mk|refine rgO ?_|refine ixO ?_|refine hS.ldr (hE.at_ 2 rfl) (hE.ne 2 rfl hq) ?_|refine hS.ldrF (hE.at_ 2 rfl) (hE.ne 2 rfl hq) id ?_|(first|apply brD|apply zad|apply brN|apply brI)<;>(intro))
  rw [if_pos h1,if_pos (.inl h1)];exact ⟨rfl,hS.ext,hS.blk 0 rfl⟩
 conv=>whnf
 refine hS.ld 0 rfl (zkz hl) ?_;rw [if_neg h1];cases ho:B.off
 ·rw [if_neg (by simp),if_neg (by simp [h1])];(conv=>whnf);refine hS.st 0 rfl (by rw [zf8 hl];simp [zam]) rfl (fun w' hS=>?_);replace hS:St w (· = b) w' [blk b 253 (zaE ⟨B.data,B.off,k⟩)]:=by rw [← zfW hl];exact hS
  rw [ho] at hS;repeat' ((conv=>whnf);first|apply RetC.mk|refine rgO ?_|refine ixO ?_|(first|apply brD|apply zad|apply brN|apply brI)<;>(intro))
  exact ⟨rfl,hS.ext,hS.blk 0 rfl⟩
 ·rw [if_pos rfl,if_pos (.inr rfl)];repeat' ((conv=>whnf);first|apply RetC.mk|refine rgO ?_|refine ixO ?_|refine hS.ldr (hE.at_ 7 rfl) (hE.ne 7 rfl hq) ?_|refine hS.ldrF (hE.at_ 7 rfl) (hE.ne 7 rfl hq) id ?_|(first|apply brD|apply zad|apply brN|apply brI)<;>(intro))
  exact ⟨rfl,hS.ext,hS.blk 0 rfl⟩
theorem ztQ {α:Type}{s:List α}{i:Nat}{x:α}(h:s[i]?=some x):s.drop i=x::s.drop (i+1):=by
 obtain ⟨lt,e⟩:=List.getElem?_eq_some_iff.1 h;rw [List.drop_eq_getElem_cons lt,e]
theorem zd5 {E:Nat→Addr}{n:Nat}(p:Nat) (s:List UInt8) (hp:p+s.length≤64) (hb:Blk w b 253 (zaE B)) (hl:B.data.length=64) (hf : -1≤B.left∧B.left≤9223372036854775807) (hE:Errs w E n [7]) (hq:n≤b) :
  CallC Tryz.prog 283 #[.pointer (some ⟨b,0,none⟩),.int .i64 (p:Int),.string (bs s)] w fun v w'=>v=zc9 E (if (B.write p s).1=true then 0 else 7)∧Ext (· = b) w w'∧Blk w' b 253 (zaE (B.write p s).2):=by
 refine zaa tabOk Tryz.func283 (by kernel_rfl) rfl Tryz.ntmps283 (lbO rfl) ?_;have hS:=(St.start w (· = b)).add (zab b _ _) hb (by simp [blk];exact hb.lt) (by simp);(conv=>whnf);rw [zaN]
 refine zaL tabOk (fun σ w' q=>∃ (i:Nat) (C:BytS),σ=[(10,.int .i64 i),(9,.int .i64 (s.length:Nat)),(2,.string (bs s)),(1,.int .i64 (p:Int)),(0,.pointer (some ⟨b,0,none⟩))]∧q=s.length - i∧i≤s.length∧C.data.length=64∧(-1≤C.left∧C.left≤9223372036854775807)∧B.write p s=C.write (p+i) (s.drop i)∧St w (· = b) w' [blk b 253 (zaE C)])
  (σ':=[(10,.int .i64 ((0:Nat):Int)),(9,.int .i64 (s.length:Nat)),(2,.string (bs s)),(1,.int .i64 (p:Int)),(0,.pointer (some ⟨b,0,none⟩))]) (n:=s.length) ⟨rfl,rfl,rfl,rfl,rfl,trivial⟩ ⟨0,B,rfl,rfl,Nat.zero_le _,hl,hf,rfl,hS⟩ ?_
 clear hS;rintro _ w1 q ⟨i,C,rfl,rfl,hi,hcl,hcf,hw,hS⟩;(conv=>whnf);refine brD (fun h3=>?_) (fun h3=>?_)
 ·obtain ⟨x,hx⟩:∃ x,s[i]?=some x:=⟨_,List.getElem?_eq_getElem (by omega)⟩;obtain ⟨y,hy⟩:∃ y,C.data[p+i]?=some y:=⟨_,List.getElem?_eq_getElem (by omega)⟩;rw [ztQ hx,zbT] at hw;(conv=>whnf);refine hS.ld 0 rfl (zkz hcl) ?_
  have fail:C.off=true∨C.left=0→∀ w',St w (· = b) w' [blk b 253 (zaE ⟨C.data,true,C.left⟩)]→(zc9 E 7=zc9 E (if (B.write p s).1=true then 0 else 7)∧Ext (· = b) w w'∧Blk w' b 253 (zaE (B.write p s).2)):=by
   intro h w' hS;rw [if_pos h] at hw;rw [hw];exact ⟨rfl,hS.ext,hS.blk 0 rfl⟩
  cases hco:C.off
  ·(conv=>whnf)
   refine hS.ld 0 rfl (zpn hcl) ?_;(conv=>whnf);refine brD (fun h4=>?_) (fun h4=>?_)
   ·(conv=>whnf)
    refine hS.st 0 rfl (by rw [zf8 hcl];simp [zam]) rfl (fun w' hS=>?_);replace hS:St w (· = b) w' [blk b 253 (zaE ⟨C.data,true,C.left⟩)]:=by rw [← zfn hcl];exact hS
    repeat' ((conv=>whnf);first|apply RetC.mk|refine rgO ?_|refine ixO ?_|refine hS.ldr (hE.at_ 7 rfl) (hE.ne 7 rfl hq) ?_|refine hS.ldrF (hE.at_ 7 rfl) (hE.ne 7 rfl hq) id ?_|(first|apply brD|apply zad|apply brN|apply brI)<;>(intro))
    exact fail (.inr h4) _ hS
   ·rw [if_neg (by simp [hco,h4])] at hw;(conv=>whnf)
    (refine zah tabOk mixed [] ((· = b)) [0,1,2,3,4,5,6,7,8,9,10] (by kernel_rfl) ?_;rintro w1 rfl;replace hS:=hS.drew)
    (conv=>whnf);refine rgO ?_;(conv=>whnf);refine zsz Tryz.underlying9 rfl hx ?_;(conv=>whnf);refine ixO ?_;(conv=>whnf);refine hS.stX 0 rfl (by rw [zf8 hcl];simp [zam];omega) rfl (fun w' hx' hS=>?_);refine KeepC.mk hx' ?_
    have ho:zaO (zaE C) (0+0+((p:Int)+(i:Int)).toNat * 1) (zam (.int .u8 (x.toNat:Int)))=zaE ⟨C.data.set (p+i) x,C.off,C.left⟩:=by
     rw [show 0+0+((p:Int)+(i:Int)).toNat * 1=p+i by omega];exact zue hy
    have hcl2:(C.data.set (p+i) x).length=64:=by rw [List.length_set];exact hcl
    replace hS:St w (· = b) w' [blk b 253 (zaE ⟨C.data.set (p+i) x,C.off,C.left⟩)]:=by rw [← ho];exact hS
    (conv=>whnf);refine hS.ld 0 rfl (zpn (by exact hcl2)) ?_;(conv=>whnf);refine RngC.mk (by dsimp only;omega) (by dsimp only;omega) ?_;(conv=>whnf);refine hS.st 0 rfl (by rw [zf8 (by exact hcl2)];simp [zam]) rfl (fun w' hS=>?_)
    replace hS:St w (· = b) w' [blk b 253 (zaE ⟨C.data.set (p+i) x,C.off,if C.left - 1 > -1 then C.left - 1 else -1⟩)]:=by
     rw [← zfW (B:=⟨C.data.set (p+i) x,C.off,C.left⟩) hcl2];exact hS
    (conv=>whnf);refine rgO ?_;(conv=>whnf);refine LoopE.mk ⟨_,[(10,.int .i64 ((i+1:Nat):Int)),(9,_),(2,_),(1,_),(0,_)],?_,⟨rfl,rfl,rfl,rfl,rfl,trivial⟩,⟨i+1,⟨C.data.set (p+i) x,C.off,if C.left - 1 > -1 then C.left - 1 else -1⟩,rfl,rfl,by omega,hcl2,by dsimp only;split<;>omega,hw,hS⟩⟩;omega
  ·(conv=>whnf)
   refine hS.st 0 rfl (by rw [zf8 hcl];simp [zam]) rfl (fun w' hS=>?_);replace hS:St w (· = b) w' [blk b 253 (zaE ⟨C.data,true,C.left⟩)]:=by rw [← zfn hcl];exact hS
   repeat' ((conv=>whnf);first|apply RetC.mk|refine rgO ?_|refine ixO ?_|refine hS.ldr (hE.at_ 7 rfl) (hE.ne 7 rfl hq) ?_|refine hS.ldrF (hE.at_ 7 rfl) (hE.ne 7 rfl hq) id ?_|(first|apply brD|apply zad|apply brN|apply brI)<;>(intro))
   exact fail (.inl hco) _ hS
 ·obtain rfl:i=s.length:=by omega
  rw [List.drop_length,zjR] at hw;rw [hw];repeat' ((conv=>whnf);first|apply RetC.mk|refine rgO ?_|refine ixO ?_|(first|apply brD|apply zad|apply brN|apply brI)<;>(intro))
  exact ⟨rfl,hS.ext,hS.blk 0 rfl⟩
end

structure BOk (B:BytS):Prop where
 len:B.data.length=64
 lo : -1≤B.left
 hi:B.left≤9223372036854775807
theorem BOk.write:∀ (s:List UInt8) {B:BytS}(p:Nat),BOk B→BOk (B.write p s).2
 | [],_,_,h=>h
 | x::r,B,p,h=>by
  rw [zbT];split
  ·exact ⟨h.len,h.lo,h.hi⟩
  ·refine BOk.write r (p+1) ⟨by rw [List.length_set];exact h.len,?_,?_⟩;all_goals have:=h.lo
   all_goals have:=h.hi
   all_goals dsimp only
   all_goals split<;>omega

def mark (B:BytS) (p:Nat):Bool × BytS:=match B.data[p]? with
 | some x=>if x=0 then (true,B) else B.write p [0]
 | none=>(true,B)
def cwrite (B:BytS) (n e l:Nat):Bool × BytS :=
 if B.off=true then (false,B) else
 if (mark B (n % 2 * 20+16)).1=true then
  if ((mark B (n % 2 * 20+16)).2.write (n % 2 * 20) (zbs n e l)).1=true then ((mark B (n % 2 * 20+16)).2.write (n % 2 * 20) (zbs n e l)).2.write (n % 2 * 20+16) [165]
  else (false,((mark B (n % 2 * 20+16)).2.write (n % 2 * 20) (zbs n e l)).2)
 else (false,(mark B (n % 2 * 20+16)).2)
theorem BOk.mark {B:BytS}(p:Nat) (h:BOk B):BOk (mark B p).2:=by
 unfold Proofs.YtogjajjdaoihdaaGreatDoor.mark;split
 ·split
  ·exact h
  ·exact h.write _ _
 ·exact h
theorem BOk.cwrite {B:BytS}(n e l:Nat) (h:BOk B):BOk (cwrite B n e l).2:=by
 unfold Proofs.YtogjajjdaoihdaaGreatDoor.cwrite;split
 ·exact h
 ·split
  ·split
   ·exact BOk.write _ _ (BOk.write _ _ (h.mark _))
   ·exact BOk.write _ _ (h.mark _)
  ·exact h.mark _

structure CelS where
 num:Nat
 ep:Nat
 li:Nat
 dead:Bool
deriving DecidableEq
def zdl (b:Nat) (C:CelS):List Value:=[.pointer (some ⟨b,0,none⟩),.int .i64 (C.num:Int),.int .i64 (C.ep:Int),.int .i64 (C.li:Int),.bool C.dead]

section
variable {w : World} {b c : Nat} {B : BytS} {C : CelS}
theorem zkt (hC:Blk w c 332 (zdl b C)):CallC Tryz.prog 127 #[.pointer (some ⟨c,0,none⟩)] w fun v w'=>v = .int .i64 (C.ep:Int)∧Ext No w w':=by
 refine zaa tabOk Tryz.func127 (by kernel_rfl) rfl Tryz.ntmps127 (lbO rfl) ?_;have hS:=St.start w No;(conv=>whnf);refine ldc (hC.cell 2) ?_;repeat' ((conv=>whnf);first|apply RetC.mk|refine nzO ?_|refine rgO ?_|refine ixO ?_|(first|apply brD|apply zad|apply brN|apply brI)<;>(intro))
 exact ⟨rfl,hS.ext⟩
theorem zbY (hC:Blk w c 332 (zdl b C)):CallC Tryz.prog 128 #[.pointer (some ⟨c,0,none⟩)] w fun v w'=>v = .int .i64 (C.li:Int)∧Ext No w w':=by
 refine zaa tabOk Tryz.func128 (by kernel_rfl) rfl Tryz.ntmps128 (lbO rfl) ?_;have hS:=St.start w No;(conv=>whnf);refine ldc (hC.cell 3) ?_;repeat' ((conv=>whnf);first|apply RetC.mk|refine nzO ?_|refine rgO ?_|refine ixO ?_|(first|apply brD|apply zad|apply brN|apply brI)<;>(intro))
 exact ⟨rfl,hS.ext⟩

theorem zon {E:Nat→Addr}{q:Nat}(n e l:Nat) (hn:n < 9223372036854775808) (he:e < 9223372036854775808) (hl:l < 9223372036854775808) (hC:Blk w c 332 (zdl b C)) (hB:Blk w b 253 (zaE B)) (hO:BOk B) (hE:Errs w E q [7]) (hq:q≤b) :
  CallC Tryz.prog 222 #[.pointer (some ⟨c,0,none⟩),.int .i64 (n:Int),.int .i64 (e:Int),.int .i64 (l:Int)] w fun v w'=>v=zc9 E (if (cwrite B n e l).1=true then 0 else 7)∧Ext (· = b) w w'∧Blk w' b 253 (zaE (cwrite B n e l).2):=by
 have hcb:¬ c=b:=Blk.ne hC hB (by decide);have hmod:(n:Int).tmod 2=((n % 2:Nat):Int):=by rw [Int.tmod_eq_emod_of_nonneg (by omega)];omega
 have hn2:n % 2 < 2:=Nat.mod_lt _ (by omega);have hbl:=zcV n e l;unfold cwrite;refine zaa tabOk Tryz.func222 (by kernel_rfl) rfl Tryz.ntmps222 (lbO rfl) ?_;have hb:=hB;have hS:=(St.start w (· = b)).add (zab b _ _) hb (by simp [blk];exact hb.lt) (by simp);have h20:(n:Int).tmod 2 * 20=((n % 2 * 20:Nat):Int):=by rw [hmod];omega
 have h36:n % 2 * 20≤20:=by omega
 generalize n % 2 * 20=p at h20 h36;repeat' ((conv=>whnf);first|apply RetC.mk|refine nzO ?_|refine rgO ?_|refine ixO ?_|refine rgO ?_|(first|apply brD|apply zad|apply brN|apply brI)<;>(intro))
 rw [h20];(conv=>whnf);refine hS.ldr (hC.cell 0) hcb ?_;(conv=>whnf);refine hS.ld 0 rfl (zkz hO.len) ?_;cases hoff:B.off
 ·rw [if_neg Bool.false_ne_true];(conv=>whnf);refine hS.ldr (hC.cell 0) hcb ?_;(conv=>whnf);refine rgO ?_;(conv=>whnf);refine ixO ?_;obtain ⟨x,hx⟩:∃ x,B.data[p+16]?=some x:=⟨_,List.getElem?_eq_getElem (by have:=hO.len;omega)⟩;have hmk:mark B (p+16)=if x=0 then (true,B) else B.write (p+16) [0]:=by unfold mark;rw [hx]
  (conv=>whnf);refine hS.ld 0 rfl (o:=0+0+((p:Int)+16).toNat * 1) (by rw [show 0+0+((p:Int)+16).toNat * 1=p+16 by omega];exact zu0 hx) ?_;(conv=>whnf);refine neC ?_;(conv=>whnf);refine zad (fun h1=>?_) (fun h1=>?_)
  ·rw [if_neg (by rintro rfl;exact h1 rfl)] at hmk;rw [hmk];have hO1:=hO.write [0] (p+16);(conv=>whnf);refine hS.ldr (hC.cell 0) hcb ?_;(conv=>whnf);refine rgO ?_;(conv=>whnf);refine (zd5 (p+16) [0] (by simp;omega) (hS.blk 0 rfl) hO.len ⟨hO.lo,hO.hi⟩ (hE.ext hS.ext fun k hk=>by subst hk;exact hq) hq).mono ?_;rintro v w' ⟨rfl,hx',hB⟩;replace hS:=hS.upd 0 rfl hx' (fun c hc=>by subst hc;exact List.mem_singleton.2 rfl) (zab _ _ _) hB (fun c hc=>.inl hc);clear hx' hB;generalize B.write (p+16) [0]=R at hS hO1;obtain ⟨ok,B1⟩:=R;cases ok
   ·repeat' ((conv=>whnf);first|apply RetC.mk|refine nzO ?_|refine rgO ?_|refine ixO ?_|(first|apply brD|apply zad|apply brN|apply brI)<;>(intro))
    exact ⟨rfl,hS.ext,hS.blk 0 rfl⟩
   ·rw [if_pos rfl];(conv=>whnf);have hO2:=BOk.write (zbs n e l) p hO1
    (refine zah tabOk mixed [] ((· = b)) [0,1,2,3,4,5,6,7,8,9,10] (by kernel_rfl) ?_;rintro w1 rfl;replace hS:=hS.drew)
    repeat' ((conv=>whnf);first|apply RetC.mk|refine nzO ?_|refine rgO ?_|refine ixO ?_|refine hS.ldrF (hC.cell 0) hcb hcb ?_|(first|apply brD|apply zad|apply brN|apply brI)<;>(intro))
    refine (zlk n e l hn he hl _).mono ?_;rintro v w2 ⟨rfl,hx1⟩;replace hS:=hS.no hx1;refine KeepC.mk hx1.of_no ?_;(conv=>whnf);refine (zd5 p (zbs n e l) (by omega) (hS.blk 0 rfl) hO1.len ⟨hO1.lo,hO1.hi⟩ (hE.ext hS.ext fun k hk=>by subst hk;exact hq) hq).mono ?_;rintro v w' ⟨rfl,hx',hB⟩;replace hS:=hS.upd 0 rfl hx' (fun c hc=>by subst hc;exact List.mem_singleton.2 rfl) (zab _ _ _) hB (fun c hc=>.inl hc);refine KeepC.mk (hx1.of_no.trans hx') ?_;clear hx' hB hx1;generalize BytS.write B1 p (zbs n e l)=R at hS hO2 ⊢;obtain ⟨ok,B2⟩:=R;cases ok
    ·repeat' ((conv=>whnf);first|apply RetC.mk|refine nzO ?_|refine rgO ?_|refine ixO ?_|(first|apply brD|apply zad|apply brN|apply brI)<;>(intro))
     exact ⟨rfl,hS.ext,hS.blk 0 rfl⟩
    ·rw [if_pos rfl];(conv=>whnf);refine hS.ldr (hC.cell 0) hcb ?_;(conv=>whnf);refine rgO ?_;(conv=>whnf);refine (zd5 (p+16) [165] (by simp;omega) (hS.blk 0 rfl) hO2.len ⟨hO2.lo,hO2.hi⟩ (hE.ext hS.ext fun k hk=>by subst hk;exact hq) hq).mono ?_;rintro v w' ⟨rfl,hx',hB⟩;replace hS:=hS.upd 0 rfl hx' (fun c hc=>by subst hc;exact List.mem_singleton.2 rfl) (zab _ _ _) hB (fun c hc=>.inl hc);clear hx' hB;repeat' ((conv=>whnf);first|apply RetC.mk|refine nzO ?_|refine rgO ?_|refine ixO ?_|(first|apply brD|apply zad|apply brN|apply brI)<;>(intro))
     exact ⟨rfl,hS.ext,hS.blk 0 rfl⟩
  ·rw [if_pos (by
    have h2:x.toNat=0:=by omega
    exact UInt8.toNat_inj.1 h2)] at hmk
   rw [hmk,if_pos rfl];(conv=>whnf);have hO2:=BOk.write (zbs n e l) p hO
   (refine zah tabOk mixed [] ((· = b)) [0,1,2,3,4,5,6,7,8,9,10] (by kernel_rfl) ?_;rintro w1 rfl;replace hS:=hS.drew)
   repeat' ((conv=>whnf);first|apply RetC.mk|refine nzO ?_|refine rgO ?_|refine ixO ?_|refine hS.ldrF (hC.cell 0) hcb hcb ?_|(first|apply brD|apply zad|apply brN|apply brI)<;>(intro))
   refine (zlk n e l hn he hl _).mono ?_;rintro v w2 ⟨rfl,hx1⟩;replace hS:=hS.no hx1;refine KeepC.mk hx1.of_no ?_;(conv=>whnf);refine (zd5 p (zbs n e l) (by omega) (hS.blk 0 rfl) hO.len ⟨hO.lo,hO.hi⟩ (hE.ext hS.ext fun k hk=>by subst hk;exact hq) hq).mono ?_;rintro v w' ⟨rfl,hx',hB⟩;replace hS:=hS.upd 0 rfl hx' (fun c hc=>by subst hc;exact List.mem_singleton.2 rfl) (zab _ _ _) hB (fun c hc=>.inl hc);refine KeepC.mk (hx1.of_no.trans hx') ?_;clear hx' hB hx1;generalize BytS.write B p (zbs n e l)=R at hS hO2 ⊢;obtain ⟨ok,B2⟩:=R;cases ok
   ·repeat' ((conv=>whnf);first|apply RetC.mk|refine nzO ?_|refine rgO ?_|refine ixO ?_|(first|apply brD|apply zad|apply brN|apply brI)<;>(intro))
    exact ⟨rfl,hS.ext,hS.blk 0 rfl⟩
   ·rw [if_pos rfl];(conv=>whnf);refine hS.ldr (hC.cell 0) hcb ?_;(conv=>whnf);refine rgO ?_;(conv=>whnf);refine (zd5 (p+16) [165] (by simp;omega) (hS.blk 0 rfl) hO2.len ⟨hO2.lo,hO2.hi⟩ (hE.ext hS.ext fun k hk=>by subst hk;exact hq) hq).mono ?_;rintro v w' ⟨rfl,hx',hB⟩;replace hS:=hS.upd 0 rfl hx' (fun c hc=>by subst hc;exact List.mem_singleton.2 rfl) (zab _ _ _) hB (fun c hc=>.inl hc);clear hx' hB;repeat' ((conv=>whnf);first|apply RetC.mk|refine nzO ?_|refine rgO ?_|refine ixO ?_|(first|apply brD|apply zad|apply brN|apply brI)<;>(intro))
    exact ⟨rfl,hS.ext,hS.blk 0 rfl⟩
 ·rw [if_pos rfl];repeat' ((conv=>whnf);first|apply RetC.mk|refine nzO ?_|refine rgO ?_|refine ixO ?_|refine hS.ldr (hE.at_ 7 rfl) (hE.ne 7 rfl hq) ?_|refine hS.ldrF (hE.at_ 7 rfl) (hE.ne 7 rfl hq) id ?_|(first|apply brD|apply zad|apply brN|apply brI)<;>(intro))
  exact ⟨rfl,hS.ext,hS.blk 0 rfl⟩
end

def CelS.put (C:CelS) (B:BytS) (e l:Int):Nat × BytS × CelS :=
 if C.dead=true then (7,B,C) else
 if e < 0∨e > 1073741824∨l < 0∨l > 1073741824 then (2,B,C) else
 if e < C.ep∨l < C.li then (10,B,C) else
 if C.num+1≥4294967296 then (6,B,C) else
 if (cwrite B (C.num+1) e.toNat l.toNat).1=true then (0,(cwrite B (C.num+1) e.toNat l.toNat).2,⟨C.num+1,e.toNat,l.toNat,C.dead⟩)
 else (7,(cwrite B (C.num+1) e.toNat l.toNat).2,⟨C.num,C.ep,C.li,true⟩)

def zc8 (d:List UInt8) (k:Nat):List UInt8:=(d.drop (k * 20)).take 17
def zcJ (d:List UInt8) (k:Nat):Nat:=zeV ((zc8 d k).take 4)
def zhV (d:List UInt8) (k:Nat):Nat:=zeV (((zc8 d k).drop 4).take 4)
def zhW (d:List UInt8) (k:Nat):Nat:=zeV (((zc8 d k).drop 8).take 4)
def zcq (d:List UInt8) (k:Nat):Prop:=1≤zcJ d k∧zcJ d k % 2=k∧zbs (zcJ d k) (zhV d k) (zhW d k)++[165]=zc8 d k
instance (d:List UInt8) (k:Nat):Decidable (zcq d k):=by unfold zcq;infer_instance
def zhT (d:List UInt8) (k:Nat) (C:CelS):CelS:=if zcq d k∧zcJ d k > C.num then ⟨zcJ d k,zhV d k,zhW d k,C.dead⟩ else C
def zbH (d:List UInt8):Nat→CelS
 | 0=>⟨0,0,0,false⟩
 | k+1=>zhT d k (zbH d k)
def zav (d:List UInt8):CelS:=zbH d 2
theorem zmw {d:List UInt8}{k:Nat}(h:d.length=64) (hk:k < 2):(zc8 d k).length=17:=by
 unfold zc8;rw [List.length_take,List.length_drop];omega
theorem zvj {l:List UInt8}(h:l.length≤4):zeV l < 4294967296:=by
 have h1:=zlj l;have h2:256 ^ l.length≤256 ^ 4:=Nat.pow_le_pow_right (by omega) h;omega
theorem zk9 (d:List UInt8) (k:Nat):zcJ d k < 4294967296:=zvj (by rw [List.length_take];omega)
theorem zlI (d:List UInt8) (k:Nat):zhV d k < 4294967296:=zvj (by rw [List.length_take];omega)
theorem zli (d:List UInt8) (k:Nat):zhW d k < 4294967296:=zvj (by rw [List.length_take];omega)
theorem zgy (d:List UInt8):∀ k,(zbH d k).num < 4294967296∧(zbH d k).ep < 4294967296∧(zbH d k).li < 4294967296
 | 0=>by simp [zbH]
 | k+1=>by
  unfold zbH zhT;split
  ·exact ⟨zk9 d k,zlI d k,zli d k⟩
  ·exact zgy d k

section
variable {w : World} {b c : Nat} {B : BytS} {C : CelS}
theorem zrP (hB:Blk w b 253 (zaE B)) (hl:B.data.length=64) (ho:B.off=false):CallC Tryz.prog 125 #[.pointer (some ⟨b,0,none⟩)] w fun v w'=>∃ c,v = .tuple #[.pointer (some ⟨c,0,none⟩),.nilIface]∧w.heap.size≤c∧Ext No w w'∧Blk w' c 332 (zdl b (zav B.data)):=by
 refine zaa tabOk Tryz.func125 (by kernel_rfl) rfl Tryz.ntmps125 (lbO rfl) ?_;have hS:=St.start w No;(conv=>whnf);refine ldc (v:=.bool B.off) (by rw [hB.cell];exact zkz hl) ?_;rw [ho];(conv=>whnf);refine hS.new (fun c w' hc hS=>?_);(conv=>whnf)
 refine zaL tabOk (fun σ w' q=>∃ k:Nat,σ=[(21,.int .i64 k),(4,.pointer (some ⟨c,0,none⟩)),(0,.pointer (some ⟨b,0,none⟩))]∧q=2 - k∧k≤2∧St w No w' [blk c 332 (zdl b (zbH B.data k))])
  (σ':=[(21,.int .i64 ((0:Nat):Int)),(4,.pointer (some ⟨c,0,none⟩)),(0,.pointer (some ⟨b,0,none⟩))]) (n:=2) ⟨rfl,rfl,rfl,trivial⟩ ⟨0,rfl,rfl,Nat.zero_le _,hS⟩ ?_
 clear hS;rintro _ w1 q ⟨k,rfl,rfl,hk,hS⟩;(conv=>whnf);refine brD (fun h3=>?_) (fun h3=>?_)
 ·have hk2:k < 2:=by omega
  have hrl:=zmw hl hk2;have n1:=zk9 B.data k;have n2:=zlI B.data k;have n3:=zli B.data k;have hst:zbH B.data (k+1)=zhT B.data k (zbH B.data k):=rfl;(conv=>whnf);refine (ztI (hS.ext.blk hB id) hl).mono ?_;rintro v w' ⟨rfl,hx'⟩;replace hS:=hS.no hx';clear hx';repeat' ((conv=>whnf);first|apply RetC.mk|refine nzO ?_|refine rgO ?_|refine ixO ?_|refine rgO ?_|(first|apply brD|apply zad|apply brN|apply brI)<;>(intro))
  refine zsx (a:=k * 20) (b:=k * 20+17) (r:=zc8 B.data k) Tryz.underlying9 (by omega) (by omega) (by omega) (by omega) (by unfold zc8;congr 1;omega) ?_;(conv=>whnf)
  (refine zah tabOk mixed [] (No) [0,1,3,4,6,7,2,5,8,9,10,11] (by kernel_rfl) ?_;rintro w1 rfl;replace hS:=hS.drew)
  (conv=>whnf);refine ze2 (b:=4) Tryz.underlying9 rfl (by omega) rfl ?_;(conv=>whnf);refine zsx (a:=4) (b:=8) Tryz.underlying9 rfl rfl (by omega) (by omega) rfl ?_;(conv=>whnf);refine zsx (a:=8) (b:=12) Tryz.underlying9 rfl rfl (by omega) (by omega) rfl ?_;(conv=>whnf);refine (ziz ((zc8 B.data k).take 4) (by rw [List.length_take];omega) _).mono ?_;rintro v w2 ⟨rfl,hx1⟩;replace hS:=hS.no hx1;refine KeepC.mk hx1 ?_;(conv=>whnf);refine (ziz (((zc8 B.data k).drop 4).take (8 - 4)) (by rw [List.length_take];omega) _).mono ?_;rintro v w3 ⟨rfl,hx2⟩;replace hS:=hS.no hx2;refine KeepC.mk (hx1.trans hx2) ?_;(conv=>whnf);refine (ziz (((zc8 B.data k).drop 8).take (12 - 8)) (by rw [List.length_take];omega) _).mono ?_;rintro v w4 ⟨rfl,hx3⟩;replace hS:=hS.no hx3;refine KeepC.mk ((hx1.trans hx2).trans hx3) ?_;clear hx1 hx2 hx3;rw [show zeV ((zc8 B.data k).take 4)=zcJ B.data k from rfl,show zeV (((zc8 B.data k).drop 4).take (8 - 4))=zhV B.data k from rfl,show zeV (((zc8 B.data k).drop 8).take (12 - 8))=zhW B.data k from rfl];have hmod:(zcJ B.data k:Int).tmod 2=((zcJ B.data k % 2:Nat):Int):=by rw [Int.tmod_eq_emod_of_nonneg (by omega)];omega
  have hf:zcq B.data k↔(1≤zcJ B.data k∧zcJ B.data k % 2=k∧zbs (zcJ B.data k) (zhV B.data k) (zhW B.data k)++[165]=zc8 B.data k):=Iff.rfl;have hok:zhT B.data k (zbH B.data k)=if zcq B.data k∧zcJ B.data k > (zbH B.data k).num then ⟨zcJ B.data k,zhV B.data k,zhW B.data k,(zbH B.data k).dead⟩ else zbH B.data k:=rfl
  generalize hn:zcJ B.data k=rn at *;generalize hee:zhV B.data k=re at *;generalize hll:zhW B.data k=rl at *;(conv=>whnf);refine brD (fun h4=>?_) (fun h4=>?_)
  ·(conv=>whnf)
   refine nzO ?_;rw [hmod];(conv=>whnf);refine brD (fun h5=>?_) (fun h5=>?_)
   ·(conv=>whnf)
    refine (zlk rn re rl (by omega) (by omega) (by omega) _).mono ?_;rintro v w' ⟨rfl,hx'⟩;replace hS:=hS.no hx';clear hx';(conv=>whnf);refine zbp (b:=[165]) (by rw [zcV];simp) ?_;(conv=>whnf);refine zbt ?_;(conv=>whnf);refine brD (fun h6=>?_) (fun h6=>?_)
    ·(conv=>whnf)
     refine hS.ld 0 rfl rfl ?_;(conv=>whnf);refine brD (fun h7=>?_) (fun h7=>?_)
     ·rw [hok,if_pos ⟨hf.2 ⟨by omega,by omega,h6⟩,by omega⟩] at hst;(conv=>whnf);refine hS.st 0 rfl (lbO rfl) rfl (fun w' hS=>?_);(conv=>whnf);refine hS.st 0 rfl (lbO rfl) rfl (fun w' hS=>?_);(conv=>whnf);refine hS.st 0 rfl (lbO rfl) rfl (fun w' hS=>?_);replace hS:St w No w' [blk c 332 (zdl b ⟨rn,re,rl,(zbH B.data k).dead⟩)]:=hS;rw [← hst] at hS;(conv=>whnf);refine rgO ?_;(conv=>whnf);refine LoopE.mk ⟨_,[(21,.int .i64 ((k+1:Nat):Int)),(4,_),(0,_)],?_,⟨rfl,rfl,rfl,trivial⟩,⟨k+1,rfl,rfl,by omega,hS⟩⟩;omega
     ·skip
      rw [hok,if_neg (fun h=>h7 (by have:=h.2;omega))] at hst;(conv=>whnf);refine rgO ?_;(conv=>whnf);refine LoopE.mk ⟨_,[(21,.int .i64 ((k+1:Nat):Int)),(4,_),(0,_)],?_,⟨rfl,rfl,rfl,trivial⟩,⟨k+1,rfl,rfl,by omega,by rw [hst];exact hS⟩⟩;omega
    ·skip
     rw [hok,if_neg (fun h=>h6 (hf.1 h.1).2.2)] at hst;(conv=>whnf);refine rgO ?_;(conv=>whnf);refine LoopE.mk ⟨_,[(21,.int .i64 ((k+1:Nat):Int)),(4,_),(0,_)],?_,⟨rfl,rfl,rfl,trivial⟩,⟨k+1,rfl,rfl,by omega,by rw [hst];exact hS⟩⟩;omega
   ·skip
    rw [hok,if_neg (fun h=>h5 (by have:=(hf.1 h.1).2.1;omega))] at hst;(conv=>whnf);refine rgO ?_;(conv=>whnf);refine LoopE.mk ⟨_,[(21,.int .i64 ((k+1:Nat):Int)),(4,_),(0,_)],?_,⟨rfl,rfl,rfl,trivial⟩,⟨k+1,rfl,rfl,by omega,by rw [hst];exact hS⟩⟩;omega
  ·skip
   rw [hok,if_neg (fun h=>h4 (by have:=(hf.1 h.1).1;omega))] at hst;(conv=>whnf);refine rgO ?_;(conv=>whnf);refine LoopE.mk ⟨_,[(21,.int .i64 ((k+1:Nat):Int)),(4,_),(0,_)],?_,⟨rfl,rfl,rfl,trivial⟩,⟨k+1,rfl,rfl,by omega,by rw [hst];exact hS⟩⟩;omega
 ·obtain rfl:k=2:=by omega
  repeat' ((conv=>whnf);first|apply RetC.mk|refine nzO ?_|refine rgO ?_|refine ixO ?_|(first|apply brD|apply zad|apply brN|apply brI)<;>(intro))
  exact ⟨c,rfl,hc,hS.ext,hS.blk 0 rfl⟩
theorem zpY {E:Nat→Addr}{q:Nat}(e l:Int) (hC:Blk w c 332 (zdl b C)) (hB:Blk w b 253 (zaE B)) (hO:BOk B) (hN:C.num < 4294967296) (hE:Errs w E q [2,6,7,10]) (hq:q≤b) (hqc:q≤c) :
  CallC Tryz.prog 126 #[.pointer (some ⟨c,0,none⟩),.int .i64 e,.int .i64 l] w fun v w'=>v=zc9 E (C.put B e l).1∧Ext (fun d=>d=b∨d=c) w w'∧Blk w' b 253 (zaE (C.put B e l).2.1)∧Blk w' c 332 (zdl b (C.put B e l).2.2):=by
 have hcb:¬ c=b:=Blk.ne hC hB (by decide);unfold CelS.put;refine zaa tabOk Tryz.func126 (by kernel_rfl) rfl Tryz.ntmps126 (lbO rfl) ?_;have hS:=(St.start w (fun d=>d=b∨d=c)).add (zab b _ _) hB (by simp [blk];exact hB.lt) (by simp);have hS:=hS.add (zab c _ _) hC (by simp [blk];exact hC.lt) (by simp [blk];omega);(conv=>whnf);refine hS.ld 1 rfl (o:=4) rfl ?_;cases hd:C.dead
 ·rw [if_neg Bool.false_ne_true];by_cases hr:e < 0∨e > 1073741824∨l < 0∨l > 1073741824
  ·rw [if_pos hr];(conv=>whnf);refine brD (fun h1=>?_) (fun h1=>?_)
   ·skip
    repeat' ((conv=>whnf);first|apply RetC.mk|refine nzO ?_|refine rgO ?_|refine ixO ?_|refine hS.ldr (hE.at_ 2 rfl) (fun h=>h.elim (hE.ne 2 rfl hq) (hE.ne 2 rfl hqc)) ?_|(first|apply brD|apply zad|apply brN|apply brI)<;>(intro))
    exact ⟨rfl,hS.ext,hS.blk 0 rfl,hS.blk 1 rfl⟩
   (conv=>whnf);refine brD (fun h2=>?_) (fun h2=>?_)
   ·skip
    repeat' ((conv=>whnf);first|apply RetC.mk|refine nzO ?_|refine rgO ?_|refine ixO ?_|refine hS.ldr (hE.at_ 2 rfl) (fun h=>h.elim (hE.ne 2 rfl hq) (hE.ne 2 rfl hqc)) ?_|(first|apply brD|apply zad|apply brN|apply brI)<;>(intro))
    exact ⟨rfl,hS.ext,hS.blk 0 rfl,hS.blk 1 rfl⟩
   (conv=>whnf);refine brD (fun h3=>?_) (fun h3=>?_)
   ·skip
    repeat' ((conv=>whnf);first|apply RetC.mk|refine nzO ?_|refine rgO ?_|refine ixO ?_|refine hS.ldr (hE.at_ 2 rfl) (fun h=>h.elim (hE.ne 2 rfl hq) (hE.ne 2 rfl hqc)) ?_|(first|apply brD|apply zad|apply brN|apply brI)<;>(intro))
    exact ⟨rfl,hS.ext,hS.blk 0 rfl,hS.blk 1 rfl⟩
   (conv=>whnf);refine brD (fun h4=>?_) (fun h4=>absurd hr (by omega));repeat' ((conv=>whnf);first|apply RetC.mk|refine nzO ?_|refine rgO ?_|refine ixO ?_|refine hS.ldr (hE.at_ 2 rfl) (fun h=>h.elim (hE.ne 2 rfl hq) (hE.ne 2 rfl hqc)) ?_|(first|apply brD|apply zad|apply brN|apply brI)<;>(intro))
   exact ⟨rfl,hS.ext,hS.blk 0 rfl,hS.blk 1 rfl⟩
  rw [if_neg hr];(conv=>whnf);refine brD (fun h=>absurd h (by omega)) (fun h1=>?_);(conv=>whnf);refine brD (fun h=>absurd h (by omega)) (fun h2=>?_);(conv=>whnf);refine brD (fun h=>absurd h (by omega)) (fun h3=>?_);(conv=>whnf);refine brD (fun h=>absurd h (by omega)) (fun h4=>?_);obtain ⟨e,rfl⟩:=Int.eq_ofNat_of_zero_le (show 0≤e by omega);obtain ⟨l,rfl⟩:=Int.eq_ofNat_of_zero_le (show 0≤l by omega);simp only [Int.toNat_natCast];(conv=>whnf);refine hS.ld 1 rfl (o:=2) rfl ?_;by_cases ho:(e:Int) < C.ep∨(l:Int) < C.li
  ·rw [if_pos ho];(conv=>whnf);refine brD (fun h5=>?_) (fun h5=>?_)
   ·skip
    repeat' ((conv=>whnf);first|apply RetC.mk|refine nzO ?_|refine rgO ?_|refine ixO ?_|refine hS.ldr (hE.at_ 10 rfl) (fun h=>h.elim (hE.ne 10 rfl hq) (hE.ne 10 rfl hqc)) ?_|(first|apply brD|apply zad|apply brN|apply brI)<;>(intro))
    exact ⟨rfl,hS.ext,hS.blk 0 rfl,hS.blk 1 rfl⟩
   (conv=>whnf);refine hS.ld 1 rfl (o:=3) rfl ?_;(conv=>whnf);refine brD (fun h6=>?_) (fun h6=>absurd ho (by omega));repeat' ((conv=>whnf);first|apply RetC.mk|refine nzO ?_|refine rgO ?_|refine ixO ?_|refine hS.ldr (hE.at_ 10 rfl) (fun h=>h.elim (hE.ne 10 rfl hq) (hE.ne 10 rfl hqc)) ?_|(first|apply brD|apply zad|apply brN|apply brI)<;>(intro))
   exact ⟨rfl,hS.ext,hS.blk 0 rfl,hS.blk 1 rfl⟩
  rw [if_neg ho];(conv=>whnf);refine brD (fun h=>absurd h (by omega)) (fun h5=>?_);(conv=>whnf);refine hS.ld 1 rfl (o:=3) rfl ?_;(conv=>whnf);refine brD (fun h=>absurd h (by omega)) (fun h6=>?_);(conv=>whnf);refine hS.ld 1 rfl (o:=1) rfl ?_;(conv=>whnf);refine rgO ?_;(conv=>whnf);refine brD (fun h7=>?_) (fun h7=>?_)
  ·rw [if_pos (show C.num+1≥4294967296 by omega)];repeat' ((conv=>whnf);first|apply RetC.mk|refine nzO ?_|refine rgO ?_|refine ixO ?_|refine hS.ldr (hE.at_ 6 rfl) (fun h=>h.elim (hE.ne 6 rfl hq) (hE.ne 6 rfl hqc)) ?_|(first|apply brD|apply zad|apply brN|apply brI)<;>(intro))
   exact ⟨rfl,hS.ext,hS.blk 0 rfl,hS.blk 1 rfl⟩
  rw [if_neg (show ¬ C.num+1≥4294967296 by omega)];(conv=>whnf);refine hS.ld 1 rfl (o:=1) rfl ?_;(conv=>whnf);refine rgO ?_;rw [show (C.num:Int)+1=((C.num+1:Nat):Int) by omega];(conv=>whnf);refine (zon (C.num+1) e l (by omega) (by omega) (by omega) (hS.blk 1 rfl) (hS.blk 0 rfl) hO ((hE.sub rfl).ext hS.ext fun k hk=>hk.elim (fun h=>by subst h;exact hq) fun h=>by subst h;exact hqc) hq).mono ?_;rintro v w' ⟨rfl,hx',hB'⟩;replace hS:=hS.upd 0 rfl hx' (fun c hc=>by subst hc;exact List.mem_singleton.2 rfl) (zab _ _ _) hB' (fun c hc=>.inl hc);clear hx' hB';generalize cwrite B (C.num+1) e l=R at hS ⊢;obtain ⟨ok,B2⟩:=R;cases ok
  ·(conv=>whnf)
   refine hS.st 1 rfl (lbO rfl) rfl (fun w' hS=>?_);repeat' ((conv=>whnf);first|apply RetC.mk|refine nzO ?_|refine rgO ?_|refine ixO ?_|(first|apply brD|apply zad|apply brN|apply brI)<;>(intro))
   exact ⟨rfl,hS.ext,hS.blk 0 rfl,hS.blk 1 rfl⟩
  ·skip
   (conv=>whnf);refine hS.ld 1 rfl (o:=1) rfl ?_;(conv=>whnf);refine rgO ?_;(conv=>whnf);refine hS.st 1 rfl (lbO rfl) rfl (fun w' hS=>?_);(conv=>whnf);refine hS.st 1 rfl (lbO rfl) rfl (fun w' hS=>?_);(conv=>whnf);refine hS.st 1 rfl (lbO rfl) rfl (fun w' hS=>?_);repeat' ((conv=>whnf);first|apply RetC.mk|refine nzO ?_|refine rgO ?_|refine ixO ?_|(first|apply brD|apply zad|apply brN|apply brI)<;>(intro))
   exact ⟨rfl,hS.ext,hS.blk 0 rfl,(hS.blk 1 rfl).to (by rw [← hd];rfl)⟩
 ·rw [if_pos rfl];repeat' ((conv=>whnf);first|apply RetC.mk|refine nzO ?_|refine rgO ?_|refine ixO ?_|refine hS.ldr (hE.at_ 7 rfl) (fun h=>h.elim (hE.ne 7 rfl hq) (hE.ne 7 rfl hqc)) ?_|(first|apply brD|apply zad|apply brN|apply brI)<;>(intro))
  exact ⟨rfl,hS.ext,hS.blk 0 rfl,hS.blk 1 rfl⟩
end

def laid (d:List UInt8) (p:Nat) (s:List UInt8):List UInt8:=d.take p++s++d.drop (p+s.length)
theorem zc7 (d:List UInt8) (p:Nat):laid d p []=d:=by simp [laid]
theorem zji {d s:List UInt8}{p:Nat}(h:p+s.length≤d.length):(laid d p s).length=d.length:=by
 simp only [laid,List.length_append,List.length_take,List.length_drop];omega
theorem zdv {d s:List UInt8}{p:Nat}(h:p+s.length≤d.length) (i:Nat):(laid d p s)[i]?=if p≤i∧i < p+s.length then s[i - p]? else d[i]?:=by
 unfold laid;by_cases h1:i < p
 ·rw [if_neg (by omega),List.append_assoc,List.getElem?_append_left (by rw [List.length_take];omega),List.getElem?_take_of_lt h1]
 ·by_cases h2:i < p+s.length
  ·rw [if_pos ⟨by omega,h2⟩,List.append_assoc,List.getElem?_append_right (by rw [List.length_take];omega),List.length_take,Nat.min_eq_left (by omega),List.getElem?_append_left (by omega)]
  ·rw [if_neg (by omega),List.getElem?_append_right (by simp only [List.length_append,List.length_take];omega)];simp only [List.length_append,List.length_take,List.getElem?_drop];congr 1;omega
theorem zd6 {d r:List UInt8}{p:Nat}{x:UInt8}(h:p+(r.length+1)≤d.length):laid (d.set p x) (p+1) r=laid d p (x::r):=by
 apply List.ext_getElem?;intro i;rw [zdv (by rw [List.length_set];omega),zdv (by rw [List.length_cons];omega),List.length_cons,List.getElem?_set];by_cases h1:p+1≤i∧i < p+1+r.length
 ·rw [if_pos h1,if_pos (by omega),show i - p=(i - (p+1))+1 by omega,List.getElem?_cons_succ]
 ·rw [if_neg h1];by_cases h2:p=i
  ·subst h2;rw [if_pos rfl,if_pos (by omega),if_pos (by omega),Nat.sub_self];rfl
  ·rw [if_neg h2,if_neg (by omega)]
theorem zfv:∀ (s:List UInt8) (B:BytS) (p:Nat),p+s.length≤B.data.length →
  ((B.write p s).1=true∧(B.write p s).2.data=laid B.data p s∧(B.write p s).2.off=B.off)∨((B.write p s).1=false∧(B.write p s).2.off=true∧∃ j,j < s.length∧(B.write p s).2.data=laid B.data p (s.take j))
 | [],B,p,_=>.inl ⟨rfl,(zc7 _ _).symm,rfl⟩
 | x::r,B,p,h=>by
  rw [zbT];rw [List.length_cons] at h;split
  ·exact .inr ⟨rfl,rfl,0,by simp,by simp [zc7]⟩
  ·rcases zfv r ⟨B.data.set p x,B.off,if B.left - 1 > -1 then B.left - 1 else -1⟩ (p+1) (by dsimp only;rw [List.length_set];omega) with ⟨h1,h2,h3⟩ | ⟨h1,h2,j,hj,h3⟩
   ·exact .inl ⟨h1,by rw [h2];exact zd6 h,h3⟩
   ·refine .inr ⟨h1,h2,j+1,by simp;omega,?_⟩;rw [h3,List.take_succ_cons];exact zd6 (by rw [List.length_take];omega)

theorem zjg {d:List UInt8}{k j:Nat}(hj:j < 17):(zc8 d k)[j]?=d[k * 20+j]?:=by
 unfold zc8;rw [List.getElem?_take_of_lt hj,List.getElem?_drop]
theorem zqV {d d':List UInt8}{k:Nat}(h:∀ j,j < 17→d[k * 20+j]?=d'[k * 20+j]?):zc8 d k=zc8 d' k:=by
 apply List.ext_getElem?;intro j;by_cases hj:j < 17
 ·rw [zjg hj,zjg hj,h j hj]
 ·unfold zc8;rw [List.getElem?_take,List.getElem?_take,if_neg hj,if_neg hj]
theorem zms {d d':List UInt8}{k:Nat}(h:zc8 d k=zc8 d' k):(zcq d k↔zcq d' k)∧zcJ d k=zcJ d' k∧zhV d k=zhV d' k∧zhW d k=zhW d' k:=by
 unfold zcq zcJ zhV zhW;rw [h];exact ⟨Iff.rfl,rfl,rfl,rfl⟩
theorem zo4 {d:List UInt8}{k:Nat}(h:zcq d k):d[k * 20+16]?=some 165:=by
 rw [← zjg (by omega),← h.2.2,List.getElem?_append_right (by rw [zcV];omega),zcV];rfl
theorem zsd {d:List UInt8}{k n e l:Nat}(h:zc8 d k=zbs n e l++[165]) (hn:1≤n) (hk:n % 2=k) (h1:n < 4294967296) (h2:e < 4294967296) (h3:l < 4294967296):zcq d k∧zcJ d k=n∧zhV d k=e∧zhW d k=l:=by
 have e0:zbs n e l++[165]=zdN n 4++(zdN e 4++(zdN l 4++(zdN (zqu (zfc n e l)) 4++[165]))):=by simp [zbs,zfc]
 have e1:zcJ d k=n:=by
  unfold zcJ;rw [h,e0,List.take_left' (zbh _ _),zgH];omega
 have e2:zhV d k=e:=by
  unfold zhV;rw [h,e0,List.drop_left' (zbh _ _),List.take_left' (zbh _ _),zgH];omega
 have e3:zhW d k=l:=by
  unfold zhW;rw [h,e0,← List.append_assoc,List.drop_left' (by rw [List.length_append,zbh,zbh]),List.take_left' (zbh _ _),zgH];omega
 exact ⟨⟨by omega,by omega,by rw [e1,e2,e3,h]⟩,e1,e2,e3⟩

def rec_ (d:List UInt8) (k:Nat):CelS:=⟨zcJ d k,zhV d k,zhW d k,false⟩
def zsI:CelS:=⟨0,0,0,false⟩
theorem zjM {d:List UInt8}(h:∀ k,k < 2→¬ zcq d k):zav d=zsI:=by
 have h0:=h 0 (by omega);have h1:=h 1 (by omega);simp [zav,zbH,zhT,h0,h1,zsI]
theorem zeq {d:List UInt8}{k m:Nat}(hkm:k < 2∧m < 2∧m≠k) (h:zcq d k) (hm:zcq d m→zcJ d m < zcJ d k):zav d=rec_ d k:=by
 have hn:=h.1;obtain ⟨hk,hm2,hne⟩:=hkm;have:(k=0∧m=1)∨(k=1∧m=0):=by omega
 rcases this with ⟨rfl,rfl⟩ | ⟨rfl,rfl⟩
 ·simp only [zav,zbH];rw [show zhT d 0 ⟨0,0,0,false⟩=rec_ d 0 from if_pos ⟨h,hn⟩];exact if_neg fun hh=>by have:=hm hh.1;have:=hh.2;simp only [rec_] at this;omega
 ·simp only [zav,zbH];by_cases h0:zcq d 0
  ·rw [show zhT d 0 ⟨0,0,0,false⟩=rec_ d 0 from if_pos ⟨h0,h0.1⟩];exact if_pos ⟨h,hm h0⟩
  ·rw [show zhT d 0 ⟨0,0,0,false⟩=⟨0,0,0,false⟩ from if_neg fun hh=>h0 hh.1];exact if_pos ⟨h,hn⟩
theorem zfL (d:List UInt8):((∀ k,k < 2→¬ zcq d k)∧zav d=zsI)∨∃ k m,(k < 2∧m < 2∧m≠k)∧zcq d k∧zav d=rec_ d k∧(zcq d m→zcJ d m < zcJ d k):=by
 by_cases h0:zcq d 0
 ·by_cases h1:zcq d 1
  ·have p0:=h0.2.1;have p1:=h1.2.1;by_cases hlt:zcJ d 1 < zcJ d 0
   ·exact .inr ⟨0,1,by omega,h0,zeq ⟨by omega,by omega,by omega⟩ h0 fun _=>hlt,fun _=>hlt⟩
   ·have hlt:zcJ d 0 < zcJ d 1:=by omega
    exact .inr ⟨1,0,by omega,h1,zeq ⟨by omega,by omega,by omega⟩ h1 fun _=>hlt,fun _=>hlt⟩
  ·exact .inr ⟨0,1,by omega,h0,zeq ⟨by omega,by omega,by omega⟩ h0 fun h=>absurd h h1,fun h=>absurd h h1⟩
 ·by_cases h1:zcq d 1
  ·exact .inr ⟨1,0,by omega,h1,zeq ⟨by omega,by omega,by omega⟩ h1 fun h=>absurd h h0,fun h=>absurd h h0⟩
  ·have hn:∀ k,k < 2→¬ zcq d k:=fun k hk=>by
    have:k=0∨k=1:=by omega
    rcases this with rfl|rfl
    ·exact h0
    ·exact h1
   exact .inl ⟨hn,zjM hn⟩
theorem zna (d:List UInt8):(zav d).dead=false:=by
 rcases zfL d with ⟨_,h⟩ | ⟨k,m,_,_,h,_⟩<;>rw [h]<;>rfl

theorem zhd {d d':List UInt8}{k m:Nat}(hk:k=((zav d).num+1) % 2) (hm:m=(zav d).num % 2) (h:zc8 d' m=zc8 d m) (hf:¬ zcq d' k):zav d'=zav d:=by
 obtain ⟨f1,f2,f3,f4⟩:=zms h;rcases zfL d with ⟨hn,hz⟩ | ⟨k1,m1,hkm,hfull,ho,hlt⟩
 ·rw [hz];refine zjM fun i hi hfi=>?_
  by_cases e:i=k
  ·subst e;exact hf hfi
  ·have:i=m:=by omega
   subst this;exact hn i hi (f1.1 hfi)
 ·have hp:=hfull.2.1;have hnum:(zav d).num=zcJ d k1:=by rw [ho];rfl
  obtain rfl:m=k1:=by omega
  have hfm:=f1.2 hfull;have hkk:k < 2∧k≠m:=by omega
  rw [zeq (m:=k) ⟨by omega,hkk.1,hkk.2⟩ hfm fun hh=>absurd hh hf,ho];unfold rec_;rw [f2,f3,f4]
theorem zkc {d d':List UInt8}{k m n e l:Nat}(hn:n=(zav d).num+1) (hk:k=n % 2) (hm:m=(zav d).num % 2) (h:zc8 d' m=zc8 d m) (hr:zc8 d' k=zbs n e l++[165]) (h1:n < 4294967296) (h2:e < 4294967296) (h3:l < 4294967296):zav d'=⟨n,e,l,false⟩:=by
 obtain ⟨f1,f2,f3,f4⟩:=zms h;obtain ⟨g1,g2,g3,g4⟩:=zsd hr (by omega) hk.symm h1 h2 h3;have hkm:m < 2∧m≠k:=by omega
 rw [zeq (m:=m) ⟨by omega,hkm.1,hkm.2⟩ g1 fun hh=>?_]
 ·unfold rec_;rw [g2,g3,g4]
 ·rw [g2,f2];have hh:=f1.1 hh;rcases zfL d with ⟨hn2,_⟩ | ⟨k1,m1,hkm1,hfull,ho,hlt⟩
  ·exact absurd hh (hn2 m (by omega))
  ·have hnum:(zav d).num=zcJ d k1:=by rw [ho];rfl
   by_cases e:m=k1
   ·subst e;omega
   ·obtain rfl:m=m1:=by omega
    have:=hlt hh;omega

theorem zrk {B:BytS}{q:Nat}(hq:q < B.data.length) :
  ((mark B q).1=true∧(mark B q).2.off=B.off∧(mark B q).2.data.length=B.data.length∧(mark B q).2.data[q]?=some 0∧∀ i,i≠q→(mark B q).2.data[i]?=B.data[i]?)∨((mark B q).1=false∧(mark B q).2.off=true∧(mark B q).2.data=B.data):=by
 obtain ⟨x,hx⟩:∃ x,B.data[q]?=some x:=⟨_,List.getElem?_eq_getElem hq⟩;unfold mark;rw [hx];dsimp only;split
 ·rename_i h0;exact .inl ⟨rfl,rfl,rfl,by rw [← h0];exact hx,fun _ _=>rfl⟩
 ·rcases zfv [0] B q (by simp;omega) with ⟨h1,h2,h3⟩ | ⟨h1,h2,j,hj,h3⟩
  ·refine .inl ⟨h1,h3,by rw [h2,zji (by simp;omega)],?_,fun i hi=>?_⟩
   ·rw [h2,zdv (by simp;omega),if_pos (by simp),Nat.sub_self];rfl
   ·rw [h2,zdv (by simp;omega),if_neg (by simp;omega)]
  ·refine .inr ⟨h1,h2,?_⟩;obtain rfl:j=0:=by simpa using hj
   rw [h3,List.take_zero,zc7]
theorem zmD {d:List UInt8}{k:Nat}(h:d[k * 20+16]?=some 0):¬ zcq d k:=fun hf=>by
 rw [zo4 hf] at h;simp at h
theorem znL {B:BytS}{e l:Nat}(hO:BOk B) (hoff:B.off=false) (hn:(zav B.data).num+1 < 4294967296) (he:e < 4294967296) (hl:l < 4294967296) :
  ((cwrite B ((zav B.data).num+1) e l).1=true∧zav (cwrite B ((zav B.data).num+1) e l).2.data=⟨(zav B.data).num+1,e,l,false⟩∧(cwrite B ((zav B.data).num+1) e l).2.off=false) ∨
  ((cwrite B ((zav B.data).num+1) e l).1=false∧zav (cwrite B ((zav B.data).num+1) e l).2.data=zav B.data∧(cwrite B ((zav B.data).num+1) e l).2.off=true):=by
 have hlen:=hO.len;obtain ⟨n,hnn⟩:∃ n,n=(zav B.data).num+1:=⟨_,rfl⟩;obtain ⟨k,hk⟩:∃ k,k=n % 2:=⟨_,rfl⟩;obtain ⟨m,hm⟩:∃ m,m=(zav B.data).num % 2:=⟨_,rfl⟩;rw [← hnn] at hn ⊢;have hkm:k < 2∧m < 2∧m≠k:=by omega
 have hbl:=zcV n e l;unfold cwrite;rw [if_neg (show ¬ B.off=true by simp [hoff]),← hk];have same:∀ d:List UInt8,(∀ i,¬ (k * 20≤i∧i < k * 20+17)→d[i]?=B.data[i]?)→zc8 d m=zc8 B.data m:=fun d h=>zqV fun j hj=>h _ (by omega)
 rcases zrk (B:=B) (q:=k * 20+16) (by omega) with ⟨a1,a2,a3,a4,a5⟩ | ⟨a1,a2,a3⟩
 ·rw [if_pos a1];generalize (mark B (k * 20+16)).2=B1 at a2 a3 a4 a5;rcases zfv (zbs n e l) B1 (k * 20) (by omega) with ⟨b1,b2,b3⟩ | ⟨b1,b2,j,hj,b3⟩
  ·rw [if_pos b1];generalize (B1.write (k * 20) (zbs n e l)).2=B2 at b2 b3;have c0:∀ i,B2.data[i]?=if k * 20≤i∧i < k * 20+16 then (zbs n e l)[i - k * 20]? else B1.data[i]?:=fun i=>by rw [b2,zdv (by omega),hbl]
   have c1:B2.data.length=64:=by rw [b2,zji (by omega),a3,hlen]
   rcases zfv [165] B2 (k * 20+16) (by simp;omega) with ⟨d1,d2,d3⟩ | ⟨d1,d2,j,hj,d3⟩
   ·refine .inl ⟨d1,?_,by rw [d3,b3,a2,hoff]⟩;rw [d2];refine zkc hnn hk hm (same _ fun i hi=>?_) ?_ hn he hl
    ·rw [zdv (by simp;omega),if_neg (by simp;omega),c0,if_neg (by omega),a5 i (by omega)]
    ·apply List.ext_getElem?;intro j;by_cases hj:j < 17
     ·rw [zjg hj,zdv (by simp;omega)];by_cases hj2:j=16
      ·subst hj2;rw [if_pos (by simp),List.getElem?_append_right (by omega),hbl];simp
      ·rw [if_neg (by simp;omega),c0,if_pos (by omega),List.getElem?_append_left (by omega)];congr 1;omega
     ·rw [List.getElem?_eq_none (by unfold zc8;rw [List.length_take];omega),List.getElem?_eq_none (by rw [List.length_append,hbl];simp;omega)]
   ·refine .inr ⟨d1,?_,d2⟩;obtain rfl:j=0:=by simpa using hj
    rw [d3,List.take_zero,zc7];refine zhd (hnn ▸ hk) hm (same _ fun i hi=>?_) (zmD ?_)
    ·rw [c0,if_neg (by omega),a5 i (by omega)]
    ·rw [c0,if_neg (by omega),a4]
  ·rw [if_neg (by simp [b1])];refine .inr ⟨rfl,?_,b2⟩;dsimp only;have hjl:(List.take j (zbs n e l)).length=j:=by rw [List.length_take];omega
   rw [b3];refine zhd (hnn ▸ hk) hm (same _ fun i hi=>?_) (zmD ?_)
   ·rw [zdv (by omega),if_neg (by omega),a5 i (by omega)]
   ·rw [zdv (by omega),if_neg (by omega),a4]
 ·rw [if_neg (by simp [a1])];exact .inr ⟨rfl,by rw [a3],a2⟩

structure PktS where
 proto:Int
 sa:Int
 sp:Int
 da:Int
 dp:Int
 flags:Int
deriving DecidableEq
def zao (p:PktS):List Value:=[.int .i64 p.proto,.int .i64 p.sa,.int .i64 p.sp,.int .i64 p.da,.int .i64 p.dp,.int .i64 p.flags]
def zaP:PktS:=⟨0,0,0,0,0,0⟩
def zdL (a p:Int):Bool:=decide (0≤a∧a≤1048576∧1≤p∧p≤65535)
def PktS.bad (p:PktS):Bool:=decide ((p.proto≠1∧p.proto≠2)∨zdL p.sa p.sp=false∨zdL p.da p.dp=false∨p.flags < 0∨p.flags > 15)
def PktS.err (p:PktS):Nat:=if p.bad=true then 2 else if p.proto=1∧p.flags≠0 then 3 else 0
theorem PktS.err_code (p:PktS):p.err < 12:=by
 unfold PktS.err;split
 ·omega
 ·split<;>omega

theorem zsh (a p:Int) (w:World):CallC Tryz.prog 183 #[.agg #[.int .i64 a,.int .i64 p]] w fun v w'=>v = .bool (zdL a p)∧Ext No w w':=by
 refine zaa tabOk Tryz.func183 (by kernel_rfl) rfl Tryz.ntmps183 (lbO rfl) ?_;have hS:=St.start w No;(conv=>whnf);refine hS.new (fun b w' hb hS=>?_);replace hS:St w No w' [blk b 39 [.int .i64 a,.int .i64 p]]:=hS;repeat' ((conv=>whnf);first|apply RetC.mk|refine rgO ?_|refine ixO ?_|refine hS.ld 0 rfl rfl ?_|refine hS.laX 0 rfl rfl ?_|(first|apply brD|apply zad|apply brN|apply brI)<;>(intro))
 all_goals refine ⟨congrArg Value.bool (Bool.eq_iff_iff.2 ?_),hS.ext⟩
 all_goals simp [zdL]
 all_goals omega
theorem zmW (a p:Int) (w:World):CallC Tryz.prog 90 #[.agg #[.int .i64 a,.int .i64 p]] w fun v w'=>v = .bool (zdL a p)∧Ext No w w':=by
 refine zaa tabOk Tryz.func90 (by kernel_rfl) rfl Tryz.ntmps90 (lbO rfl) ?_;have hS:=St.start w No;(conv=>whnf);refine hS.new (fun b w' hb hS=>?_);replace hS:St w No w' [blk b 39 [.int .i64 a,.int .i64 p]]:=hS;repeat' ((conv=>whnf);first|apply RetC.mk|refine rgO ?_|refine ixO ?_|refine hS.ld 0 rfl rfl ?_|refine hS.laX 0 rfl rfl ?_|(first|apply brD|apply zad|apply brN|apply brI)<;>(intro))
 all_goals refine ⟨congrArg Value.bool (Bool.eq_iff_iff.2 ?_),hS.ext⟩
 all_goals simp [zdL]
 all_goals omega
theorem zfk {E:Nat→Addr}{n:Nat}(p:PktS) (w:World) (hE:Errs w E n [2,3]):CallC Tryz.prog 88 #[.agg (zao p).toArray] w fun v w'=>v=zc9 E p.err∧Ext No w w':=by
 have hbad:p.bad=decide ((p.proto≠1∧p.proto≠2)∨zdL p.sa p.sp=false∨zdL p.da p.dp=false∨p.flags < 0∨p.flags > 15):=rfl;refine zaa tabOk Tryz.func88 (by kernel_rfl) rfl Tryz.ntmps88 (lbO rfl) ?_;have hS:=St.start w No;(conv=>whnf);refine hS.new (fun b w' hb hS=>?_);replace hS:St w No w' [blk b 41 (zao p)]:=hS;unfold PktS.err;generalize hs:zdL p.sa p.sp=s1 at hbad;generalize hd:zdL p.da p.dp=d1 at hbad;repeat' ((conv=>whnf);first|apply RetC.mk|refine rgO ?_|refine ixO ?_|refine hS.ld 0 rfl rfl ?_|refine hS.laX 0 rfl rfl ?_|(refine (zsh p.sa p.sp _).mono ?_;rintro v w' ⟨rfl,hx'⟩;replace hS:=hS.no hx';clear hx';rw [hs])|(refine (zsh p.da p.dp _).mono ?_;rintro v w' ⟨rfl,hx'⟩;replace hS:=hS.no hx';clear hx';rw [hd])|refine hS.ldr (hE.at_ 2 rfl) id ?_|refine hS.ldrF (hE.at_ 2 rfl) id id ?_|refine hS.ldr (hE.at_ 3 rfl) id ?_|refine hS.ldrF (hE.at_ 3 rfl) id id ?_|(first|apply brD|apply zad|apply brN|apply brI)<;>(intro))
 all_goals refine ⟨?_,hS.ext⟩
 all_goals clear hS
 all_goals rw [hbad]
 all_goals clear hbad hs hd
 all_goals (repeat' split)<;>first|rfl|(exfalso;simp_all;done)|(exfalso;simp_all;omega)
theorem zho (p:PktS) (w:World):CallC Tryz.prog 45 #[.agg (zao p).toArray] w fun v w'=>v = .int .i64 (p.err:Nat)∧Ext No w w':=by
 have hbad:p.bad=decide ((p.proto≠1∧p.proto≠2)∨zdL p.sa p.sp=false∨zdL p.da p.dp=false∨p.flags < 0∨p.flags > 15):=rfl;refine zaa tabOk Tryz.func45 (by kernel_rfl) rfl Tryz.ntmps45 (lbO rfl) ?_;have hS:=St.start w No;(conv=>whnf);refine hS.new (fun b w' hb hS=>?_);replace hS:St w No w' [blk b 41 (zao p)]:=hS;unfold PktS.err;generalize hs:zdL p.sa p.sp=s1 at hbad;generalize hd:zdL p.da p.dp=d1 at hbad;repeat' ((conv=>whnf);first|apply RetC.mk|refine rgO ?_|refine ixO ?_|refine hS.ld 0 rfl rfl ?_|refine hS.laX 0 rfl rfl ?_|(refine (zmW p.sa p.sp _).mono ?_;rintro v w' ⟨rfl,hx'⟩;replace hS:=hS.no hx';clear hx';rw [hs])|(refine (zmW p.da p.dp _).mono ?_;rintro v w' ⟨rfl,hx'⟩;replace hS:=hS.no hx';clear hx';rw [hd])|(first|apply brD|apply zad|apply brN|apply brI)<;>(intro))
 all_goals refine ⟨?_,hS.ext⟩
 all_goals clear hS
 all_goals rw [hbad]
 all_goals clear hbad hs hd
 all_goals (repeat' split)<;>first|rfl|(exfalso;simp_all;done)|(exfalso;simp_all;omega)

structure RuleS where
 allow:Bool
 out:Bool
 proto:Int
 low:Int
 top:Int
deriving DecidableEq
def zal (r:RuleS):List Value:=[.bool r.allow,.bool r.out,.int .i64 r.proto,.int .i64 r.low,.int .i64 r.top]
theorem zeQ:Codec 5 zal:=⟨fun _=>rfl,fun _=>rfl,by decide⟩
def zb8:RuleS:=⟨false,false,0,0,0⟩
def RuleS.bad (r:RuleS):Bool:=decide (r.proto < 0∨r.proto > 2∨r.low < 1∨r.low > r.top∨r.top > 65535)
def RuleS.fits (r:RuleS) (proto port:Int) (out:Bool):Bool:=decide (r.out=out∧(r.proto=0∨r.proto=proto)∧r.low≤port∧port≤r.top)
def zbc (proto port:Int) (out:Bool):List RuleS→Bool
 | []=>false
 | r::l=>match r.fits proto port out with
  | true=>r.allow
  | false=>zbc proto port out l
theorem zhs {proto port:Int}{out:Bool}{l:List RuleS}{k:Nat}{r:RuleS}(h:l[k]?=some r):zbc proto port out (l.drop k)=match r.fits proto port out with|true=>r.allow|false=>zbc proto port out (l.drop (k+1)):=by
 obtain ⟨lt,e⟩:=List.getElem?_eq_some_iff.1 h;rw [List.drop_eq_getElem_cons lt,e];rfl
def zhO:List RuleS→Nat→Int
 | [],_=>-1
 | r::l,k=>match r.bad with
  | true=>(k:Int)
  | false=>zhO l (k+1)
theorem zjG {l:List RuleS}{k:Nat}{r:RuleS}(h:l[k]?=some r):zhO (l.drop k) k=match r.bad with|true=>(k:Int)|false=>zhO (l.drop (k+1)) (k+1):=by
 obtain ⟨lt,e⟩:=List.getElem?_eq_some_iff.1 h;rw [List.drop_eq_getElem_cons lt,e];rfl
theorem zja:∀ (l:List RuleS) (k:Nat),zhO l k < 0↔∀ r∈l,r.bad=false
 | [],k=>by simp [zhO]
 | r::l,k=>by
  unfold zhO;cases h:r.bad
  ·simp [h,zja l (k+1)]
  ·simp [h]
theorem zlF:∀ (l:List RuleS) (k:Nat),-1≤zhO l k∧zhO l k < k+l.length
 | [],k=>by simp [zhO];omega
 | r::l,k=>by
  unfold zhO;have:=zlF l (k+1);cases h:r.bad;all_goals simp only [List.length_cons]
  all_goals omega
def za2 (l:List RuleS):Nat × Int:=if l.length > 20 then (2,-1) else if zhO l 0 < 0 then (0,-1) else (2,zhO l 0)
def zgv (l:List RuleS):Prop:=l.length≤20∧∀ r∈l,r.bad=false
instance (l:List RuleS):Decidable (zgv l):=by unfold zgv;infer_instance
theorem fault_good {l:List RuleS}:(za2 l).1=0↔zgv l:=by
 unfold za2 zgv;split
 ·simp;omega
 ·split
  ·rename_i h1 h2;simp only [true_iff];exact ⟨by omega,(zja l 0).1 h2⟩
  ·rename_i h1 h2;simp only [Nat.reduceEqDiff,false_iff];rintro ⟨_,h⟩;exact h2 ((zja l 0).2 h)
theorem zh1 (l:List RuleS):(za2 l).1=0∧(za2 l).2 = -1∨(za2 l).1=2∧(za2 l).2 = -1∨(za2 l).1=2∧0≤(za2 l).2:=by
 unfold za2;split
 ·exact .inr (.inl ⟨rfl,rfl⟩)
 ·split
  ·exact .inl ⟨rfl,rfl⟩
  ·exact .inr (.inr ⟨rfl,by dsimp only;omega⟩)

def FaultV (E:Nat→Addr) (w0 w:World) (v:Value) (c:Nat) (a:Int):Prop :=
 (a = -1∧v=zc9 E c)∨(0≤a∧0 < c∧∃ f,v = .iface 143 (.pointer (some ⟨f,0,none⟩))∧w0.heap.size≤f∧Blk w f 147 [.int .i64 a,zc9 E c])
theorem FaultV.older {E:Nat→Addr}{w0 w1 w:World}{v:Value}{c:Nat}{a:Int}(h:FaultV E w1 w v c a) (hle:w0.heap.size≤w1.heap.size):FaultV E w0 w v c a:=by
 rcases h with h | ⟨h1,h2,f,h3,h4,h5⟩
 ·exact .inl h
 ·exact .inr ⟨h1,h2,f,h3,Nat.le_trans hle h4,h5⟩
theorem FaultV.ne {E:Nat→Addr}{w0 w:World}{v:Value}{c:Nat}{a:Int}(h:FaultV E w0 w v (c+1) a):∃ t u,v = .iface t u:=by
 rcases h with ⟨_,h⟩ | ⟨_,_,f,h,_⟩
 ·exact ⟨_,_,h⟩
 ·exact ⟨_,_,h⟩

section
variable {w : World} {G : RuleS → Prop} {a b : Option Addr} {n m c d : Nat} {xs ys : List RuleS}
theorem zs3 (r:RuleS) (w:World):CallC Tryz.prog 118 ([Value.agg (zal r).toArray]++[]).toArray w fun v w'=>v = .bool r.bad∧Ext No w w':=by
 refine zaa tabOk Tryz.func118 (by kernel_rfl) rfl Tryz.ntmps118 (lbO rfl) ?_;have hS:=St.start w No;(conv=>whnf);refine hS.new (fun b w' hb hS=>?_);replace hS:St w No w' [blk b 98 (zal r)]:=hS;repeat' ((conv=>whnf);first|apply RetC.mk|refine rgO ?_|refine ixO ?_|refine hS.ld 0 rfl rfl ?_|refine hS.laX 0 rfl rfl ?_|(first|apply brD|apply zad|apply brN|apply brI)<;>(intro))
 all_goals refine ⟨congrArg Value.bool (Bool.eq_iff_iff.2 ?_),hS.ext⟩
 all_goals simp [RuleS.bad]
 all_goals omega
theorem znB (hx:Slc w 5 zal G a n xs) :
  CallC Tryz.prog 117 #[.slice a n c,.func (.func 118) #[] #[]] w fun v w'=>v = .int .i64 (zhO xs 0)∧Ext No w w':=by
 have hm:=hx.max;have hl:=hx.len;refine zaa tabOk Tryz.func117 (by kernel_rfl) rfl Tryz.ntmps117 (lbO rfl) ?_;have hS:=St.start w No;(conv=>whnf)
 refine zaL tabOk (fun σ w' q=>∃ k:Nat,σ=[(8,.int .i64 (k:Int)),(7,.int .i64 n),(1,.func (.func 118) #[] #[]),(0,.slice a n c)]∧q=n - k∧k≤n∧St w No w' []∧zhO xs 0=zhO (xs.drop k) k)
  (σ':=[(8,.int .i64 ((0:Nat):Int)),(7,.int .i64 n),(1,.func (.func 118) #[] #[]),(0,.slice a n c)]) (n:=n) ⟨rfl,rfl,rfl,rfl,trivial⟩ ⟨0,rfl,rfl,Nat.zero_le _,hS,by simp⟩ ?_
 clear hS;rintro _ w1 q ⟨k,rfl,rfl,hk,hS,hi⟩;(conv=>whnf);refine brD (fun h3=>?_) (fun h3=>?_)
 ·obtain ⟨b0,o0,x,hxk,hgx,rfl,_,hc⟩:=hx.at (k:=k) (by omega);have hst:=zjG hxk;(conv=>whnf);refine ixO ?_;(conv=>whnf);refine hS.lar (l:=zal x) rfl hc id ?_;(conv=>whnf);refine (zs3 x _).mono ?_;rintro v w' ⟨rfl,hx'⟩;replace hS:=hS.no hx';clear hx';(conv=>whnf);refine brI (fun h4=>?_) (fun h4=>?_)
  ·repeat' ((conv=>whnf);first|apply RetC.mk|refine rgO ?_|refine ixO ?_|(first|apply brD|apply zad|apply brN|apply brI)<;>(intro))
   rw [hi,hst,h4];exact ⟨rfl,hS.ext⟩
  ·(conv=>whnf)
   refine rgO ?_;(conv=>whnf);refine LoopE.mk ⟨_,[(8,.int .i64 ((k+1:Nat):Int)),(7,_),(1,_),(0,_)],?_,⟨rfl,rfl,rfl,rfl,trivial⟩,⟨k+1,rfl,rfl,by omega,hS,by rw [hi,hst,h4]⟩⟩;omega
 ·repeat' ((conv=>whnf);first|apply RetC.mk|refine rgO ?_|refine ixO ?_|(first|apply brD|apply zad|apply brN|apply brI)<;>(intro))
  have:k=n:=by omega
  subst this;rw [hi,List.drop_of_length_le (by omega)];exact ⟨rfl,hS.ext⟩
theorem zff {E:Nat→Addr}{q:Nat}(hx:Slc w 5 zal G a n xs) (hE:Errs w E q [2]) :
  CallC Tryz.prog 66 #[.slice a n c] w fun v w'=>FaultV E w w' v (za2 xs).1 (za2 xs).2∧Ext No w w':=by
 have hl:=hx.len;have hge:=zlF xs 0;unfold za2;refine zaa tabOk Tryz.func66 (by kernel_rfl) rfl Tryz.ntmps66 (lbO rfl) ?_;have hS:=St.start w No;(conv=>whnf);refine brD (fun h1=>?_) (fun h1=>?_)
 ·rw [if_pos (by omega)];repeat' ((conv=>whnf);first|apply RetC.mk|refine rgO ?_|refine ixO ?_|refine hS.ldr (hE.at_ 2 rfl) id ?_|refine hS.ldrF (hE.at_ 2 rfl) id id ?_|(first|apply brD|apply zad|apply brN|apply brI)<;>(intro))
  exact ⟨.inl ⟨rfl,rfl⟩,hS.ext⟩
 rw [if_neg (by omega)];(conv=>whnf);refine (znB hx).mono ?_;rintro v w' ⟨rfl,hx'⟩;replace hS:=hS.no hx';(conv=>whnf);refine brD (fun h2=>?_) (fun h2=>?_)
 ·rw [if_neg (by omega)];repeat' ((conv=>whnf);first|apply RetC.mk|refine rgO ?_|refine ixO ?_|refine hS.ldr (hE.at_ 2 rfl) id ?_|refine hS.ldrF (hE.at_ 2 rfl) id id ?_|refine hS.new (fun f w' hf hS=>?_)|(first|apply brD|apply zad|apply brN|apply brI)<;>(intro))
  exact ⟨.inr ⟨by dsimp only;omega,by dsimp only;omega,f,rfl,hf,hS.blk 0 rfl⟩,hS.ext⟩
 ·rw [if_pos (by omega)];repeat' ((conv=>whnf);first|apply RetC.mk|refine rgO ?_|refine ixO ?_|(first|apply brD|apply zad|apply brN|apply brI)<;>(intro))
  exact ⟨.inl ⟨rfl,rfl⟩,hS.ext⟩
theorem zp5 (hx:Slc w 5 zal G a n xs) (proto port:Int) (out:Bool) :
  CallC Tryz.prog 328 #[.slice a n c,.int .i64 proto,.int .i64 port,.bool out] w fun v w'=>v = .bool (zbc proto port out xs)∧Ext No w w':=by
 have hm:=hx.max;have hl:=hx.len;refine zaa tabOk Tryz.func328 (by kernel_rfl) rfl Tryz.ntmps328 (lbO rfl) ?_;have hS:=St.start w No;(conv=>whnf)
 refine zaL tabOk (fun σ w' q=>∃ k:Nat,σ=[(13,.int .i64 (k:Int)),(12,.int .i64 n),(11,.slice a n c),(3,.bool out),(2,.int .i64 port),(1,.int .i64 proto)]∧q=n - k∧k≤n∧St w No w' []∧zbc proto port out xs=zbc proto port out (xs.drop k))
  (σ':=[(13,.int .i64 ((0:Nat):Int)),(12,.int .i64 n),(11,.slice a n c),(3,.bool out),(2,.int .i64 port),(1,.int .i64 proto)]) (n:=n) ⟨rfl,rfl,rfl,rfl,rfl,rfl,trivial⟩ ⟨0,rfl,rfl,Nat.zero_le _,hS,by simp⟩ ?_
 clear hS;rintro _ w1 q ⟨k,rfl,rfl,hk,hS,hi⟩;(conv=>whnf);refine brD (fun h3=>?_) (fun h3=>?_)
 ·obtain ⟨b0,o0,x,hxk,hgx,rfl,_,hc⟩:=hx.at (k:=k) (by omega);have hst:=zhs (proto:=proto) (port:=port) (out:=out) hxk;(conv=>whnf);refine ixO ?_;(conv=>whnf);refine hS.lar (l:=zal x) rfl hc id ?_;(conv=>whnf);refine hS.new (fun bx w' hb hS=>?_);(conv=>whnf);refine hS.st 0 rfl (lbO rfl) rfl (fun w' hS=>?_);replace hS:St w No w' [blk bx 98 (zal x)]:=hS;have yes:x.fits proto port out=true→zbc proto port out xs=x.allow:=fun h=>by rw [hi,hst,h]
  have no:x.fits proto port out=false→zbc proto port out xs=zbc proto port out (xs.drop (k+1)):=fun h=>by rw [hi,hst,h]
  clear hi hst;repeat' ((conv=>whnf);first|apply RetC.mk|refine rgO ?_|refine ixO ?_|refine hS.ld 0 rfl rfl ?_|refine hS.laX 0 rfl rfl ?_|(first|apply brD|apply zad|apply brN|apply brI)<;>(intro))
  all_goals first
   | (refine ⟨congrArg Value.bool (yes ?_).symm,hS.ext⟩;clear hS yes no;simp_all [RuleS.fits]<;>intros<;>omega)
   | (replace no:=no (by clear hS yes no;simp_all [RuleS.fits]<;>intros<;>omega);clear yes;refine LoopE.mk ⟨_,[(13,.int .i64 ((k+1:Nat):Int)),(12,_),(11,_),(3,_),(2,_),(1,_)],?_,⟨rfl,rfl,rfl,rfl,rfl,rfl,trivial⟩,⟨k+1,rfl,rfl,by omega,hS.keep 0,no⟩⟩;omega)
   | trace_state
 ·repeat' ((conv=>whnf);first|apply RetC.mk|refine rgO ?_|refine ixO ?_|(first|apply brD|apply zad|apply brN|apply brI)<;>(intro))
  have:k=n:=by omega
  subst this;rw [hi,List.drop_of_length_le (by omega)];exact ⟨rfl,hS.ext⟩
theorem znN {E:Nat→Addr}{q:Nat}(hx:Slc w 5 zal G a n xs) (p:PktS) (out:Bool) (hE:Errs w E q [2,3]) :
  CallC Tryz.prog 295 #[.slice a n c,.agg (zao p).toArray,.bool out] w fun v w'=>(∃ e,v = .tuple #[.bool (decide (zgv xs∧p.err=0)&&zbc p.proto p.dp out xs),e]∧FaultV E w w' e (if (za2 xs).1=0 then p.err else (za2 xs).1) (if (za2 xs).1=0 then -1 else (za2 xs).2))∧Ext No w w':=by
 have hg:=@fault_good xs;have hcd:=zh1 xs;refine zaa tabOk Tryz.func295 (by kernel_rfl) rfl Tryz.ntmps295 (lbO rfl) ?_;have hS:=St.start w No;(conv=>whnf);refine hS.new (fun bp w' hbp hS=>?_);replace hS:St w No w' [blk bp 41 (zao p)]:=hS;(conv=>whnf);refine (zff (hx.no hS.ext) ((hE.sub rfl).ext hS.ext fun _ h=>h.elim)).mono ?_;rintro v w2 ⟨hf,hx'⟩;have hle:=hS.ext.size;replace hS:=hS.no hx';generalize hfl:za2 xs=F at hf hg hcd;obtain ⟨fc,fa⟩:=F;dsimp only at hf hg hcd ⊢;cases fc with
 | succ j =>
  rw [if_neg (by omega),if_neg (by omega),decide_eq_false (fun h=>by have:=hg.2 h.1;omega)];obtain ⟨t,u,rfl⟩:=hf.ne;repeat' ((conv=>whnf);first|apply RetC.mk|refine rgO ?_|refine ixO ?_|(first|apply brD|apply zad|apply brN|apply brI)<;>(intro))
  refine ⟨⟨_,rfl,?_⟩,hS.ext⟩;exact hf.older hle
 | zero =>
  have hgr:zgv xs:=hg.1 rfl;rw [if_pos rfl,if_pos rfl]
  obtain rfl:v = .nilIface:=by
   rcases hf with ⟨_,h⟩ | ⟨_,h,_⟩
   ·exact h
   ·omega
  (conv=>whnf);refine hS.laX 0 rfl rfl ?_;(conv=>whnf);refine (zfk p _ (hE.ext hS.ext fun _ h=>h.elim)).mono ?_;rintro v w3 ⟨rfl,hx'⟩;replace hS:=hS.no hx';cases hpe:p.err with
  | succ j =>
   rw [decide_eq_false (by omega)];repeat' ((conv=>whnf);first|apply RetC.mk|refine rgO ?_|refine ixO ?_|(first|apply brD|apply zad|apply brN|apply brI)<;>(intro))
   exact ⟨⟨_,rfl,.inl ⟨rfl,rfl⟩⟩,hS.ext⟩
  | zero =>
   rw [decide_eq_true ⟨hgr,rfl⟩,Bool.true_and];repeat' ((conv=>whnf);first|apply RetC.mk|refine rgO ?_|refine ixO ?_|refine hS.ld 0 rfl rfl ?_|refine hS.laX 0 rfl rfl ?_|(first|apply brD|apply zad|apply brN|apply brI)<;>(intro))
   refine (zp5 (hx.no hS.ext) p.proto p.dp out).mono ?_;rintro v w' ⟨rfl,hx'⟩;replace hS:=hS.no hx';repeat' ((conv=>whnf);first|apply RetC.mk|refine rgO ?_|refine ixO ?_|(first|apply brD|apply zad|apply brN|apply brI)<;>(intro))
   exact ⟨⟨_,rfl,.inl ⟨rfl,rfl⟩⟩,hS.ext⟩
end

def zvg (c:Nat) (a:Int):List Value:=[.int .i64 (c:Int),.int .i64 a]
section
variable {w : World} {G G' : RuleS → Prop} {a b : Option Addr} {n m c d : Nat} {xs ys : List RuleS}
theorem ztm (k:Nat) (w:World):CallC Tryz.prog 11 #[.int .i64 (k:Int)] w fun v w'=>v = .agg (zvg k (-1)).toArray∧Ext No w w':=by
 refine zaa tabOk Tryz.func11 (by kernel_rfl) rfl Tryz.ntmps11 (lbO rfl) ?_;have hS:=St.start w No;repeat' ((conv=>whnf);first|apply RetC.mk|refine rgO ?_|refine ixO ?_|refine hS.new (fun b w' hb hS=>?_)|refine hS.st 0 rfl (lbO rfl) rfl (fun w' hS=>?_)|refine hS.laX 0 rfl rfl ?_|(first|apply brD|apply zad|apply brN|apply brI)<;>(intro))
 exact ⟨rfl,hS.ext⟩
theorem zth (w:World):CallC Tryz.prog 36 #[] w fun v w'=>v = .agg (zvg 0 (-1)).toArray∧Ext No w w':=by
 refine zaa tabOk Tryz.func36 (by kernel_rfl) rfl Tryz.ntmps36 (lbO rfl) ?_;have hS:=St.start w No;repeat' ((conv=>whnf);first|apply RetC.mk|refine rgO ?_|refine ixO ?_|refine hS.new (fun b w' hb hS=>?_)|refine hS.st 0 rfl (lbO rfl) rfl (fun w' hS=>?_)|refine hS.laX 0 rfl rfl ?_|(first|apply brD|apply zad|apply brN|apply brI)<;>(intro))
 exact ⟨rfl,hS.ext⟩
theorem zjh (hx:Slc w 5 zal G a n xs):CallC Tryz.prog 16 #[.slice a n c] w fun v w'=>v = .agg (zvg (za2 xs).1 (za2 xs).2).toArray∧Ext No w w':=by
 have hm:=hx.max;have hl:=hx.len;have hge:=zlF xs 0;unfold za2;refine zaa tabOk Tryz.func16 (by kernel_rfl) rfl Tryz.ntmps16 (lbO rfl) ?_;have hS:=St.start w No;(conv=>whnf);refine hS.new (fun bf w' hbf hS=>?_);(conv=>whnf);refine brD (fun h1=>?_) (fun h1=>?_)
 ·rw [if_pos (by omega)];repeat' ((conv=>whnf);first|apply RetC.mk|refine rgO ?_|refine ixO ?_|(refine (ztm 2 _).mono ?_;rintro v w' ⟨rfl,hx'⟩;replace hS:=hS.no hx';clear hx')|refine hS.st 0 rfl (lbO rfl) rfl (fun w' hS=>?_)|refine hS.laX 0 rfl rfl ?_|(first|apply brD|apply zad|apply brN|apply brI)<;>(intro))
  exact ⟨rfl,hS.ext⟩
 rw [if_neg (by omega)];(conv=>whnf)
 refine zaL tabOk (fun σ w' q=>∃ k:Nat,σ=[(3,.int .i64 (k:Int)),(2,.pointer (some ⟨bf,0,none⟩)),(0,.slice a n c)]∧q=n - k∧k≤n∧St w No w' [blk bf 30 [.int .i64 0,.int .i64 0]]∧zhO xs 0=zhO (xs.drop k) k)
  (σ':=[(3,.int .i64 ((0:Nat):Int)),(2,.pointer (some ⟨bf,0,none⟩)),(0,.slice a n c)]) (n:=n) ⟨rfl,rfl,rfl,trivial⟩ ⟨0,rfl,rfl,Nat.zero_le _,hS,by simp⟩ ?_
 clear hS;rintro _ w1 q ⟨k,rfl,rfl,hk,hS,hi⟩;(conv=>whnf);refine brD (fun h3=>?_) (fun h3=>?_)
 ·obtain ⟨b0,o0,x,hxk,hgx,rfl,_,hc⟩:=hx.at (k:=k) (by omega);have hst:=zjG hxk;(conv=>whnf);refine ixO ?_;(conv=>whnf);refine hS.lar (l:=zal x) rfl hc id ?_;(conv=>whnf);refine hS.new (fun bx w' hb hS=>?_);(conv=>whnf);refine hS.st 1 rfl (lbO rfl) rfl (fun w' hS=>?_);replace hS:St w No w' [blk bf 30 [.int .i64 0,.int .i64 0],blk bx 98 (zal x)]:=hS;have yes:x.bad=true→zhO xs 0=k:=fun h=>by rw [hi,hst,h]
  have no:x.bad=false→zhO xs 0=zhO (xs.drop (k+1)) (k+1):=fun h=>by rw [hi,hst,h]
  clear hi hst;repeat' ((conv=>whnf);first|apply RetC.mk|refine rgO ?_|refine ixO ?_|refine hS.ld 0 rfl rfl ?_|refine hS.ld 1 rfl rfl ?_|refine hS.laX 0 rfl rfl ?_|refine hS.laX 1 rfl rfl ?_|refine hS.st 0 rfl (lbO rfl) rfl (fun w' hS=>?_)|(first|apply brD|apply zad|apply brN|apply brI)<;>(intro))
  all_goals first
   | (have hb:x.bad=true:=by { clear hS yes no;simp_all [RuleS.bad]<;>intros<;>omega };rw [if_neg (by have:=yes hb;omega),yes hb];exact ⟨rfl,hS.ext⟩)
   | (replace no:=no (by clear hS yes no;simp_all [RuleS.bad]<;>intros<;>omega);clear yes;refine LoopE.mk ⟨_,[(3,.int .i64 ((k+1:Nat):Int)),(2,_),(0,_)],?_,⟨rfl,rfl,rfl,trivial⟩,⟨k+1,rfl,rfl,by omega,hS.keep 1,no⟩⟩;omega)
 ·have:k=n:=by omega
  subst this;rw [hi,List.drop_of_length_le (by omega),if_pos (by simp [zhO])];repeat' ((conv=>whnf);first|apply RetC.mk|refine rgO ?_|refine ixO ?_|(refine (zth _).mono ?_;rintro v w' ⟨rfl,hx'⟩;replace hS:=hS.no hx';clear hx')|refine hS.st 0 rfl (lbO rfl) rfl (fun w' hS=>?_)|refine hS.laX 0 rfl rfl ?_|(first|apply brD|apply zad|apply brN|apply brI)<;>(intro))
  exact ⟨rfl,hS.ext⟩
theorem zle (hx:Slc w 5 zal G a n xs) (proto port:Int) (out:Bool) :
  CallC Tryz.prog 193 #[.slice a n c,.int .i64 proto,.int .i64 port,.bool out] w fun v w'=>v = .bool (zbc proto port out xs)∧Ext No w w':=by
 have hm:=hx.max;have hl:=hx.len;refine zaa tabOk Tryz.func193 (by kernel_rfl) rfl Tryz.ntmps193 (lbO rfl) ?_;have hS:=St.start w No;(conv=>whnf)
 refine zaL tabOk (fun σ w' q=>∃ k:Nat,σ=[(9,.int .i64 (k:Int)),(3,.bool out),(2,.int .i64 port),(1,.int .i64 proto),(0,.slice a n c)]∧q=n - k∧k≤n∧St w No w' []∧zbc proto port out xs=zbc proto port out (xs.drop k))
  (σ':=[(9,.int .i64 ((0:Nat):Int)),(3,.bool out),(2,.int .i64 port),(1,.int .i64 proto),(0,.slice a n c)]) (n:=n) ⟨rfl,rfl,rfl,rfl,rfl,trivial⟩ ⟨0,rfl,rfl,Nat.zero_le _,hS,by simp⟩ ?_
 clear hS;rintro _ w1 q ⟨k,rfl,rfl,hk,hS,hi⟩;(conv=>whnf);refine brD (fun h3=>?_) (fun h3=>?_)
 ·obtain ⟨b0,o0,x,hxk,hgx,rfl,_,hc⟩:=hx.at (k:=k) (by omega);have hst:=zhs (proto:=proto) (port:=port) (out:=out) hxk;(conv=>whnf);refine ixO ?_;(conv=>whnf);refine hS.lar (l:=zal x) rfl hc id ?_;(conv=>whnf);refine hS.new (fun bx w' hb hS=>?_);(conv=>whnf);refine hS.st 0 rfl (lbO rfl) rfl (fun w' hS=>?_);replace hS:St w No w' [blk bx 98 (zal x)]:=hS;have yes:x.fits proto port out=true→zbc proto port out xs=x.allow:=fun h=>by rw [hi,hst,h]
  have no:x.fits proto port out=false→zbc proto port out xs=zbc proto port out (xs.drop (k+1)):=fun h=>by rw [hi,hst,h]
  clear hi hst;repeat' ((conv=>whnf);first|apply RetC.mk|refine rgO ?_|refine ixO ?_|refine hS.ld 0 rfl rfl ?_|refine hS.laX 0 rfl rfl ?_|(first|apply brD|apply zad|apply brN|apply brI)<;>(intro))
  all_goals first
   | (refine ⟨congrArg Value.bool (yes ?_).symm,hS.ext⟩;clear hS yes no;simp_all [RuleS.fits]<;>intros<;>omega)
   | (replace no:=no (by clear hS yes no;simp_all [RuleS.fits]<;>intros<;>omega);clear yes;refine LoopE.mk ⟨_,[(9,.int .i64 ((k+1:Nat):Int)),(3,_),(2,_),(1,_),(0,_)],?_,⟨rfl,rfl,rfl,rfl,rfl,trivial⟩,⟨k+1,rfl,rfl,by omega,hS.keep 0,no⟩⟩;omega)
 ·repeat' ((conv=>whnf);first|apply RetC.mk|refine rgO ?_|refine ixO ?_|(first|apply brD|apply zad|apply brN|apply brI)<;>(intro))
  have:k=n:=by omega
  subst this;rw [hi,List.drop_of_length_le (by omega)];exact ⟨rfl,hS.ext⟩
end

structure NodeS where
 id:Int
 now:Int
 role:RoleS
 cell:CelS
 tab:MirS
 tel:TelS
 mir:MirS
 rules:List RuleS
structure NoteS where
 fro:Int
 life:Int
 epoch:Int
 claim:Bool
 cells:List CellS

def NodeS.pass (N:NodeS) (k flags:Int) (out:Bool):NodeS :=
 { N with tab:=match (zdS (zaD N.tab k).proto (zaD N.tab k).state flags out).2 with
  | true=>(N.tab.drop k).2
  | false=>(N.tab.setS k (zdS (zaD N.tab k).proto (zaD N.tab k).state flags out).1 (N.now+zc4 (zaD N.tab k).proto (zdS (zaD N.tab k).proto (zaD N.tab k).state flags out).1)).2 }
def NodeS.begin (N:NodeS) (p:PktS):(Int × Nat) × NodeS :=
 if zbc p.proto p.dp true N.rules=false then ((0,8),N) else
 if (zcB p.proto p.flags).2≠0 then ((0,(zcB p.proto p.flags).2),N) else
 ((N.tab.add p.proto p.sa p.sp p.da p.dp (zcB p.proto p.flags).1 (N.now+zc4 p.proto (zcB p.proto p.flags).1)).1,{ N with tab:=(N.tab.add p.proto p.sa p.sp p.da p.dp (zcB p.proto p.flags).1 (N.now+zc4 p.proto (zcB p.proto p.flags).1)).2 })
def NodeS.inside (N:NodeS) (p:PktS):Nat × PktS × NodeS :=
 if p.err≠0 then (p.err,zaP,N) else
 if N.role.active=false then (9,zaP,N) else
 if 0≤N.tab.find p.proto p.sa p.sp p.da p.dp then (0,⟨p.proto,1,(zaD N.tab (N.tab.find p.proto p.sa p.sp p.da p.dp)).port,p.da,p.dp,p.flags⟩,N.pass (N.tab.find p.proto p.sa p.sp p.da p.dp) p.flags true) else
 if (N.begin p).1.2≠0 then ((N.begin p).1.2,zaP,(N.begin p).2) else
 (0,⟨p.proto,1,(zaD (N.begin p).2.tab (N.begin p).1.1).port,p.da,p.dp,p.flags⟩,(N.begin p).2)
def NodeS.outside (N:NodeS) (p:PktS):Nat × PktS × NodeS :=
 if p.err≠0 then (p.err,zaP,N) else
 if N.role.active=false then (9,zaP,N) else
 if p.da≠1 then (3,zaP,N) else
 if N.tab.back p.proto p.dp p.sa p.sp < 0 then (4,zaP,N) else
 (0,⟨p.proto,p.sa,p.sp,(zaD N.tab (N.tab.back p.proto p.dp p.sa p.sp)).ia,(zaD N.tab (N.tab.back p.proto p.dp p.sa p.sp)).ip,p.flags⟩,N.pass (N.tab.back p.proto p.dp p.sa p.sp) p.flags false)
def zcC (now:Int) (T:MirS) (l:List FlowS):MirS:=l.foldl (fun T f=>(T.put { f with til:=now+zc4 f.proto f.state }).2) T
def NodeS.claim (N:NodeS) (B:BytS):(Bool × Nat) × NodeS × BytS :=
 if N.role.next.2≠0 then ((false,0),N,B) else
 if (N.cell.put B N.role.next.1 N.cell.li).1≠0 then ((false,(N.cell.put B N.role.next.1 N.cell.li).1),{ N with cell:=(N.cell.put B N.role.next.1 N.cell.li).2.2 },(N.cell.put B N.role.next.1 N.cell.li).2.1) else
 ((true,0),{ N with cell:=(N.cell.put B N.role.next.1 N.cell.li).2.2,role:=(N.role.claim N.role.next.1).2,tab:=zcC N.now N.tab (zaV N.mir.cells) },(N.cell.put B N.role.next.1 N.cell.li).2.1)
def NodeS.step (N:NodeS):Bool × NodeS:=(N.role.tick.1,{ N with now:=N.now+1,tab:=N.tab.expire (N.now+1),role:=N.role.tick.2 })
def NodeS.beat (N:NodeS):Bool:=N.role.active&&decide (N.now.tmod 3=0)
def NodeS.notes (N:NodeS) (claimed:Bool):List NoteS × NodeS :=
 ((if claimed=true∨N.beat=true then [⟨N.id,N.cell.li,N.role.epoch,true,[]⟩] else [])++(if N.beat=true then [⟨N.id,N.cell.li,N.role.epoch,false,zcj N.tab.cells (N.tel.picks N.tab.cells)⟩] else []),
  if N.beat=true then { N with tel:=N.tel.next N.tab.cells } else N)
def NodeS.tick (N:NodeS) (B:BytS):Nat × List NoteS × NodeS × BytS :=
 if N.now≥1099511627776 then (2,[],N,B) else
 if N.step.1=true then
  (if (N.step.2.claim B).1.2≠0 then ((N.step.2.claim B).1.2,[],(N.step.2.claim B).2.1,(N.step.2.claim B).2.2)
   else (0,((N.step.2.claim B).2.1.notes (N.step.2.claim B).1.1).1,((N.step.2.claim B).2.1.notes (N.step.2.claim B).1.1).2,(N.step.2.claim B).2.2))
 else (0,(N.step.2.notes false).1,(N.step.2.notes false).2,B)
def NodeS.hear (N:NodeS) (x:NoteS):Nat × NodeS :=
 if x.fro≠1 - N.id∨x.epoch < 0∨x.epoch > 1073741824 then (2,N) else
 if x.claim=true then (3,N) else
 if (N.mir.tell x.life x.cells).1≠0 then ((N.mir.tell x.life x.cells).1,{ N with mir:=(N.mir.tell x.life x.cells).2 }) else
 (0,{ N with mir:=(N.mir.tell x.life x.cells).2,role:=(N.role.hear x.epoch).2 })
def NodeS.born (id:Int) (C:CelS) (rules:List RuleS):NodeS:=⟨id,0,⟨id,(C.ep:Int),0,false⟩,C,⟨2000+id * 24,emptyCells⟩,zoa,⟨0,emptyCells⟩,rules⟩
def zbL (id:Int) (B:BytS) (rules:List RuleS):Nat × NodeS × BytS :=
 (((zav B.data).put B (zav B.data).ep ((zav B.data).li+1)).1,.born id ((zav B.data).put B (zav B.data).ep ((zav B.data).li+1)).2.2 rules,((zav B.data).put B (zav B.data).ep ((zav B.data).li+1)).2.1)

structure NOk (m:Nat) (N:NodeS):Prop where
 id:N.id=0∨N.id=1
 n0:0≤N.now
 n1:N.now≤1099511627776
 role:N.role.Ok
 rid:N.role.node=N.id
 sil:N.role.silence≤m
 num:N.cell.num < 4294967296
 ep:N.cell.ep≤1073741824
 li:N.cell.li≤1073741824
 tab:TOk m N.tab
 lif:N.tab.life=2000+N.id * 24
 told:N.tel.told.length=32
 cur:N.tel.cursor < 32
 mir:N.mir.cells.length=32
 rules:zgv N.rules
theorem zrl (T:MirS) (a b c d e f g:Int):(T.add a b c d e f g).2.life=T.life:=by
 unfold MirS.add MirS.lay;repeat' split
 all_goals rfl
theorem zrQ (T:MirS) (f:FlowS):(T.put f).2.life=T.life:=by
 unfold MirS.put MirS.lay;repeat' split
 all_goals rfl
theorem zoN (T:MirS) (k a b:Int):(T.setS k a b).2.life=T.life:=by
 unfold MirS.setS;split<;>rfl
theorem zph (T:MirS) (k:Int):(T.drop k).2.life=T.life:=by
 unfold MirS.drop;split<;>rfl
theorem TOk.mono {m n:Nat}{T:MirS}(h:TOk m T) (hn:m≤n):TOk n T:=⟨h.len,fun c hc=>by have:=h.ver c hc;omega,h.slot⟩
theorem NOk.mono {m n:Nat}{N:NodeS}(h:NOk m N) (hn:m≤n):NOk n N :=
 ⟨h.id,h.n0,h.n1,h.role,h.rid,by have:=h.sil;omega,h.num,h.ep,h.li,h.tab.mono hn,h.lif,h.told,h.cur,h.mir,h.rules⟩
theorem NOk.withTab {m n:Nat}{N:NodeS}{T:MirS}(h:NOk m N) (hn:m≤n) (hT:TOk n T) (hl:T.life=N.tab.life):NOk n { N with tab:=T } :=
 ⟨h.id,h.n0,h.n1,h.role,h.rid,by have:=h.sil;show N.role.silence≤n;omega,h.num,h.ep,h.li,hT,hl.trans h.lif,h.told,h.cur,h.mir,h.rules⟩
theorem NOk.pass {m:Nat}{N:NodeS}(h:NOk m N) (k f:Int) (o:Bool):NOk (m+1) (N.pass k f o):=by
 unfold NodeS.pass;refine h.withTab (Nat.le_succ _) ?_ ?_
 ·cases (zdS (zaD N.tab k).proto (zaD N.tab k).state f o).2
  ·exact h.tab.setS _ _ _
  ·exact h.tab.drop _
 ·cases (zdS (zaD N.tab k).proto (zaD N.tab k).state f o).2
  ·exact zoN _ _ _ _
  ·exact zph _ _
theorem NOk.begin {m:Nat}{N:NodeS}(h:NOk m N) (p:PktS):NOk (m+1) (N.begin p).2:=by
 unfold NodeS.begin;split
 ·exact h.mono (Nat.le_succ _)
 split
 ·exact h.mono (Nat.le_succ _)
 ·exact h.withTab (Nat.le_succ _) (h.tab.add _ _ _ _ _ _ _) (zrl _ _ _ _ _ _ _ _)
theorem zub {T:MirS}(hl:T.cells.length=32) (f:FlowS) (h:(T.lay f).1.2=0):0≤(T.lay f).1.1∧(T.lay f).1.1 < 32:=by
 unfold MirS.lay at h ⊢;split at h
 ·exact absurd (show (6:Nat)=0 from h) (by decide)
 ·rename_i hk;rw [if_neg hk];have:=zfH zbZ T.cells 0;dsimp only;omega
theorem zuc {T:MirS}(hl:T.cells.length=32) (a b c d e f g:Int) (h:(T.add a b c d e f g).1.2=0):0≤(T.add a b c d e f g).1.1∧(T.add a b c d e f g).1.1 < 32:=by
 unfold MirS.add at h ⊢;split at h
 ·exact absurd (show (5:Nat)=0 from h) (by decide)
 rename_i h1;rw [if_neg h1];cases hp:zhF T a d e 24 0 with
 | none=>rw [hp] at h;exact absurd (show (6:Nat)=0 from h) (by decide)
 | some i=>rw [hp] at h;exact zub hl _ h
theorem zmX {m:Nat}{N:NodeS}(h:NOk m N) (p:PktS) (h0:(N.begin p).1.2=0):0≤(N.begin p).1.1∧(N.begin p).1.1 < 32:=by
 unfold NodeS.begin at h0 ⊢;split at h0
 ·exact absurd (show (8:Nat)=0 from h0) (by decide)
 rename_i h1;rw [if_neg h1];split at h0
 ·rename_i h2;exact absurd h0 h2
 rename_i h2;rw [if_neg h2];exact zuc h.tab.len _ _ _ _ _ _ _ h0
theorem zkn {m:Nat}{N:NodeS}(h:NOk m N) (k:Int) (h0:0≤k) (h1:k < 32):∃ c,N.tab.cells[k.toNat]?=some c∧c.f=zaD N.tab k:=by
 have hl:k.toNat < N.tab.cells.length:=by rw [h.tab.len];omega
 refine ⟨_,List.getElem?_eq_getElem hl,?_⟩;unfold zaD;rw [List.getElem?_eq_getElem hl]

theorem zhu (now:Int) (T:MirS) {l:List FlowS}{k:Nat}{f:FlowS}(h:l[k]?=some f):zcC now T (l.take (k+1))=((zcC now T (l.take k)).put { f with til:=now+zc4 f.proto f.state }).2:=by
 unfold zcC;rw [List.take_add_one,h,List.foldl_append];rfl
theorem zfD (now:Int):∀ (l:List FlowS) {m:Nat}{T:MirS},TOk m T→TOk (m+l.length) (zcC now T l)
 | [],_,_,h=>h
 | f::l,m,T,h=>by
  have:=zfD now l (h.put { f with til:=now+zc4 f.proto f.state });rw [List.length_cons,show m+(l.length+1)=m+1+l.length by omega];exact this
theorem zgV (now:Int):∀ (l:List FlowS) (T:MirS),(zcC now T l).life=T.life
 | [],_=>rfl
 | f::l,T=>(zgV now l _).trans (zrQ _ _)
theorem RoleS.next_pos {r:RoleS}(h:r.Ok) (h0:r.next.2=0):0≤r.next.1∧r.next.1≤1073741824:=by
 have h1:=h.e0;unfold RoleS.next at h0 ⊢;dsimp only at h0 ⊢;generalize hE:(if (r.epoch+1).tmod 2≠r.node then r.epoch+1+1 else r.epoch+1)=e at h0 ⊢
 have h3:e=r.epoch+1+1∨e=r.epoch+1:=by
  rw [← hE];split
  ·exact .inl rfl
  ·exact .inr rfl
 by_cases h2:e > 1073741824
 ·rw [if_pos h2] at h0;exact absurd (show (2:Nat)=0 from h0) (by decide)
 ·rw [if_neg h2];dsimp only;omega
theorem RoleS.claim_next {r:RoleS}(ha:r.active=false) (h0:r.next.2=0):r.claim r.next.1=(0,{ r with active:=true,epoch:=r.next.1 }):=by
 unfold RoleS.claim;rw [if_neg (by rw [ha];decide),if_neg (fun h=>h h0),if_neg (fun h=>h rfl)]
theorem zju (C:CelS) (B:BytS) (e l:Int) (h:C.num < 4294967296):(C.put B e l).2.2.num < 4294967296:=by
 unfold CelS.put;repeat' split
 all_goals dsimp only
 all_goals omega
theorem zou (C:CelS) (B:BytS) (e l:Int) (h:BOk B):BOk (C.put B e l).2.1:=by
 unfold CelS.put;repeat' split
 all_goals first|exact h|exact h.cwrite _ _ _
theorem ziL (C:CelS) (B:BytS) (e l:Int) (h:C.ep≤1073741824∧C.li≤1073741824):(C.put B e l).2.2.ep≤1073741824∧(C.put B e l).2.2.li≤1073741824:=by
 unfold CelS.put;repeat' split
 all_goals dsimp only
 all_goals omega
theorem zjj (C:CelS) (B:BytS) (e l:Int) (h:(C.put B e l).1=0):(C.put B e l).2.2.ep≤1073741824∧(C.put B e l).2.2.li≤1073741824:=by
 unfold CelS.put at h ⊢;repeat' split at h
 all_goals first|(exact absurd (show (7:Nat)=0 from h) (by decide))|(exact absurd (show (2:Nat)=0 from h) (by decide))|(exact absurd (show (10:Nat)=0 from h) (by decide))|(exact absurd (show (6:Nat)=0 from h) (by decide))|skip
 rename_i h1 h2 h3 h4 h5;rw [if_neg h1,if_neg h2,if_neg h3,if_neg h4,if_pos h5];dsimp only;omega
theorem NOk.claim {m:Nat}{N:NodeS}(h:NOk m N) (ha:N.role.active=false) (B:BytS):NOk (m+33) (N.claim B).2.1:=by
 unfold NodeS.claim;split
 ·exact h.mono (by omega)
 rename_i h1;have h2:N.role.next.2=0:=Classical.byContradiction h1;split
 ·exact ⟨h.id,h.n0,h.n1,h.role,h.rid,by have:=h.sil;show N.role.silence≤_;omega,zju _ _ _ _ h.num,(ziL _ _ _ _ ⟨h.ep,h.li⟩).1,(ziL _ _ _ _ ⟨h.ep,h.li⟩).2,h.tab.mono (by omega),h.lif,h.told,h.cur,h.mir,h.rules⟩
 ·have hn:=RoleS.next_pos h.role h2;have hl:=zcY N.mir.cells;rw [h.mir] at hl;rw [RoleS.claim_next ha h2];exact ⟨h.id,h.n0,h.n1,⟨h.role.n0,hn.1,hn.2,h.role.s0,h.role.s1⟩,h.rid,by have:=h.sil;show N.role.silence≤_;omega,zju _ _ _ _ h.num,(ziL _ _ _ _ ⟨h.ep,h.li⟩).1,(ziL _ _ _ _ ⟨h.ep,h.li⟩).2,(zfD _ _ h.tab).mono (by omega),(zgV _ _ _).trans h.lif,h.told,h.cur,h.mir,h.rules⟩
theorem NodeS.claim_bok {N:NodeS}{B:BytS}(h:BOk B):BOk (N.claim B).2.2:=by
 unfold NodeS.claim;split
 ·exact h
 split;all_goals exact zou _ _ _ _ h
theorem NOk.step {m:Nat}{N:NodeS}(h:NOk m N) (hm:m≤50000000) (hn:N.now < 1099511627776):NOk (m+1) N.step.2:=by
 have h1:=h.n0;have h2:=h.sil;have h3:=h.role.s0;refine ⟨h.id,?_,?_,?_,?_,?_,h.num,h.ep,h.li,h.tab.expire _ _,h.lif,h.told,h.cur,h.mir,h.rules⟩
 ·show 0≤N.now+1;omega
 ·show N.now+1≤_;omega
 ·show N.role.tick.2.Ok;unfold RoleS.tick;split
  ·exact h.role
  ·exact ⟨h.role.n0,h.role.e0,h.role.e1,by show 0≤N.role.silence+1;omega,by show N.role.silence+1≤_;omega⟩
 ·show N.role.tick.2.node=N.id;unfold RoleS.tick;split<;>exact h.rid
 ·show N.role.tick.2.silence≤_;unfold RoleS.tick;split
  ·show N.role.silence≤_;omega
  ·show N.role.silence+1≤_;omega
theorem zdr {N:NodeS}(h:N.step.1=true):N.step.2.role.active=false:=by
 show N.role.tick.2.active=false;have h:N.role.tick.1=true:=h;unfold RoleS.tick at h ⊢;split at h
 ·cases h
 ·rename_i h1;rw [if_neg h1];exact Bool.eq_false_iff.2 h1
theorem NOk.notes {m:Nat}{N:NodeS}(h:NOk m N) (c:Bool):NOk m (N.notes c).2:=by
 unfold NodeS.notes;dsimp only;split
 ·exact ⟨h.id,h.n0,h.n1,h.role,h.rid,h.sil,h.num,h.ep,h.li,h.tab,h.lif,zpb _ h.told,(zfs _ h.cur).cur,h.mir,h.rules⟩
 ·exact h
theorem NOk.tick {m:Nat}{N:NodeS}(h:NOk m N) (hm:m≤50000000) (B:BytS):NOk (m+34) (N.tick B).2.2.1:=by
 unfold NodeS.tick;split
 ·exact h.mono (by omega)
 rename_i hn;have h1:=h.step hm (by omega);split
 ·rename_i hs;have h2:=h1.claim (zdr hs) B;split
  ·exact h2
  ·exact h2.notes (N.step.2.claim B).1.1
 ·exact (h1.notes false).mono (by omega)
theorem NodeS.tick_bok {N:NodeS}{B:BytS}(h:BOk B):BOk (N.tick B).2.2.2:=by
 unfold NodeS.tick;split
 ·exact h
 split
 ·split;all_goals exact NodeS.claim_bok h
 ·exact h
theorem NOk.hear {m:Nat}{N:NodeS}(h:NOk m N) (x:NoteS):NOk m (N.hear x).2:=by
 unfold NodeS.hear;split
 ·exact h
 rename_i h1;split
 ·exact h
 have hl:(N.mir.tell x.life x.cells).2.cells.length=32:=MirS.tell_len h.mir _ _;split
 ·exact ⟨h.id,h.n0,h.n1,h.role,h.rid,h.sil,h.num,h.ep,h.li,h.tab,h.lif,h.told,h.cur,hl,h.rules⟩
 ·refine ⟨h.id,h.n0,h.n1,?_,?_,?_,h.num,h.ep,h.li,h.tab,h.lif,h.told,h.cur,hl,h.rules⟩
  ·show (N.role.hear x.epoch).2.Ok;have h2:=h.role;unfold RoleS.hear;rw [if_neg (by omega)];dsimp only;repeat' split
   all_goals exact ⟨h2.n0,by first|exact h2.e0|(show 0≤x.epoch;omega),by first|exact h2.e1|(show x.epoch≤_;omega),by first|exact h2.s0|exact Int.le_refl 0,by first|exact h2.s1|(show (0:Int)≤_;decide)⟩
  ·show (N.role.hear x.epoch).2.node=N.id;have h2:=h.rid;unfold RoleS.hear;dsimp only;repeat' split
   all_goals exact h2
  ·show (N.role.hear x.epoch).2.silence≤m;have h2:=h.sil;have h3:(0:Int)≤m:=Int.natCast_nonneg m;unfold RoleS.hear;dsimp only;repeat' split
   all_goals first|exact h2|exact h3
end Go.Proofs.YtogjajjdaoihdaaGreatDoor

namespace Go.Proofs.YtogjajjdaoihdaaGreatDoor
set_option maxRecDepth 20000
open Go Ev Go.Extern

def hv (t:TypeId):Value:=.pointer (some ⟨27,t,none⟩)
def rt (t:TypeId):Value:=.iface 315 (.agg #[hv t])
def rvl (t:TypeId) (a:Addr):List Value:=[hv t,.pointer (some a),.int .u64 150]

def EX (P:Program) (f:FuncId) (s:Array Value→Sem Value):Prop:=∀ args w,(callFunc f args).run P w=((s args).run P w).andThen fun v w'=>.ok (.value v) w'
theorem EX.to {P:Program}{f:FuncId}{s:Array Value→Sem Value}(h:EX P f s) {args:Array Value}{w w':World}{v:Value}(hs:(s args).run P w = .ok v w'):(callFunc f args).run P w = .ok (.value v) w':=by
 rw [h,hs];rfl
theorem e_valueOf:EX Tryz.prog 109 (fun args=>ReflectliteValue.unpack (args.getD 0 (.tuple #[]))):=fun args w =>
 run_callFunc_extern (e:=(fun args=>ReflectliteValue.unpack (args.getD 0 (.tuple #[])))) Tryz.func109 (by kernel_rfl) (by kernel_rfl) (by kernel_rfl) (by kernel_rfl) args w
theorem e_type : EX Tryz.prog 110 (ReflectliteValue.methodAny (ReflectliteValue.valueError "reflectlite.Value.Type" 0) (fun t _ _ _ => ReflectliteType.toType t)) := fun args w =>
 run_callFunc_extern (e := (ReflectliteValue.methodAny (ReflectliteValue.valueError "reflectlite.Value.Type" 0) (fun t _ _ _ => ReflectliteType.toType t))) Tryz.func110 (by kernel_rfl) (by kernel_rfl) (by kernel_rfl) (by kernel_rfl) args w
theorem e_isNil : EX Tryz.prog 111 (ReflectliteValue.method (ReflectliteValue.valueError "reflectlite.Value.IsNil" 0) ReflectliteValue.isNil) := fun args w =>
 run_callFunc_extern (e := (ReflectliteValue.method (ReflectliteValue.valueError "reflectlite.Value.IsNil" 0) ReflectliteValue.isNil)) Tryz.func111 (by kernel_rfl) (by kernel_rfl) (by kernel_rfl) (by kernel_rfl) args w
theorem e_kind:EX Tryz.prog 367 (ReflectliteType.abiMethod fun t=>do pure (.int .u8 (← Rtype.kind t))):=fun args w =>
 run_callFunc_extern (e:=(ReflectliteType.abiMethod fun t=>do pure (.int .u8 (← Rtype.kind t)))) Tryz.func367 (by kernel_rfl) (by kernel_rfl) (by kernel_rfl) (by kernel_rfl) args w
theorem e_elem:EX Tryz.prog 382 (ReflectliteType.method ReflectliteType.elem):=fun args w =>
 run_callFunc_extern (e:=(ReflectliteType.method ReflectliteType.elem)) Tryz.func382 (by kernel_rfl) (by kernel_rfl) (by kernel_rfl) (by kernel_rfl) args w
theorem e_impl : EX Tryz.prog 383 (ReflectliteType.relation "Implements" ReflectliteType.implements_) := fun args w =>
 run_callFunc_extern (e := (ReflectliteType.relation "Implements" ReflectliteType.implements_)) Tryz.func383 (by kernel_rfl) (by kernel_rfl) (by kernel_rfl) (by kernel_rfl) args w
theorem e_typeOf:EX Tryz.prog 173 ReflectliteType.typeOf:=fun args w =>
 run_callFunc_extern (e:=ReflectliteType.typeOf) Tryz.func173 (by kernel_rfl) (by kernel_rfl) (by kernel_rfl) (by kernel_rfl) args w
theorem e_assign : EX Tryz.prog 380 (ReflectliteType.relation "AssignableTo" ReflectliteType.assignableTo) := fun args w =>
 run_callFunc_extern (e := (ReflectliteType.relation "AssignableTo" ReflectliteType.assignableTo)) Tryz.func380 (by kernel_rfl) (by kernel_rfl) (by kernel_rfl) (by kernel_rfl) args w

theorem zoe (t:Addr) (w:World):(callFunc 109 #[.iface 145 (.pointer (some t))]).run Tryz.prog w
  = .ok (.value (.agg (rvl 145 ⟨w.heap.size,0,none⟩).toArray)) (zbk w 145 [.pointer (some t)]):=e_valueOf.to (by kernel_rfl)
theorem zuh (a:Addr) (w:World):(callFunc 110 #[.agg (rvl 145 a).toArray]).run Tryz.prog w = .ok (.value (rt 145)) w:=e_type.to (by kernel_rfl)
theorem ztF (a p:Addr) (w:World) (ha:w.cell? a=some (.pointer (some p))):(callFunc 111 #[.agg (rvl 145 a).toArray]).run Tryz.prog w = .ok (.value (.bool false)) w:=by
 refine e_isNil.to ?_;have hp:(ReflectliteValue.parts (.agg (rvl 145 a).toArray)).run Tryz.prog w = .ok (some (145,a,150)) w:=by kernel_rfl
 rw [show ReflectliteValue.method (ReflectliteValue.valueError "reflectlite.Value.IsNil" 0) ReflectliteValue.isNil #[.agg (rvl 145 a).toArray] = (do match ← ReflectliteValue.parts (.agg (rvl 145 a).toArray) with | none => ReflectliteValue.valueError "reflectlite.Value.IsNil" 0 | some (t, a, fl) => ReflectliteValue.isNil t a fl (fl % 32)) from rfl]
 simp only [Sem.run_bind,hp,Result.andThen];simp [ReflectliteValue.isNil,loadVar,isAgg,underlying,Tryz.underlying145,ha,Result.andThen]
theorem zte (w:World):(callFunc 367 #[hv 145]).run Tryz.prog w = .ok (.value (.int .u8 22)) w:=e_kind.to (by kernel_rfl)
theorem zs1 (w:World):(callFunc 367 #[hv 143]).run Tryz.prog w = .ok (.value (.int .u8 22)) w:=e_kind.to (by kernel_rfl)
theorem zuL (w:World):(callFunc 382 #[.agg #[hv 145]]).run Tryz.prog w = .ok (.value (rt 143)) w:=e_elem.to (by kernel_rfl)
theorem zup (w:World):(callFunc 383 #[.agg #[hv 143],rt 25]).run Tryz.prog w = .ok (.value (.bool true)) w:=e_impl.to (by kernel_rfl)
theorem zrx (a:Addr) (w:World):(callFunc 173 #[.iface 438 (.pointer (some a))]).run Tryz.prog w = .ok (.value (rt 438)) w:=e_typeOf.to (by kernel_rfl)
theorem zqU (w:World):(callFunc 380 #[.agg #[hv 438],rt 143]).run Tryz.prog w = .ok (.value (.bool false)) w:=e_assign.to (by kernel_rfl)

theorem zsj (h : Value) (w : World) : (Go.method (Tryz.prog.types.size + Made.depth) 315 (.agg #[h]) "Kind").run Tryz.prog w = .ok (367, h) w := by kernel_rfl
theorem zux (h : Value) (w : World) : (Go.method (Tryz.prog.types.size + Made.depth) 315 (.agg #[h]) "Elem").run Tryz.prog w = .ok (382, .agg #[h]) w := by kernel_rfl
theorem zuv (h : Value) (w : World) : (Go.method (Tryz.prog.types.size + Made.depth) 315 (.agg #[h]) "Implements").run Tryz.prog w = .ok (383, .agg #[h]) w := by kernel_rfl
theorem zq2 (h : Value) (w : World) : (Go.method (Tryz.prog.types.size + Made.depth) 315 (.agg #[h]) "AssignableTo").run Tryz.prog w = .ok (380, .agg #[h]) w := by kernel_rfl
end Go.Proofs.YtogjajjdaoihdaaGreatDoor

namespace Go.Proofs.YtogjajjdaoihdaaGreatDoor
set_option maxRecDepth 20000
open Go Ev Go.Extern

def Handle (w:World):Prop:=w.cell? ⟨12,0,none⟩=some (rt 25)
theorem Handle.ext {w w':World}(h:Handle w) (hx:Ext No w w'):Handle w':=hx.cell h fun h=>h

theorem Ev.St.pushed {w0 w:World}{S:Nat→Prop}{H:List Ent}(h:St w0 S w H) (t:TypeId) (cs:List Value):St w0 S (zbk w t cs) (H++[Ev.blk w.heap.size t cs]):=by
 refine h.made (Ext.push _ _ _ _) (zab _ _ _) (show (w.heap.push _)[w.heap.size]?=_ by rw [Array.getElem?_push,if_pos rfl]) ?_;intro b hb;obtain rfl:b=w.heap.size:=by simpa [Ev.blk] using hb
 simp [zbk]

theorem zve (a:Addr) (w:World):(Instr.typeAssert (.iface 438 (.pointer (some a))) 25 319 true).run Tryz.prog w = .ok (.tuple #[.nilIface,.bool false]) w:=run_typeAssert_lacksB Tryz.underlying319 (by kernel_rfl) (by kernel_rfl) _ _ w
theorem zvh (a:Addr) (w:World):(Instr.typeAssert (.iface 438 (.pointer (some a))) 25 322 true).run Tryz.prog w = .ok (.tuple #[.nilIface,.bool false]) w:=run_typeAssert_lacksB Tryz.underlying322 (by kernel_rfl) (by kernel_rfl) _ _ w
theorem zul (a:Addr) (w:World):(Instr.typeAssert (.iface 438 (.pointer (some a))) 25 324 true).run Tryz.prog w = .ok (.tuple #[.nilIface,.bool false]) w:=run_typeAssert_lacksB Tryz.underlying324 (by kernel_rfl) (by kernel_rfl) _ _ w
theorem ztp (e p q:Addr) (w:World):CallC Tryz.prog 112 #[.iface 438 (.pointer (some e)),.iface 145 (.pointer (some p)),.agg (rvl 145 q).toArray,rt 143] w fun v w'=>v = .bool false∧Ext No w w':=by
 refine zaa tabOk Tryz.func112 (by kernel_rfl) rfl Tryz.ntmps112 (lbO rfl) ?_;have hS:=St.start w No;(conv=>whnf);refine hS.new (fun b w' hb hS=>?_);(conv=>whnf)
 refine zaL tabOk (fun σ w' n=>σ=[(3,rt 143),(0,.iface 438 (.pointer (some e)))]∧Ext No w w')
  (σ':=[(3,rt 143),(0,.iface 438 (.pointer (some e)))]) (n:=0) ⟨rfl,rfl,trivial⟩ ⟨rfl,hS.ext⟩ ?_
 clear hS;rintro _ w1 n ⟨rfl,hx⟩;(conv=>whnf);refine CallC.extern (zrx e w1) ?_;(conv=>whnf);refine ⟨_,_,zq2 _ _,CallC.extern (zqU w1) ?_⟩;(conv=>whnf);refine ⟨_,_,zve e w1,?_⟩;(conv=>whnf);refine ⟨_,_,zvh e w1,?_⟩;(conv=>whnf);refine ⟨_,_,zul e w1,?_⟩;repeat' ((conv=>whnf);first|apply RetC.mk|refine rgO ?_|refine ixO ?_|(first|apply brD|apply zad|apply brN|apply brI)<;>(intro))
 exact ⟨rfl,hx⟩

theorem zjv (e p:Addr) (w:World) (hh:Handle w):CallC Tryz.prog 63 #[.iface 438 (.pointer (some e)),.iface 145 (.pointer (some p))] w fun v w'=>v = .bool false∧Ext No w w':=by
 refine zaa tabOk Tryz.func63 (by kernel_rfl) rfl Tryz.ntmps63 (lbO rfl) ?_;have hS:=St.start w No;(conv=>whnf);refine CallC.extern (zoe p w) ?_;replace hS:=hS.pushed 145 [.pointer (some p)];have hb:=(hS.blk 0 rfl).cell 0;have hbl:=(hS.blk 0 rfl).lt;generalize zbk w 145 [.pointer (some p)]=w1 at hS hb hbl;generalize w.heap.size=b1 at hS hb hbl;(conv=>whnf)
 first|refine ZeroC.mk ⟨.agg #[.pointer none,.pointer none,.int .u64 0],by kernel_rfl,?_⟩|skip
 conv=>whnf
 refine hS.new (fun b w2 hb2 hS=>?_);(conv=>whnf);refine hS.st 1 rfl (lbO rfl) rfl (fun w3 hS=>?_);(conv=>whnf);refine hS.la 1 rfl (l:=rvl 145 ⟨b1,0,none⟩) rfl rfl ?_;(conv=>whnf);refine CallC.extern (zuh _ w3) ?_;(conv=>whnf);refine ⟨_,_,zsj _ _,CallC.extern (zte w3) ?_⟩;(conv=>whnf);refine PureC.of (fun w=>rfl) ?_;(conv=>whnf);refine hS.la 1 rfl (l:=rvl 145 ⟨b1,0,none⟩) rfl rfl ?_;(conv=>whnf);refine CallC.extern (ztF _ p w3 ((hS.blk 0 rfl).cell 0)) ?_;(conv=>whnf);refine ⟨_,_,zux _ _,CallC.extern (zuL w3) ?_⟩;(conv=>whnf);refine ⟨_,_,zsj _ _,CallC.extern (zs1 w3) ?_⟩;(conv=>whnf);refine PureC.of (fun w=>rfl) ?_;(conv=>whnf);refine hS.ldr hh id ?_;(conv=>whnf);refine ⟨_,_,zuv _ _,CallC.extern (zup w3) ?_⟩;(conv=>whnf);refine hS.la 1 rfl (l:=rvl 145 ⟨b1,0,none⟩) rfl rfl ?_;(conv=>whnf);refine (ztp e p _ w3).mono ?_;rintro v w' ⟨rfl,hx⟩;repeat' ((conv=>whnf);first|apply RetC.mk|refine rgO ?_|refine ixO ?_|(first|apply brD|apply zad|apply brN|apply brI)<;>(intro))
 exact ⟨rfl,(hS.no hx).ext⟩

def allErrs:List Nat:=[1,2,3,4,5,6,7,8,9,10,11]

theorem handle_of {L : List (String × DataW Unit)} {W : World} (hl : laidMetH Tryz.prog L W) (hm : ("errors.errorType", .iface "internal/reflectlite.rtype" (.agg [.ptr (.lit (.string [101, 114, 114, 111, 114]))])) ∈ L) : Handle W := by
 have h2:=(laidMetH_iff.1 hl).2 _ (List.mem_filter.2 ⟨hm,rfl⟩);obtain ⟨name,u,ty,e1,e2,e3,e4,e5⟩:=h2;have en:name=[101,114,114,111,114]:=(Option.some.inj e1).symm;subst en
 obtain rfl := Option.some.inj ((show (Tryz.prog.cutTypes.find? (·.1 == "internal/reflectlite.rtype")).map (·.2) = some 315 by kernel_rfl).symm.trans e2)
 have hm:ty∈(List.range Tryz.prog.types.size).filter fun t=>Tryz.prog.rowNamed t [101,114,114,111,114]:=List.mem_filter.2 ⟨List.mem_range.2 e3,e4⟩
 rw [show ((List.range Tryz.prog.types.size).filter fun t=>Tryz.prog.rowNamed t [101,114,114,111,114])=[25] by kernel_rfl] at hm;obtain rfl:=List.mem_singleton.1 hm;have hh:typeHandle Tryz.prog 25=hv 25:=by kernel_rfl
 rw [hh] at e5
 have := World.var?_cell (show Tryz.prog.globalNamed "errors.errorType" = some 12 by kernel_rfl) e5 0
 simpa [Handle,rt] using this
end Go.Proofs.YtogjajjdaoihdaaGreatDoor

namespace Go.Proofs.YtogjajjdaoihdaaGreatDoor
set_option maxRecDepth 20000
open Go Ev Go.Extern

section
variable {w : World} {b : Nat}
end


theorem Ev.St.ref {w0 w:World}{S:Nat→Prop}{H:List Ent}(_:St w0 S w H) (T:Nat→Prop):Ext T w w:=Ext.refl _ _
theorem Ev.St.stK {w0 w1 w:World}{S T:Nat→Prop}{H:List Ent}(h:St w0 S w H) (hK:Ext T w1 w) (i:Nat) {b o:Nat}{t:TypeId}{cs vs:List Value}{k:World→Prop}(hi:H[i]?=some (Ev.blk b t cs)) (hle:o+vs.length≤cs.length) (h1:vs.all zcN=true) (hT:T b)
  (hk:∀ w',Ext T w1 w'→St w0 S w' (H.set i (Ev.blk b t (zaO cs o vs)))→k w'):StC w b o vs k:=by
 have hb:=h.blk i hi;have hx:Ext (· = b) w (zbE w b t (zaO cs o vs)):=Ext.set (S:=(· = b)) (b:=b) rfl t _;exact ⟨t,cs,hb,hle,by simpa using h1,hk _ (hK.trans (hx.mono fun c hc=>hc ▸ hT)) (h.upd i hi hx (fun c hc=>by simp [Ev.blk,hc]) (zab _ _ _) (zcd hb.lt) (fun c hc=>.inl hc))⟩
theorem Ev.St.newK {w0 w1 w:World}{S T:Nat→Prop}{H:List Ent}(h:St w0 S w H) (hK:Ext T w1 w) {t:TypeId}{cs:List Value}{k:Value→World→Prop}(hk:∀ b w',Ext T w1 w'→St w0 S w' (H++[Ev.blk b t cs])→k (.pointer (some ⟨b,0,none⟩)) w'):NewC w t cs k:=by
 obtain ⟨h1⟩:=h.new (t:=t) (cs:=cs) (k:=fun v w'=>Ext T w1 w'→k v w') (fun b w' _ hS hx=>hk b w' hx hS);exact ⟨h1 (hK.trans (Ext.push _ _ _ _))⟩

def zgA:List Nat:=[2,3,4,5,6,7,10,11]
def zfU:List Nat:=[2,3,4,5,6,7,8,9,10,11]
structure NodeA where
 n:Nat
 r:Nat
 c:Nat
 t:Nat
 x:Nat
 m:Nat
 b:Nat
 ra:Option Addr
 rc:Nat
def zp2 (A:NodeA) (N:NodeS):List Value:=[.pointer (some ⟨A.r,0,none⟩),.int .i64 N.id,.int .i64 N.now,.pointer (some ⟨A.c,0,none⟩),.pointer (some ⟨A.t,0,none⟩),.pointer (some ⟨A.x,0,none⟩),.pointer (some ⟨A.m,0,none⟩),.slice A.ra N.rules.length A.rc]
def zaC (A:NodeA) (N:NodeS):List Ent:=[blk A.n 268 (zp2 A N),blk A.r 335 (za0 N.role),blk A.c 332 (zdl A.b N.cell),blk A.t 330 (zaZ N.tab),blk A.x 338 (zaW A.t N.tel),blk A.m 340 (zaZ N.mir),zaf 98 5 zal (.slice A.ra N.rules.length A.rc) N.rules]
def High (H:List Ent) (q:Nat):Prop:=∀ b,inF H b→q≤b
theorem zbR {T:MirS}(hl:T.cells.length=32) (p:FlowS→Bool) (h:0≤zc3 (za9 p) T.cells 0):T.flowErr (zc3 (za9 p) T.cells 0)=0∧∃ c,T.cells[(zc3 (za9 p) T.cells 0).toNat]?=some c∧c.f=zaD T (zc3 (za9 p) T.cells 0)∧c.f.proto≠0∧zc3 (za9 p) T.cells 0 < 32:=by
 obtain ⟨j,c,hj,hp,he,_⟩:=zg6 (za9 p) T.cells 0 h;have lt:=(List.getElem?_eq_some_iff.1 hj).1;have hjj:(zc3 (za9 p) T.cells 0).toNat=j:=by omega
 have hc:c.f.proto≠0:=by
  unfold za9 at hp;simp only [Bool.and_eq_true,decide_eq_true_eq] at hp;exact hp.1
 refine ⟨?_,c,by rw [hjj];exact hj,?_,hc,by omega⟩
 ·unfold MirS.flowErr;rw [if_neg (by omega),hjj,hj];exact if_neg hc
 ·unfold zaD;rw [hjj,hj]

section
variable {w : World} {A : NodeA} {N : NodeS}
theorem zch (p s:Int):0≤zc4 p s∧zc4 p s≤100:=by
 unfold zc4;repeat' split
 all_goals omega
theorem zl2 {E:Nat→Addr}{q m:Nat}(k:Int) (p:PktS) (out:Bool) (hN:Has w (zaC A N)) (hO:NOk m N) (hm:m≤50000000) (hk:N.tab.flowErr k=0) (hE:Errs w E q zfU) (hq:High (zaC A N) q) :
  CallC Tryz.prog 227 #[.pointer (some ⟨A.n,0,none⟩),.int .i64 k,.agg (zao p).toArray,.bool out] w fun v w'=>v = .tuple #[.agg (zai (zaD N.tab k)).toArray,.nilIface]∧Turns w w' (zaC A N) (zaC A (N.pass k p.flags out)):=by
 have hv:=hO.tab.verOk (by omega)
 have hin:0≤k∧k < 32:=by
  unfold MirS.flowErr at hk;split at hk
  ·omega
  ·omega
 obtain ⟨c,hc⟩:∃ c,N.tab.cells[k.toNat]?=some c:=⟨_,List.getElem?_eq_getElem (by rw [hO.tab.len];omega)⟩;have hcf:c.f=zaD N.tab k:=by unfold zaD;rw [hc]
 have hd:(N.tab.drop k).1=0:=by unfold MirS.drop;rw [if_neg (by omega)]
 have hs:∀ a b,(N.tab.setS k a b).1=0:=fun a b=>by unfold MirS.setS;rw [if_neg (by omega)]
 refine zaa tabOk Tryz.func227 (by kernel_rfl) rfl Tryz.ntmps227 (lbO rfl) ?_;have hS:=hN.start;(conv=>whnf);refine hS.new (fun bp w' hbp hS=>?_);(conv=>whnf);refine hS.new (fun bf w' hbf hS=>?_);(conv=>whnf);refine hS.ld 0 rfl rfl ?_;(conv=>whnf);refine (zqe k (hS.blk 3 rfl) hin.1 hin.2 hc).mono ?_;rintro v w2 ⟨rfl,hx⟩;replace hS:=hS.no hx;(conv=>whnf);refine hS.new (fun bc w' hbc hS=>?_);(conv=>whnf);refine hS.st 9 rfl (lbO rfl) rfl (fun w' hS=>?_);replace hS:St w (inF (zaC A N)) w' (zaC A N++[blk bp 41 (zao p),blk bf 207 (zai zay),blk bc 209 (zac c)]):=hS;repeat' ((conv=>whnf);first|apply RetC.mk|refine rgO ?_|refine ixO ?_|refine hS.ld 0 rfl rfl ?_|refine hS.ld 1 rfl rfl ?_|refine hS.ld 2 rfl rfl ?_|refine hS.ld 3 rfl rfl ?_|refine hS.ld 4 rfl rfl ?_|refine hS.ld 5 rfl rfl ?_|refine hS.ld 6 rfl rfl ?_|refine hS.ld 7 rfl rfl ?_|refine hS.ld 8 rfl rfl ?_|refine hS.ld 9 rfl rfl ?_|refine hS.laX 0 rfl rfl ?_|refine hS.laX 1 rfl rfl ?_|refine hS.laX 2 rfl rfl ?_|refine hS.laX 3 rfl rfl ?_|refine hS.laX 4 rfl rfl ?_|refine hS.laX 5 rfl rfl ?_|refine hS.laX 6 rfl rfl ?_|refine hS.laX 7 rfl rfl ?_|refine hS.laX 8 rfl rfl ?_|refine hS.laX 9 rfl rfl ?_|(refine (zsR c.f.proto c.f.state p.flags out _).mono ?_;rintro v w3 ⟨rfl,rfl⟩)|(first|apply brD|apply zad|apply brN|apply brI)<;>(intro))
 all_goals
  have hqF:∀ b,inF (zaC A N) b→q≤b:=hq;have hn1:=hS.ne 0 3 rfl rfl (by decide);have hn2:=hS.ne 0 8 rfl rfl (by decide);have hn3:=hS.ne 9 3 rfl rfl (by decide);have hn4:=hS.ne 9 8 rfl rfl (by decide);(conv=>whnf)
 ·rename_i hg
  have hgone:N.pass k p.flags out={ N with tab:=(N.tab.drop k).2 }:=by
   unfold NodeS.pass;rw [← hcf,hg]
  (refine zah tabOk mixed [] (fun b=>b=A.t∨b=bf) [0,1,2,3,4,5,6,7,8,9] (by kernel_rfl) ?_;rintro w1 rfl;replace hS:=hS.drew)
  have hK:=hS.ref (fun b=>b=A.t∨b=bf);repeat' ((conv=>whnf);first|refine hS.laXF 9 rfl rfl (fun h=>h.elim hn3 hn4) ?_|refine hS.ldF 0 rfl rfl (fun h=>h.elim hn1 hn2) ?_)
  refine (zmO k (hS.blk 3 rfl) hO.tab.len hv ((hE.ext hS.ext hqF).sub rfl)).mono ?_;rintro v w' ⟨rfl,hx,hB⟩;replace hS:=hS.upd 3 rfl hx (fun c hc=>by subst hc;exact List.mem_singleton.2 rfl) (zab _ _ _) hB (fun c hc=>.inl hc);replace hK:=hK.trans (hx.mono fun c hc=>.inl hc);refine KeepC.mk hK ?_;(conv=>whnf);refine hS.stK hK 8 rfl (lbO rfl) rfl (.inr rfl) (fun w' hK hS=>KeepC.mk hK ?_);(conv=>whnf);refine hS.laX 8 rfl rfl ?_;repeat' ((conv=>whnf);first|apply RetC.mk|refine rgO ?_|refine ixO ?_|(first|apply brD|apply zad|apply brN|apply brI)<;>(intro))
  rw [hd,hgone];exact ⟨by rw [← hcf];rfl,(hS.keep 7).turns⟩
 ·rename_i hg
  have hstay:N.pass k p.flags out={ N with tab:=(N.tab.setS k (zdS c.f.proto c.f.state p.flags out).1 (N.now+zc4 c.f.proto (zdS c.f.proto c.f.state p.flags out).1)).2 }:=by
   unfold NodeS.pass;rw [← hcf,hg]
  (refine zah tabOk mixed [] (fun b=>b=A.t∨b=bf) [0,1,2,3,4,5,6,7,8,9,10,11,12,13,14,15,16,17,18,19,20] (by kernel_rfl) ?_;rintro w1 rfl;replace hS:=hS.drew)
  have hK:=hS.ref (fun b=>b=A.t∨b=bf);repeat' ((conv=>whnf);first|refine hS.laXF 9 rfl rfl (fun h=>h.elim hn3 hn4) ?_|refine hS.ldF 9 rfl rfl (fun h=>h.elim hn3 hn4) ?_|refine hS.ldF 0 rfl rfl (fun h=>h.elim hn1 hn2) ?_)
  refine (zlJ _ _ _).mono ?_;rintro v w' ⟨rfl,hx⟩;replace hS:=hS.no hx;replace hK:=hK.trans hx.of_no;refine KeepC.mk hK ?_;have htb:=zch c.f.proto (zdS c.f.proto c.f.state p.flags out).1;have hn0:=hO.n0;have hn9:=hO.n1;repeat' ((conv=>whnf);first|apply RetC.mk|refine rgO ?_|refine ixO ?_|(first|apply brD|apply zad|apply brN|apply brI)<;>(intro))
  refine (ztv k _ _ (hS.blk 3 rfl) hO.tab.len hv ((hE.ext hS.ext hqF).sub rfl)).mono ?_;rintro v w' ⟨rfl,hx,hB⟩;replace hS:=hS.upd 3 rfl hx (fun c hc=>by subst hc;exact List.mem_singleton.2 rfl) (zab _ _ _) hB (fun c hc=>.inl hc);replace hK:=hK.trans (hx.mono fun c hc=>.inl hc);refine KeepC.mk hK ?_;(conv=>whnf);refine hS.stK hK 8 rfl (lbO rfl) rfl (.inr rfl) (fun w' hK hS=>KeepC.mk hK ?_);(conv=>whnf);refine hS.laX 8 rfl rfl ?_;repeat' ((conv=>whnf);first|apply RetC.mk|refine rgO ?_|refine ixO ?_|(first|apply brD|apply zad|apply brN|apply brI)<;>(intro))
  rw [hs,hstay];exact ⟨by rw [← hcf];rfl,(hS.keep 7).turns⟩

theorem Errs.out {E:Nat→Addr}{n:Nat}{ks:List Nat}{S:Nat→Prop}(h:Errs w E n ks) (k:Nat) (hk:ks.contains k=true) (hS:∀ b,S b→n≤b):¬ S (zlm k):=fun hs=>by
 have:=hS _ hs;have:=h.lt k hk;omega
theorem zpI {E:Nat→Addr}{q m:Nat}(p:PktS) (hN:Has w (zaC A N)) (hO:NOk m N) (hm:m≤50000000) (hp:p.err=0) (hE:Errs w E q zfU) (hq:High (zaC A N) q) :
  CallC Tryz.prog 228 #[.pointer (some ⟨A.n,0,none⟩),.agg (zao p).toArray] w fun v w'=>v = .tuple #[.int .i64 (N.begin p).1.1,zc9 E (N.begin p).1.2]∧Turns w w' (zaC A N) (zaC A (N.begin p).2):=by
 have hv:=hO.tab.verOk (by omega);have hg:(za2 N.rules).1=0:=fault_good.2 hO.rules;have hqF:∀ b,inF (zaC A N) b→q≤b:=hq
 have hlif:0≤N.tab.life∧N.tab.life≤100000:=by
  have:=hO.lif;have:=hO.id;omega
 refine zaa tabOk Tryz.func228 (by kernel_rfl) rfl Tryz.ntmps228 (lbO rfl) ?_;have hS:=hN.start;(conv=>whnf);refine hS.new (fun bp w' hbp hS=>?_);replace hS:St w (inF (zaC A N)) w' (zaC A N++[blk bp 41 (zao p)]):=hS;(conv=>whnf)
 (refine zah tabOk mixed [] No [0,1,2,3,4,5,6,7,8,9,10] (by kernel_rfl) ?_;rintro w1 rfl;replace hS:=hS.drew)
 repeat' ((conv=>whnf);first|refine hS.laXF 7 rfl rfl id ?_|refine hS.ldF 0 rfl rfl id ?_)
 refine (znN (G:=fun _=>True) (zap zeQ (hS.get 6 rfl) (fun _ _=>trivial)) p true ((hE.ext hS.ext hqF).sub rfl)).mono ?_;rintro v w2 ⟨⟨e,rfl,hF⟩,hx⟩;rw [if_pos hg,if_pos hg,hp] at hF
 obtain rfl:e = .nilIface:=by
  rcases hF with ⟨_,h⟩ | ⟨h,_⟩
  ·exact h
  ·omega
 rw [show (decide (zgv N.rules∧p.err=0)&&zbc p.proto p.dp true N.rules)=zbc p.proto p.dp true N.rules by rw [decide_eq_true ⟨hO.rules,hp⟩,Bool.true_and]];replace hS:=hS.no hx;refine KeepC.mk hx ?_;cases hA:zbc p.proto p.dp true N.rules
 ·have hb:N.begin p=((0,8),N):=if_pos hA;rw [hb];(conv=>whnf)
  (refine zah tabOk mixed [] No [0,1,2] (by kernel_rfl) ?_;rintro w1 rfl;replace hS:=hS.drew)
  (conv=>whnf);refine hS.ldrF (hE.at_ 8 rfl) (Errs.out hE 8 rfl hqF) id ?_;repeat' ((conv=>whnf);first|apply RetC.mk|refine rgO ?_|refine ixO ?_|(first|apply brD|apply zad|apply brN|apply brI)<;>(intro))
  exact ⟨rfl,(hS.keep 7).turns⟩
 ·(conv=>whnf)
  refine hS.ld 7 rfl rfl ?_;(conv=>whnf);refine hS.ld 7 rfl rfl ?_;(conv=>whnf);refine (zqD _ _ _ ((hE.ext hS.ext hqF).sub rfl)).mono ?_;rintro v w3 ⟨rfl,hx⟩;replace hS:=hS.no hx;have hb:N.begin p=_:=if_neg (by rw [hA];decide);rw [hb];clear hb hF;generalize zcB p.proto p.flags=r;obtain ⟨s,kk⟩:=r;cases kk with
  | succ j =>
   rw [if_pos (show ((s,j+1):Int × Nat).2≠0 by simp)];repeat' ((conv=>whnf);first|apply RetC.mk|refine rgO ?_|refine ixO ?_|(first|apply brD|apply zad|apply brN|apply brI)<;>(intro))
   exact ⟨rfl,(hS.keep 7).turns⟩
  | zero =>
   rw [if_neg (show ¬ ((s,0):Int × Nat).2≠0 by simp)];dsimp only;have htb:=zch p.proto s;have hn0:=hO.n0;have hn9:=hO.n1;have hn1:=hS.ne 0 3 rfl rfl (by decide);have hn2:=hS.ne 7 3 rfl rfl (by decide);(conv=>whnf)
   (refine zah tabOk mixed [] (fun b=>b=A.t) [0,1,2,3,4,5,6,7,8,9,10,11,12,13,14,15,16,17,18,19,20,21,22,23,24] (by kernel_rfl) ?_;rintro w1 rfl;replace hS:=hS.drew)
   have hK:=hS.ref (fun b=>b=A.t);repeat' ((conv=>whnf);first|refine hS.laXF 7 rfl rfl hn2 ?_|refine hS.ldF 7 rfl rfl hn2 ?_|refine hS.ldF 0 rfl rfl hn1 ?_)
   refine (zlJ _ _ _).mono ?_;rintro v w' ⟨rfl,hx⟩;replace hS:=hS.no hx;replace hK:=hK.trans hx.of_no;refine KeepC.mk hK ?_;repeat' ((conv=>whnf);first|apply RetC.mk|refine rgO ?_|refine ixO ?_|(first|apply brD|apply zad|apply brN|apply brI)<;>(intro))
   refine (zta _ _ _ _ _ _ _ (hS.blk 3 rfl) hO.tab.len hv hlif ((hE.ext hS.ext hqF).sub rfl) (hqF A.t ⟨_,List.mem_of_getElem? (i:=3) rfl,List.mem_singleton.2 rfl⟩)).mono ?_;rintro v w' ⟨rfl,hx,hB⟩;replace hS:=hS.upd 3 rfl hx (fun c hc=>by subst hc;exact List.mem_singleton.2 rfl) (zab _ _ _) hB (fun c hc=>.inl hc);replace hK:=hK.trans hx;refine KeepC.mk hK ?_;repeat' ((conv=>whnf);first|apply RetC.mk|refine rgO ?_|refine ixO ?_|(first|apply brD|apply zad|apply brN|apply brI)<;>(intro))
   exact ⟨rfl,(hS.keep 7).turns⟩
end
end Go.Proofs.YtogjajjdaoihdaaGreatDoor
