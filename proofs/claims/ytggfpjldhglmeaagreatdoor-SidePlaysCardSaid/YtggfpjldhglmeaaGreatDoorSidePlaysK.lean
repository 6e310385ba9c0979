/-
  Texts of this claim, joined: RWorldH, RWorldA, RWorldB, Play, PlayB, PlayC, PlayD, BornW, NodeL, LawW, RWorldC, RWorldD, RWorldE, RWorldF, RPlay, RPlayB, RPlayC, NodeM, AsW, Both.
-/
import Derived.Test.YtggfpjldhglmeaaGreatDoorSidePlaysJ
set_option linter.unusedSectionVars false
set_option linter.unusedSimpArgs false
set_option linter.unusedVariables false
set_option maxRecDepth 20000
namespace Go.Proofs.YtggfpjldhglmeaaGreatDoor
open Go Tryz
section
open Ev
variable [Gap.Leaps]
variable {n:Int}{bp np:List (Option Addr)}{H:List bZ}{c j m q:Nat}{E:Nat→Addr}{S:Nat→Prop}{a:Option Addr}{B:el}{A:cG}{s:bX}{e:TypeId}{w w' w0:World}
structure RWorldA where
 w:Nat
 na:Option Addr
 nc:Nat
 ba:Option Addr
 bc:Nat
 ra:Option Addr
 rc:Nat
 la:Option Addr
 lc:Nat
 vs:List bW
 ea:Option Addr
 ec:Nat
 a:cG
 b:cG
def RWorldA.side (Y:RWorldA)(n:Int):cG:=if n=0 then Y.a else Y.b
def RWorldA.ai (Y:RWorldA)(n:Int)(A:cG):RWorldA:=if n=0 then { Y with a:=A } else { Y with b:=A }
structure e8 where
 a:el
 b:el
def e8.side (R:e8)(n:Int):el:=if n=0 then R.a else R.b
def e8.ai (R:e8)(n:Int)(s:el):e8:=if n=0 then { R with a:=s } else { R with b:=s }
def kX (p:Option Addr):List Value:=[.pointer p]
theorem ub:cR 1 kX:=⟨fun _=>rfl,fun _=>rfl,by decide⟩
def gi (A:cG)(s:bX):Option Addr:=match s.node with|some _=>some ⟨A.n,0,none⟩|none=>none
def two (n:Int)(p q:Option Addr):List (Option Addr):=if n=0 then [p,q] else [q,p]
def Nf (Y:RWorldA)(W:WorldS):List Value:=[.slice Y.na 2 Y.nc,.slice Y.ba 2 Y.bc,.slice Y.ra W.rules.length Y.rc,.slice Y.la W.aN.length Y.lc,.int .i64 W.to,.int .i64 W.ah,.slice Y.ea W.events.length Y.ec]
def nC (A:cG)(s:bX)(R:el):List bZ:=match s.node with
 | some N=>dP A N R
 | none=>[blk A.b 126 (kW R)]
def kH (Y:RWorldA)(W:WorldS)(np bp:List (Option Addr)):List bZ:=[blk Y.w 51 (Nf Y W),az 75 1 kX (.slice Y.na 2 Y.nc) np,az 73 1 kX (.slice Y.ba 2 Y.bc) bp,az 222 5 bA (.slice Y.la W.aN.length Y.lc) Y.vs,dX Y.vs W.aN,az 80 2 fv (.slice Y.ea W.events.length Y.ec) W.events]
def ei (A:cG):Option Addr:=some ⟨A.b,0,none⟩
def iO (Y:RWorldA)(W:WorldS)(R:e8):List bZ:=kH Y W [gi Y.a W.a,gi Y.b W.b] [ei Y.a,ei Y.b]++(nC Y.a W.a R.a++nC Y.b W.b R.b)
def gT (Y:RWorldA)(W:WorldS)(R:e8)(n:Int):List bZ:=kH Y W (two n (gi (Y.side n) (W.side n)) (gi (Y.side (1-n)) (W.side (1-n)))) (two n (ei (Y.side n)) (ei (Y.side (1-n))))++nC (Y.side n) (W.side n) (R.side n)
theorem Bw (Y:RWorldA)(W:WorldS)(R:e8){n:Int}(hn:n=0∨n=1):(iO Y W R).Perm (gT Y W R n++nC (Y.side (1-n)) (W.side (1-n)) (R.side (1-n))):=by
 rcases hn with rfl|rfl
 ·unfold iO gT;rw[List.append_assoc];exact List.Perm.refl _
 ·unfold iO gT;rw[List.append_assoc];exact List.Perm.append_left _ List.perm_append_comm
theorem MT (hn:n=0∨n=1)(p q:Option Addr):(two n p q)[n.toNat]?=some p:=by
 rcases hn with rfl|rfl<;>rfl
theorem zxM (hn:n=0∨n=1)(p q r:Option Addr):(two n p q).set n.toNat r=two n r q:=by
 rcases hn with rfl|rfl<;>rfl
section
variable {Y:RWorldA}{W:WorldS}{R:e8}
def eP (w0:World)(a:Option Addr)(n:Nat)(xs:List RuleS):Prop:=bQ w0 5 eW (fun _=>True) a n xs
structure fG (w0:World)(j:Nat)(A:cG)(s:bX)(R:el):Prop where
 alike:Alike R s.cw
 oW:mN R j
 rules:∀N,s.node=some N→eP w0 A.ra N.rules.length N.rules
structure bg (w0:World)(m j:Nat)(w:World)(Y:RWorldA)(W:WorldS)(R:e8):Prop where
 has:Has w (iO Y W R)
 ok:dM m W
 ext:Ext No w0 w
 new:∀b,cp (iO Y W R) b→w0.heap.size≤b
 rules:eP w0 Y.ra W.rules.length W.rules
 a:fG w0 j Y.a W.a R.a
 b:fG w0 j Y.b W.b R.b
theorem fG.le (h:fG w0 j A s B){k:Nat}(hk:j≤k):fG w0 k A s B:=⟨h.alike,h.oW.le hk,h.rules⟩
theorem bg.side (h:bg w0 m j w Y W R){n:Int}(hn:n=0∨n=1):fG w0 j (Y.side n) (W.side n) (R.side n):=by
 rcases hn with rfl|rfl
 ·exact h.a
 ·exact h.b
theorem bg.half (h:bg w0 m j w Y W R){n:Int}(hn:n=0∨n=1):Has w (gT Y W R n):=(h.has.perm (Bw Y W R hn)).left
theorem eP.out {n:Nat}{xs:List RuleS}(h:eP w0 a n xs){H:List bZ}(hf:∀b,cp H b→w0.heap.size≤b):0<n→∀b0 o0,a=some ⟨b0,o0,none⟩→¬cp H b0:=fun h0 b0 o0 ha hb=>by
 obtain⟨b1,o1,x,_,_,h3,h4,_⟩:=bQ.at h h0;rw[ha]at h3;simp only[Option.some.injEq,Addr.mk.injEq]at h3;obtain⟨rfl,_⟩:=h3;have:=hf _ hb;omega
theorem bg.turns (h:bg w0 m j w Y W R){m' j':Nat}{Y':RWorldA}{W':WorldS}{R':e8}(k:ak w w' (iO Y W R) (iO Y' W' R'))(ok:dM m' W')(hr:eP w0 Y'.ra W'.rules.length W'.rules)(ha:fG w0 j' Y'.a W'.a R'.a)(hb:fG w0 j' Y'.b W'.b R'.b):bg w0 m' j' w' Y' W' R' :=
 ⟨k.has,ok,h.ext.then k.ext fun b hb=>.inr (h.new b hb),fun b ⟨e,he,hb⟩=>(k.aW e he b hb).elim (h.new b) fun g=>Nat.le_trans h.ext.size g,hr,ha,hb⟩
theorem bg.no (h:bg w0 m j w Y W R)(hx:Ext No w w'):bg w0 m j w' Y W R:=h.turns (ak.aF h.has hx) h.ok h.rules h.a h.b
theorem Lg (hn:n=0∨n=1)(A:cG)(s:bX)(B:el):(Y.ai n A).side n=A∧(Y.ai n A).side (1-n)=Y.side (1-n)∧(R.ai n B).side n=B∧(R.ai n B).side (1-n)=R.side (1-n):=by
 rcases hn with rfl|rfl<;>exact⟨rfl,rfl,rfl,rfl⟩
theorem RD (hn:n=0∨n=1)(A:cG)(s:bX)(B:el):gT (Y.ai n A) (W.ai n s) (R.ai n B) n=kH Y W (two n (gi A s) (gi (Y.side (1-n)) (W.side (1-n)))) (two n (ei A) (ei (Y.side (1-n))))++nC A s B:=by
 rcases hn with rfl|rfl<;>rfl
theorem fH.world (hn:n=0∨n=1)(h:Has w (iO Y W R)){Y':RWorldA}{W':WorldS}{R':e8}(k:ak w w' (gT Y W R n) (gT Y' W' R' n))(hy:Y'.side (1-n)=Y.side (1-n))(hw:W'.side (1-n)=W.side (1-n))(hr:R'.side (1-n)=R.side (1-n)):ak w w' (iO Y W R) (iO Y' W' R'):=by
 have h1:=h.perm (Bw Y W R hn);have h2:=ak.frame h1 k;rw[←hy,←hw,←hr]at h2;have h3:=Bw Y' W' R' hn
 have h4:(gT Y W R n++nC (Y'.side (1-n)) (W'.side (1-n)) (R'.side (1-n))).Perm (iO Y W R):=by
  rw[hy,hw,hr];exact(Bw Y W R hn).symm
 exact h2.perm h4 h3.symm
theorem fH.side (h:Has w (iO Y W R)){n:Int}(hn:n=0∨n=1){A:cG}{s:bX}{B:el}(k:ak w w' (gT Y W R n) (kH Y W (two n (gi A s) (gi (Y.side (1-n)) (W.side (1-n)))) (two n (ei A) (ei (Y.side (1-n))))++nC A s B)):ak w w' (iO Y W R) (iO (Y.ai n A) (W.ai n s) (R.ai n B)):=by
 rw[←RD hn A s B]at k;have h5:=Lg (Y:=Y) (R:=R) hn A s B;have h6:(W.ai n s).side (1-n)=W.side (1-n):=by rcases hn with rfl|rfl<;>rfl
 exact fH.world hn h k h5.2.1 h6 h5.2.2.2
end
section
variable {Y:RWorldA}{W:WorldS}{R:e8}
theorem P0 {N:NodeS}(h:s.node=some N):gi A s=some ⟨A.n,0,none⟩:=by
 unfold gi;rw[h]
theorem PZ (h:s.node=none):gi A s=none:=by
 unfold gi;rw[h]
theorem P2 {N:NodeS}(h:s.node=some N):nC A s B=dP A N B:=by
 unfold nC;rw[h]
theorem P1 (h:s.node=none):nC A s B=[blk A.b 126 (kW B)]:=by
 unfold nC;rw[h]
theorem xS {N:NodeS}(h:(W.side n).node=some N):gT Y W R n=kH Y W (two n (some ⟨(Y.side n).n,0,none⟩) (gi (Y.side (1-n)) (W.side (1-n)))) (two n (ei (Y.side n)) (ei (Y.side (1-n))))++dP (Y.side n) N (R.side n):=by
 unfold gT;rw[P2 h,P0 h]
theorem Ld (h:(W.side n).node=none):gT Y W R n=kH Y W (two n none (gi (Y.side (1-n)) (W.side (1-n)))) (two n (ei (Y.side n)) (ei (Y.side (1-n))))++[blk (Y.side n).b 126 (kW (R.side n))]:=by
 unfold gT;rw[P1 h,PZ h]
theorem Ev.St.jJ (h:St w0 S w H)(i:Nat){e:TypeId}{b o n' c off:Nat}{n:Int}{p q:Option Addr}{K:Value→Prop}(hn:n=0∨n=1)(hi:H[i]?=some (az e 1 kX (.slice (some ⟨b,o,none⟩) n' c) (two n p q)))(ho:off=o+n.toNat*1)(hk:K (.pointer p)):uU w b off K:=by
 subst ho;have hs:=fE (G:=fun _=>True) ub (h.get i hi) (fun _ _=>trivial);obtain⟨b0,o0,h1,_,hc⟩:=hs.cells n.toNat p (MT hn p q);simp only[Option.some.injEq,Addr.mk.injEq]at h1;obtain⟨rfl,rfl,_⟩:=h1;have h2:=hc 0 (.pointer p) rfl;exact⟨_,h2,hk⟩
theorem Ev.St.kn {T:Nat→Prop}(h:St w0 S w H)(i:Nat){e:TypeId}{b o n' c off:Nat}{n:Int}{p q:Option Addr}{K:Value→Prop}(hn:n=0∨n=1)(hi:H[i]?=some (az e 1 kX (.slice (some ⟨b,o,none⟩) n' c) (two n p q)))(ho:off=o+n.toNat*1)(hT:¬T b)(hk:K (.pointer p)):rI (Ext T w) b off K:=by
 subst ho;have hs:=fE (G:=fun _=>True) ub (h.get i hi) (fun _ _=>trivial);obtain⟨b0,o0,h1,_,hc⟩:=hs.cells n.toNat p (MT hn p q);simp only[Option.some.injEq,Addr.mk.injEq]at h1;obtain⟨rfl,rfl,_⟩:=h1;have h2:=hc 0 (.pointer p) rfl;exact jr h2 hT hk
theorem qC {p q:Option Addr}(h:(az e 1 kX (.slice a 2 c) (two n p q)).holds w):∃g,a=some ⟨g,0,none⟩:=by
 rcases BL h with⟨_,h1,_⟩|⟨g,_,h1,_⟩
 ·cases h1
 ·exact⟨g,h1⟩
theorem G5 (n:Int)(h:bg w0 m j w Y W R):aa prog 111 #[.pointer (some ⟨Y.w,0,none⟩),.int .i64 n] w fun v w'=>v=.int .i64 (W.cF n:Nat)∧w=w':=by
 by_cases hn:n=0∨n=1
 ·have hH:=h.half hn;have hS:=hH.start;cases hN:(W.side n).node with
  | none =>
   rw[Es hn hN];rw[Ld hN]at hS;obtain⟨g,hg⟩:=qC (hS.get 1 rfl);refine zN func111 ntmps111 ?_;refine aM (fun h1=>absurd h1 zo) (fun _=>?_);refine aM (fun h1=>absurd h1 zo) (fun _=>?_);refine hS.ld 0 rfl (v:=.slice (some ⟨g,0,none⟩) 2 Y.nc) (by rw[←hg];rfl) ?_;refine ao.mk zo zo ?_;refine hS.jJ 1 hn (by rw[←hg];rfl) rfl ?_;exact zH
  | some N =>
   rw[Et hn hN];rw[xS hN]at hS;obtain⟨g,hg⟩:=qC (hS.get 1 rfl);refine zN func111 ntmps111 ?_;refine aM (fun h1=>absurd h1 zo) (fun _=>?_);refine aM (fun h1=>absurd h1 zo) (fun _=>?_);refine hS.ld 0 rfl (v:=.slice (some ⟨g,0,none⟩) 2 Y.nc) (by rw[←hg];rfl) ?_;refine ao.mk zo zo ?_;refine hS.jJ 1 hn (by rw[←hg];rfl) rfl ?_;exact zH
 ·rw[show W.cF n=2 from if_pos zo];refine zN func111 ntmps111 ?_;apply aR<;>intro h1
  ·exact zH
  ·refine aM (fun h1=>?_) (fun h1=>by omega);exact zH
theorem Gp (h:bg w0 m j w Y W R):aa prog 113 #[.pointer (some ⟨Y.w,0,none⟩)] w fun v w'=>v=.int .i64 (W.bM:Nat)∧w=w':=by
 refine zN func113 ntmps113 ?_;have hS:=h.has.start;refine hS.lD 0 ?_;apply aR<;>intro h1
 ·rw[show W.bM=4 from if_pos h1];exact zH
 ·rw[show W.bM=W.cF W.to from if_neg h1];refine hS.lD 0 ?_;refine(G5 W.to h).mono ?_;rintro v w1 ⟨rfl,rfl⟩;exact zH
def aT (w0:World)(m j:Nat)(w:World)(Y:RWorldA)(W:WorldS)(R:e8)(W':WorldS)(w':World):Prop:=∃Y' R',Y'.w=Y.w∧ak w w' (iO Y W R) (iO Y' W' R')∧bg w0 m j w' Y' W' R'
theorem aT.same (h:bg w0 m j w Y W R){m' j':Nat}(hm:m≤m')(hj:j≤j')(hx:Ext No w w'):aT w0 m' j' w Y W R W w' :=
 ⟨Y,R,rfl,ak.aF h.has hx,h.turns (ak.aF h.has hx) (h.ok.mono hm) h.rules (h.a.le hj) (h.b.le hj)⟩
theorem aT.set (h:bg w0 m j w Y W R){n:Int}(hn:n=0∨n=1){A:cG}{s:bX}{B:el}{m' j':Nat}(k:ak w w' (gT Y W R n) (kH Y W (two n (gi A s) (gi (Y.side (1-n)) (W.side (1-n)))) (two n (ei A) (ei (Y.side (1-n))))++nC A s B))(ok:dM m' (W.ai n s))(hj:j≤j')(hs:fG w0 j' A s B):aT w0 m' j' w Y W R (W.ai n s) w':=by
 have hT:=fH.side h.has hn k;refine⟨Y.ai n A,R.ai n B,by rcases hn with rfl|rfl<;>rfl,hT,?_⟩;rcases hn with rfl|rfl
 ·exact h.turns hT ok h.rules hs (h.b.le hj)
 ·exact h.turns hT ok h.rules (h.a.le hj) hs
theorem aT.mono {W':WorldS}(h:aT w0 m j w Y W R W' w'){m' j':Nat}(hm:m≤m')(hj:j≤j'):aT w0 m' j' w Y W R W' w':=by
 obtain⟨Y',R',h1,h2,h3⟩:=h;exact⟨Y',R',h1,h2,⟨h3.has,h3.ok.mono hm,h3.ext,h3.new,h3.rules,h3.a.le hj,h3.b.le hj⟩⟩
theorem Ev.St.qv (h:St w0 S w H)(i:Nat){e:TypeId}{b n' c off:Nat}{n:Int}{p q r:Option Addr}{K:World→Prop}(hn:n=0∨n=1)(hi:H[i]?=some (az e 1 kX (.slice (some ⟨b,0,none⟩) n' c) (two n p q)))(ho:off=n.toNat*1)
  (hk:∀w',St w0 S w' (H.set i (az e 1 kX (.slice (some ⟨b,0,none⟩) n' c) (two n r q)))→K w'):rL w b off (kX r) K :=
 h.jN ub i (k:=n.toNat) hi (MT hn p q) ho rfl (fun w' _ hS=>hk w' (by rw[zxM hn]at hS;exact hS))
theorem Sn (n:Int)(h:bg w0 m j w Y W R):aa prog 55 #[.pointer (some ⟨Y.w,0,none⟩),.int .i64 n] w fun v w'=>v=.int .i64 ((W.down n).1:Nat)∧aT w0 m j w Y W R (W.down n).2 w':=by
 refine zN func55 ntmps55 ?_;refine(G5 n h).mono ?_;rintro v w1 ⟨rfl,rfl⟩;refine aM (fun hu=>?_) (fun hu=>?_)
 ·have hu:W.cF n=0:=by omega
  obtain⟨hn,N,hN⟩:=BF hu;rw[show W.down n=(0,W.ai n ⟨none,{ (W.side n).cw with off:=true }⟩) from if_neg (fun h=>h hu),hu]
  have bR:dM m (W.ai n ⟨none,{ (W.side n).cw with off:=true }⟩):=by
   have:=h.ok.down n
   rwa [show W.down n=(0,W.ai n ⟨none,{ (W.side n).cw with off:=true }⟩) from if_neg (fun h=>h hu)]at this
  have ig:=h.side hn;have hS:=(h.half hn).start
  have hT:∀{w'},St w (cp (gT Y W R n)) w' (kH Y W (two n none (gi (Y.side (1-n)) (W.side (1-n)))) (two n (ei (Y.side n)) (ei (Y.side (1-n))))++[blk (Y.side n).b 126 (kW { R.side n with off:=true })])→aT w0 m j w Y W R (W.ai n ⟨none,{ (W.side n).cw with off:=true }⟩) w':=fun k =>
   aT.set h hn (A:=Y.side n) (s:=⟨none,{ (W.side n).cw with off:=true }⟩) (B:={ R.side n with off:=true }) (St.turns k) bR (Nat.le_refl _) ⟨⟨ig.alike.data,rfl,ig.alike.left,ig.alike.free⟩,⟨ig.oW.len,ig.oW.kJ,ig.oW.lo,ig.oW.hi⟩,fun N hN=>by cases hN⟩
  generalize va:cp (gT Y W R n)=S at hS hT;rw[xS hN]at hS;obtain⟨g,hg⟩:=qC (hS.get 1 rfl);obtain⟨g2,pD⟩:=qC (hS.get 2 rfl);refine hS.ld 0 rfl (v:=.slice (some ⟨g2,0,none⟩) 2 Y.bc) (by rw[←pD];rfl) ?_;refine ao.mk zo zo ?_;refine hS.jJ 2 hn (by rw[←pD];rfl) rfl ?_;refine hS.sT 12 fun w2 hS=>?_
  refine hS.ld 0 rfl (v:=.slice (some ⟨g,0,none⟩) 2 Y.nc) (by rw[←hg];rfl) ?_;refine ao.mk zo zo ?_;refine hS.qv (r:=none) 1 hn (by rw[←hg];rfl) zo (fun w3 hS=>?_);repeat' first|refine zP ?_|apply aR<;>intro
  refine⟨rfl,hT ?_⟩;have cT:=hS.dv [0,1,2,3,4,5,12] zd;rw[←hg]at cT;exact cT
 ·rw[show W.down n=(W.cF n,W) from if_pos zo];refine zE ?_;exact⟨rfl,aT.same h (Nat.le_refl _) (Nat.le_refl _) (Ext.refl _ _)⟩
def BU (B:el)(k:Int):el:=if k<0∨B.off=true then B else ⟨B.data,B.off,k,true⟩
theorem zp7 {C:aP}(h:Alike B C)(k:Int):Alike (BU B k) (oM C k):=by
 unfold BU oM;by_cases hc:k<0∨B.off=true
 ·rw[if_pos hc,if_pos (by rw[←h.off];exact hc)];exact h
 ·rw[if_neg hc,if_neg (by rw[←h.off];exact hc)];exact⟨h.data,h.off,fun _=>⟨rfl,by dsimp only;omega⟩,fun h=>by cases h⟩
theorem zv5 (h:mN B j)(k:Int)(hk:k≤9223372036854775807):mN (BU B k) j:=by
 unfold BU;split
 ·exact h
 ·exact⟨h.len,fun _=>by dsimp only;omega,by dsimp only;omega,hk⟩
theorem T8 (n k:Int)(hk:k≤9223372036854775807)(h:bg w0 m j w Y W R):aa prog 57 #[.pointer (some ⟨Y.w,0,none⟩),.int .i64 n,.int .i64 k] w fun v w'=>v=.int .i64 ((W.cut n k).1:Nat)∧aT w0 m j w Y W R (W.cut n k).2 w':=by
 refine zN func57 ntmps57 ?_;refine(G5 n h).mono ?_;rintro v w1 ⟨rfl,rfl⟩;apply aR<;>intro hu
 ·rw[show W.cut n k=(W.cF n,W) from if_pos zo];refine zE ?_;exact⟨rfl,aT.same h (Nat.le_refl _) (Nat.le_refl _) (Ext.refl _ _)⟩
 ·have hu:W.cF n=0:=by omega
  obtain⟨hn,N,hN⟩:=BF hu;have hc:W.cut n k=(AX (W.side n).cw k,W.ai n ⟨(W.side n).node,oM (W.side n).cw k⟩):=if_neg (fun h=>h hu);have bR:=h.ok.cut n k hk;rw[hc]at bR;rw[hc];have ig:=h.side hn;have hS:=(h.half hn).start
  have hT:∀{w'},St w (cp (gT Y W R n)) w' (kH Y W (two n (some ⟨(Y.side n).n,0,none⟩) (gi (Y.side (1-n)) (W.side (1-n)))) (two n (ei (Y.side n)) (ei (Y.side (1-n))))++dP (Y.side n) N (BU (R.side n) k))→aT w0 m j w Y W R (W.ai n ⟨(W.side n).node,oM (W.side n).cw k⟩) w':=fun {w'} hS=>by
   refine aT.set h hn (A:=Y.side n) (s:=⟨(W.side n).node,oM (W.side n).cw k⟩) (B:=BU (R.side n) k) ?_ bR (Nat.le_refl _) ⟨zp7 ig.alike k,zv5 ig.oW k hk,fun N hN=>ig.rules N hN⟩;have:=St.turns hS;rw[P0 (A:=Y.side n) (s:=⟨(W.side n).node,oM (W.side n).cw k⟩) hN,P2 (A:=Y.side n) (s:=⟨(W.side n).node,oM (W.side n).cw k⟩) hN];exact this
  generalize va:cp (gT Y W R n)=S at hS hT;rw[xS hN]at hS;obtain⟨g2,pD⟩:=qC (hS.get 2 rfl)
  have ho:AX (W.side n).cw k=if k<0 then 2 else if (R.side n).off=true then 7 else 0:=by
   unfold AX;rw[ig.alike.off]
  rw[ho];refine hS.ld 0 rfl (v:=.slice (some ⟨g2,0,none⟩) 2 Y.bc) (by rw[←pD];rfl) ?_;refine ao.mk zo zo ?_;refine hS.jJ 2 hn (by rw[←pD];rfl) rfl ?_;refine(ztv k (hS.blk 12 rfl)).mono ?_;rintro v w2 ⟨rfl,hx,hB⟩;replace hS:=hS.uB 12 hx hB;refine zE ?_;exact⟨rfl,hT hS⟩
theorem Sj (n:Int)(h:bg w0 m j w Y W R)(hj:j≤50000000):aa prog 56 #[.pointer (some ⟨Y.w,0,none⟩),.int .i64 n] w fun v w'=>v=.int .i64 ((W.up n).1:Nat)∧aT w0 m (j+18) w Y W R (W.up n).2 w':=by
 by_cases hn:n=0∨n=1
 case neg =>
  rw[show W.up n=(2,W) from if_pos zo];refine zN func56 ntmps56 ?_;apply aR<;>intro h1
  ·refine zE ?_;exact⟨rfl,aT.same h (Nat.le_refl _) (Nat.le_add_right _ _) (Ext.refl _ _)⟩
  ·refine aM (fun h1=>?_) (fun h1=>by omega);refine zE ?_;exact⟨rfl,aT.same h (Nat.le_refl _) (Nat.le_add_right _ _) (Ext.refl _ _)⟩
 have ig:=h.side hn;have px:=(h.ok.side hn).mr;cases hN:(W.side n).node with
 | some N =>
  rw[show W.up n=(11,W) by unfold WorldS.up;rw[if_neg zo,hN]];have hS:=(h.half hn).start;generalize va:cp (gT Y W R n)=S at hS;rw[xS hN]at hS;obtain⟨g,hg⟩:=qC (hS.get 1 rfl);refine zN func56 ntmps56 ?_;refine aM (fun h1=>absurd h1 zo) (fun _=>?_);refine aM (fun h1=>absurd h1 zo) (fun _=>?_);refine hS.ld 0 rfl (v:=.slice (some ⟨g,0,none⟩) 2 Y.nc) (by rw[←hg];rfl) ?_;refine ao.mk zo zo ?_;refine hS.jJ 1 hn (by rw[←hg];rfl) rfl ?_;refine zE ?_;exact⟨rfl,aT.same h (Nat.le_refl _) (Nat.le_add_right _ _) (Ext.refl _ _)⟩
 | none =>
  have hw:W.up n=if (d6 n (fD (W.side n).cw) W.rules).1≠0 then ((d6 n (fD (W.side n).cw) W.rules).1,W.ai n ⟨none,(d6 n (fD (W.side n).cw) W.rules).2.2⟩)
    else (0,W.ai n ⟨some (d6 n (fD (W.side n).cw) W.rules).2.1,(d6 n (fD (W.side n).cw) W.rules).2.2⟩):=by
   unfold WorldS.up;rw[if_neg zo,hN]
  have bR:=h.ok.up n;rw[hw]at bR ⊢;have hS:=(h.half hn).start;have hT:∀{w'} {A:cG} {s:bX} {B:el},fG w0 (j+18) A s B→dM m (W.ai n s)→St w (cp (gT Y W R n)) w' (kH Y W (two n (gi A s) (gi (Y.side (1-n)) (W.side (1-n)))) (two n (ei A) (ei (Y.side (1-n))))++nC A s B)→aT w0 m (j+18) w Y W R (W.ai n s) w':=fun {w'} {A} {s} {B} hs ok hS=>aT.set h hn (St.turns hS) ok (Nat.le_add_right _ _) hs
  generalize va:cp (gT Y W R n)=S at hS hT;rw[Ld hN]at hS;obtain⟨g,hg⟩:=qC (hS.get 1 rfl);obtain⟨g2,pD⟩:=qC (hS.get 2 rfl);generalize Cr:d6 n (fD (W.side n).cw) W.rules=Q at bR ⊢;refine zN func56 ntmps56 ?_;refine aM (fun h1=>absurd h1 zo) (fun _=>?_);refine aM (fun h1=>absurd h1 zo) (fun _=>?_);refine hS.ld 0 rfl (v:=.slice (some ⟨g,0,none⟩) 2 Y.nc) (by rw[←hg];rfl) ?_;refine ao.mk zo zo ?_;refine hS.jJ 1 hn (by rw[←hg];rfl) rfl ?_;refine hS.ld 0 rfl (v:=.slice (some ⟨g2,0,none⟩) 2 Y.bc) (by rw[←pD];rfl) ?_;refine ao.mk zo zo ?_;refine hS.jJ 2 hn (by rw[←pD];rfl) rfl ?_;refine(zwH (hS.blk 6 rfl)).mono ?_;rintro v w2 ⟨hx,hB⟩;replace hS:=hS.uB 6 hx hB;have hA:Alike ⟨(R.side n).data,false,(R.side n).left,false⟩ (fD (W.side n).cw):=⟨ig.alike.data,rfl,(fun h=>by cases h),fun _=>rfl⟩;have hR:mN ⟨(R.side n).data,false,(R.side n).left,false⟩ j:=⟨ig.oW.len,(fun h=>by cases h),ig.oW.lo,ig.oW.hi⟩;have jq:=hS.ne 0 6 rfl rfl zd;have zj:g2≠(Y.side n).b:=fun e=>hS.bS 2 6 rfl rfl zd g2 (nD (by rw[pD];rfl)) (by rw[e];exact List.mem_singleton.2 rfl)
  obtain⟨T,uu⟩:∃T:Nat→Prop,∀d,T d↔d=(Y.side n).b:=⟨fun d=>d=(Y.side n).b,fun _=>Iff.rfl⟩;(conv=>whnf);refine hS.dr [] (T) [0,1,2,3,4,5,6,7,8,9,10,11,12,13,14,15,16,17] fun w1 hS=>?_
  have hK:=hS.ref T;refine hS.bU 0 rfl (v:=.slice (some ⟨g2,0,none⟩) 2 Y.bc) (by rw[←pD];rfl) (fun ht=>jq ((uu _).1 ht)) ?_;refine ao.mk zo zo ?_;refine hS.kn 2 hn (by rw[←pD];rfl) rfl (fun ht=>zj ((uu _).1 ht)) ?_;refine hS.bU 0 rfl rfl (fun ht=>jq ((uu _).1 ht)) ?_;refine(My n hn (hS.blk 6 rfl) hA (M3 px) hR hj).mono ?_;rintro v w6 ⟨R',sM,u9,ib⟩;rw[Cr]at sM ib;rcases ib with⟨h0,A,sL,Cm,NM,rfl,hk⟩|⟨h0,rfl,hk,hB⟩
  ·rw[if_neg (fun h=>h h0)]at bR ⊢;replace hK:=hK.trans (hk.ext.mono fun d hd=>(uu d).2 (by obtain⟨e,he,hd⟩:=hd;obtain rfl:=List.mem_singleton.1 he;exact List.mem_singleton.1 hd));refine ae.mk hK ?_;have cT:=St.di (A:=[_,_,_,_,_,_]) (B:=[]) hS hk;refine cT.ld 0 rfl (v:=.slice (some ⟨g,0,none⟩) 2 Y.nc) (by rw[←hg];rfl) ?_;refine ao.mk zo zo ?_;refine cT.qv (r:=some ⟨A.n,0,none⟩) 1 hn (by rw[←hg];rfl) zo (fun w7 lj=>?_);refine zE ?_;have JU:Q.2.1.rules=W.rules:=by rw[←Cr];rfl
   refine⟨rfl,hT (A:=A) (s:=⟨some Q.2.1,Q.2.2⟩) (B:=R') ⟨sM,u9,fun N hN=>?_⟩ bR ?_⟩
   ·obtain rfl:=Option.some.inj hN;rw[Cm,JU];exact h.rules
   ·rw[show ei A=ei (Y.side n) by unfold ei;rw[sL]];rw[←hg]at lj;exact lj
  ·rw[if_pos h0]at bR ⊢;replace hK:=hK.trans (hk.mono fun d hd=>(uu d).2 hd);refine ae.mk hK ?_;have cT:=hS.uB 6 hk hB;refine cT.ld 0 rfl (v:=.slice (some ⟨g,0,none⟩) 2 Y.nc) (by rw[←hg];rfl) ?_;refine ao.mk zo zo ?_;refine cT.qv (r:=none) 1 hn (by rw[←hg];rfl) zo (fun w7 lj=>?_);refine zE ?_;refine⟨rfl,hT (A:=Y.side n) (s:=⟨none,Q.2.2⟩) (B:=R') ⟨sM,u9,fun N hN=>by cases hN⟩ bR ?_⟩;rw[←hg]at lj;exact lj
end
section
variable {Y:RWorldA}{W:WorldS}{R:e8}
theorem Zo (N:NodeS)(p:cC):(N.inside p).2.2.rules=N.rules:=by
 unfold NodeS.inside NodeS.begin NodeS.pass;repeat' split
 all_goals rfl
theorem YM (N:NodeS)(p:cC):(N.outside p).2.2.rules=N.rules:=by
 unfold NodeS.outside NodeS.pass;repeat' split
 all_goals rfl
theorem Gq (p:cC)(h:bg w0 m j w Y W R)(hm:m+1≤40000000):aa prog 52 #[.pointer (some ⟨Y.w,0,none⟩),.agg (iN p).toArray,.bool true] w fun v w'=>v=.tuple #[.agg (iN (W.inside p).2.1).toArray,.int .i64 ((W.inside p).1:Nat)]∧aT w0 (m+1) j w Y W R (W.inside p).2.2 w':=by
 by_cases hu:W.bM=0
 case neg =>
  rw[show W.inside p=(W.bM,i7,W) from if_pos hu];refine zN func52 ntmps52 ?_;have hS:=St.start w No;refine hS.new (fun bp w1 qe hS=>?_);refine hS.new (fun br w2 lr hS=>?_);refine(Gp (h.no hS.ext)).mono ?_;rintro v w3 ⟨rfl,rfl⟩;refine aM (fun _=>?_) (fun h1=>absurd (show W.bM=0 by omega) hu);refine hS.sT 1 fun w' hS=>?_
  refine hS.lX 1 ?_;refine zE ?_;exact⟨rfl,aT.same h (Nat.le_add_right _ _) (Nat.le_refl _) hS.ext⟩
 obtain⟨hn,N,hN⟩:=h.ok.hand hu;have oT:=((h.ok.side hn).node N hN).1
 have hw:W.inside p=((N.inside p).1,(N.inside p).2.1,W.ai W.to ⟨some (N.inside p).2.2,(W.side W.to).cw⟩):=by
  unfold WorldS.inside;rw[if_neg (fun h=>h hu),hN]
 have bR:=h.ok.inside p;rw[hw]at bR ⊢;have ig:=h.side hn;have lT:=ig.rules N hN;have od:=Zo N p
 have hT:∀{w'},St w (cp (gT Y W R W.to)) w' (kH Y W (two W.to (some ⟨(Y.side W.to).n,0,none⟩) (gi (Y.side (1-W.to)) (W.side (1-W.to)))) (two W.to (ei (Y.side W.to)) (ei (Y.side (1-W.to))))++dP (Y.side W.to) (N.inside p).2.2 (R.side W.to))→aT w0 (m+1) j w Y W R (W.ai W.to ⟨some (N.inside p).2.2,(W.side W.to).cw⟩) w':=fun {w'} hS =>
  aT.set h hn (A:=Y.side W.to) (s:=⟨some (N.inside p).2.2,(W.side W.to).cw⟩) (B:=R.side W.to) (St.turns hS) bR (Nat.le_refl _) ⟨ig.alike,ig.oW,fun M hM=>by
   obtain rfl:=Option.some.inj hM;rw[od];exact lT⟩
 have hS:=(h.half hn).start;have aX:∀{w2},St w (cp (gT Y W R W.to)) w2 (gT Y W R W.to)→bg w0 m j w2 Y W R:=fun hS=>h.turns (fH.world hn h.has (St.turns hS) rfl rfl rfl) h.ok h.rules h.a h.b
 have fU:∀b,cp (gT Y W R W.to) b→w0.heap.size≤b:=fun b hb=>h.new b (iF (Bw Y W R hn).symm (dJ.2 (.inl hb)))
 generalize va:cp (gT Y W R W.to)=S at hS hT aX;rw[xS hN]at hS aX fU;obtain⟨g,hg⟩:=qC (hS.get 1 rfl);refine zN func52 ntmps52 ?_;refine hS.new (fun bp w1 qe hS=>?_);refine hS.new (fun br w2 lr hS=>?_);have km:=aX (hS.keep 13);refine(Gp km).mono ?_;rintro v w3 ⟨rfl,rfl⟩;rw[hu];have jG:=hS.eU 0 6 7 rfl (List.mem_singleton.2 rfl) (.inl zd);have eE:=hS.eU 1 6 7 (b:=g) rfl (nD (by rw[hg];rfl)) (.inl zd);have hp:=hS.eU 13 6 7 rfl (List.mem_singleton.2 rfl) (.inr zd);have tK:=hS.ne 0 14 rfl rfl zd;have zO:g≠br:=fun e=>hS.bS 1 14 rfl rfl zd g (nD (by rw[hg];rfl)) (by rw[e];exact List.mem_singleton.2 rfl)
 have zB:=hS.ne 13 14 rfl rfl zd;generalize W.ai W.to ⟨some (N.inside p).2.2,(W.side W.to).cw⟩=W' at hT ⊢;have FR:eP w0 (Y.side W.to).ra N.rules.length N.rules:=lT;have NP:Ext No w0 w2:=km.ext;(conv=>whnf)
 (refine ir aj mixed [] (fun b=>cp (dP (Y.side W.to) N (R.side W.to)) b∨b=br) [0,1,2,3,4,5,6,7,8,9,10,11,12,13,14,15] zk ?_;rintro w1 rfl;replace hS:=hS.drew)
 have hK:=hS.ref (fun b=>cp (dP (Y.side W.to) N (R.side W.to)) b∨b=br);refine hS.bU 0 rfl (v:=.slice (some ⟨g,0,none⟩) 2 Y.nc) (by rw[←hg];rfl) (fun h=>h.elim jG tK) ?_;refine hS.bU 0 rfl rfl (fun h=>h.elim jG tK) ?_;refine ao.mk zo zo ?_;refine hS.kn 1 hn (by rw[←hg];rfl) rfl (fun h=>h.elim eE zO) ?_;refine hS.fK 13 rfl rfl (fun h=>h.elim hp zB) ?_;(conv=>whnf);have pM:Has _ (dP (Y.side W.to) N (R.side W.to)):=Has.left (B:=[_,_]) (Has.right (A:=[_,_,_,_,_,_]) hS.has);have qY:=FR.out (H:=dP (Y.side W.to) N (R.side W.to)) (fun b hb=>fU b (dJ.2 (.inr hb)));refine(zpi p pM oT hm (bQ.no FR (NP.trans (Ext.drawn _ _ _))) qY).mono ?_;rintro v w' ⟨rfl,hk⟩;replace hS:=St.di (A:=[_,_,_,_,_,_]) (B:=[_,_]) hS hk;replace hK:=hK.trans (hk.ext.mono fun b hb=>.inl hb);refine ae.mk hK ?_;refine hS.kD hK 14 rfl zl rfl (.inr rfl) (fun w' hK hS=>ae.mk hK ?_);refine hS.lX 14 ?_;refine zE ?_;exact⟨rfl,hT (hS.keep 13)⟩
theorem Gx (p:cC)(h:bg w0 m j w Y W R)(hm:m+1≤40000000):aa prog 52 #[.pointer (some ⟨Y.w,0,none⟩),.agg (iN p).toArray,.bool false] w fun v w'=>v=.tuple #[.agg (iN (W.outside p).2.1).toArray,.int .i64 ((W.outside p).1:Nat)]∧aT w0 (m+1) j w Y W R (W.outside p).2.2 w':=by
 by_cases hu:W.bM=0
 case neg =>
  rw[show W.outside p=(W.bM,i7,W) from if_pos hu];refine zN func52 ntmps52 ?_;have hS:=St.start w No;refine hS.new (fun bp w1 qe hS=>?_);refine hS.new (fun br w2 lr hS=>?_);refine(Gp (h.no hS.ext)).mono ?_;rintro v w3 ⟨rfl,rfl⟩;refine aM (fun _=>?_) (fun h1=>absurd (show W.bM=0 by omega) hu);refine hS.sT 1 fun w' hS=>?_
  refine hS.lX 1 ?_;refine zE ?_;exact⟨rfl,aT.same h (Nat.le_add_right _ _) (Nat.le_refl _) hS.ext⟩
 obtain⟨hn,N,hN⟩:=h.ok.hand hu;have oT:=((h.ok.side hn).node N hN).1
 have hw:W.outside p=((N.outside p).1,(N.outside p).2.1,W.ai W.to ⟨some (N.outside p).2.2,(W.side W.to).cw⟩):=by
  unfold WorldS.outside;rw[if_neg (fun h=>h hu),hN]
 have bR:=h.ok.outside p;rw[hw]at bR ⊢;have ig:=h.side hn;have lT:=ig.rules N hN;have od:=YM N p
 have hT:∀{w'},St w (cp (gT Y W R W.to)) w' (kH Y W (two W.to (some ⟨(Y.side W.to).n,0,none⟩) (gi (Y.side (1-W.to)) (W.side (1-W.to)))) (two W.to (ei (Y.side W.to)) (ei (Y.side (1-W.to))))++dP (Y.side W.to) (N.outside p).2.2 (R.side W.to))→aT w0 (m+1) j w Y W R (W.ai W.to ⟨some (N.outside p).2.2,(W.side W.to).cw⟩) w':=fun {w'} hS =>
  aT.set h hn (A:=Y.side W.to) (s:=⟨some (N.outside p).2.2,(W.side W.to).cw⟩) (B:=R.side W.to) (St.turns hS) bR (Nat.le_refl _) ⟨ig.alike,ig.oW,fun M hM=>by
   obtain rfl:=Option.some.inj hM;rw[od];exact lT⟩
 have hS:=(h.half hn).start;have aX:∀{w2},St w (cp (gT Y W R W.to)) w2 (gT Y W R W.to)→bg w0 m j w2 Y W R:=fun hS=>h.turns (fH.world hn h.has (St.turns hS) rfl rfl rfl) h.ok h.rules h.a h.b
 have fU:∀b,cp (gT Y W R W.to) b→w0.heap.size≤b:=fun b hb=>h.new b (iF (Bw Y W R hn).symm (dJ.2 (.inl hb)))
 generalize va:cp (gT Y W R W.to)=S at hS hT aX;rw[xS hN]at hS aX fU;obtain⟨g,hg⟩:=qC (hS.get 1 rfl);refine zN func52 ntmps52 ?_;refine hS.new (fun bp w1 qe hS=>?_);refine hS.new (fun br w2 lr hS=>?_);have km:=aX (hS.keep 13);refine(Gp km).mono ?_;rintro v w3 ⟨rfl,rfl⟩;rw[hu];have jG:=hS.eU 0 6 7 rfl (List.mem_singleton.2 rfl) (.inl zd);have eE:=hS.eU 1 6 7 (b:=g) rfl (nD (by rw[hg];rfl)) (.inl zd);have hp:=hS.eU 13 6 7 rfl (List.mem_singleton.2 rfl) (.inr zd);have tK:=hS.ne 0 14 rfl rfl zd;have zO:g≠br:=fun e=>hS.bS 1 14 rfl rfl zd g (nD (by rw[hg];rfl)) (by rw[e];exact List.mem_singleton.2 rfl)
 have zB:=hS.ne 13 14 rfl rfl zd;generalize W.ai W.to ⟨some (N.outside p).2.2,(W.side W.to).cw⟩=W' at hT ⊢;have FR:eP w0 (Y.side W.to).ra N.rules.length N.rules:=lT;have NP:Ext No w0 w2:=km.ext;(conv=>whnf);refine hS.dr [] (fun b=>cp (dP (Y.side W.to) N (R.side W.to)) b∨b=br) [0,1,2,3,4,5,6,7,8,9,10,11,12,13,14,15] fun w1 hS=>?_
 have hK:=hS.ref (fun b=>cp (dP (Y.side W.to) N (R.side W.to)) b∨b=br);refine hS.bU 0 rfl (v:=.slice (some ⟨g,0,none⟩) 2 Y.nc) (by rw[←hg];rfl) (fun h=>h.elim jG tK) ?_;refine hS.bU 0 rfl rfl (fun h=>h.elim jG tK) ?_;refine ao.mk zo zo ?_;refine hS.kn 1 hn (by rw[←hg];rfl) rfl (fun h=>h.elim eE zO) ?_;refine hS.fK 13 rfl rfl (fun h=>h.elim hp zB) ?_;(conv=>whnf);have pM:Has _ (dP (Y.side W.to) N (R.side W.to)):=Has.left (B:=[_,_]) (Has.right (A:=[_,_,_,_,_,_]) hS.has);have qY:=FR.out (H:=dP (Y.side W.to) N (R.side W.to)) (fun b hb=>fU b (dJ.2 (.inr hb)));refine(Zv p pM oT hm).mono ?_;rintro v w' ⟨rfl,hk⟩;replace hS:=St.di (A:=[_,_,_,_,_,_]) (B:=[_,_]) hS hk;replace hK:=hK.trans (hk.ext.mono fun b hb=>.inl hb);refine ae.mk hK ?_;refine hS.kD hK 14 rfl zl rfl (.inr rfl) (fun w' hK hS=>ae.mk hK ?_);refine hS.lX 14 ?_;refine zE ?_;exact⟨rfl,hT (hS.keep 13)⟩
end
section
variable {X:WorldA}{W:WorldS}
theorem Rz (k:Int)(h0:0≤k)(w:World):aa prog 153 #[.int .i64 k] w fun v w'=>v=.int .i64 (1+k.tmod 2)∧w=w':=by
 have h2:k.tmod 2=0∨k.tmod 2=1:=by rw[Int.tmod_eq_emod_of_nonneg h0];omega
 refine zN func153 ntmps153 ?_;refine bO.mk zd ?_;rcases h2 with h2|h2
 all_goals
  rw[h2];exact zH
theorem xI (p:cC)(f:Int)(w:World):aa prog 154 #[.agg (iN p).toArray,.int .i64 f] w fun v w'=>v=.agg (iN { p with flags:=if p.proto=2 then f else p.flags }).toArray∧Ext No w w':=by
 refine zN func154 ntmps154 ?_;have hS:=St.start w No;refine hS.new (fun b1 w1 lp hS=>?_);refine hS.new (fun b2 w2 jc hS=>?_);refine hS.lD 0 ?_;refine aM (fun h=>?_) (fun h=>?_)
 ·rw[if_pos h];refine hS.sT 0 fun w3 hS=>?_
  refine hS.lX 0 ?_;refine hS.sT 1 fun w4 hS=>?_
  refine hS.lX 1 ?_;repeat' first|refine zP ?_|apply aR<;>intro
  exact⟨rfl,hS.ext⟩
 ·rw[if_neg h];refine hS.lX 0 ?_;refine hS.sT 1 fun w4 hS=>?_
  refine hS.lX 1 ?_;exact zF
theorem GJ (k:Int)(h0:0≤k)(hk:k≤9223372036854775807)(w:World):aa prog 97 #[.int .i64 k] w fun v w'=>v=.agg (iN (ju k)).toArray∧Ext No w w':=by
 have h1:0≤k.tdiv 2∧k.tdiv 2≤k∧0≤k.tdiv 6∧k.tdiv 6≤k∧0≤k.tdiv 12∧k.tdiv 12≤k:=by
  rw[Int.tdiv_eq_ediv_of_nonneg h0,Int.tdiv_eq_ediv_of_nonneg h0,Int.tdiv_eq_ediv_of_nonneg h0];omega
 have h2:0≤(k.tdiv 2).tmod 3∧(k.tdiv 2).tmod 3<3:=by rw[Int.tmod_eq_emod_of_nonneg h1.1];omega
 have h6:0≤(k.tdiv 6).tmod 2∧(k.tdiv 6).tmod 2<2:=by rw[Int.tmod_eq_emod_of_nonneg h1.2.2.1];omega
 have fS:(k.tdiv 12).tmod 4=0∨(k.tdiv 12).tmod 4=1∨(k.tdiv 12).tmod 4=2∨(k.tdiv 12).tmod 4=3:=by rw[Int.tmod_eq_emod_of_nonneg h1.2.2.2.2.1];omega
 refine zN func97 ntmps97 ?_;have hS:=St.start w No;refine hS.new (fun b1 w1 lp hS=>?_);refine(Rz k h0 _).mono ?_;rintro v w2 ⟨rfl,rfl⟩;repeat' ((conv=>whnf);first|apply aI.mk|refine bO.mk zd ?_|refine ag.mk zo zo ?_|refine ao.mk zo zo ?_|refine hS.new (fun b2 w3 jc hS=>?_)|(first|apply aM|apply ca|apply cE|apply cD)<;>(intro))
 refine hS.st 1 rfl zl rfl (fun w4 hS=>?_);have cj:=hS.ne 1 0 rfl rfl zd;(conv=>whnf);refine hS.dr [] (fun b=>b=b1) [0,1,2,3,4,5,6,7] fun w1 hS=>?_
 have hK:=hS.ref (fun b=>b=b1);refine hS.fK 1 rfl rfl cj ?_;refine aB.of (v:=.agg #[.int .i64 1,.int .i64 2,.int .i64 6,.int .i64 8]) (fun w=>zk) ?_;refine bO.mk zd ?_;refine ag.mk zo zo ?_;refine bO.mk zd ?_;have cx:∀f,BK [1,2,6,8] ((k.tdiv 12).tmod 4)=f→(ju k)={ (⟨1+k.tmod 2,10+(k.tdiv 2).tmod 3,100,77,80+(k.tdiv 6).tmod 2,0⟩:cC) with flags:=if 1+k.tmod 2=2 then f else 0 }:=fun f hf=>by subst hf;rfl
 rcases fS with fS|fS|fS|fS
 ·skip
  rw[fS]at cx ⊢;refine aB.of (v:=.int .i64 1) (fun w=>zk) ?_;refine(xI ⟨_,_,_,_,_,_⟩ _ _).mono ?_;rintro v w5 ⟨rfl,hx⟩;replace hS:=hS.no hx;replace hK:=hK.trans hx.aF;refine ae.mk hK ?_;rw[cx 1 rfl];refine hS.kD hK 0 rfl zl rfl rfl (fun w' hK hS=>ae.mk hK ?_);refine hS.lX 0 ?_;exact zF
 ·skip
  rw[fS]at cx ⊢;refine aB.of (v:=.int .i64 2) (fun w=>zk) ?_;refine(xI ⟨_,_,_,_,_,_⟩ _ _).mono ?_;rintro v w5 ⟨rfl,hx⟩;replace hS:=hS.no hx;replace hK:=hK.trans hx.aF;refine ae.mk hK ?_;rw[cx 2 rfl];refine hS.kD hK 0 rfl zl rfl rfl (fun w' hK hS=>ae.mk hK ?_);refine hS.lX 0 ?_;exact zF
 ·skip
  rw[fS]at cx ⊢;refine aB.of (v:=.int .i64 6) (fun w=>zk) ?_;refine(xI ⟨_,_,_,_,_,_⟩ _ _).mono ?_;rintro v w5 ⟨rfl,hx⟩;replace hS:=hS.no hx;replace hK:=hK.trans hx.aF;refine ae.mk hK ?_;rw[cx 6 rfl];refine hS.kD hK 0 rfl zl rfl rfl (fun w' hK hS=>ae.mk hK ?_);refine hS.lX 0 ?_;exact zF
 ·skip
  rw[fS]at cx ⊢;refine aB.of (v:=.int .i64 8) (fun w=>zk) ?_;refine(xI ⟨_,_,_,_,_,_⟩ _ _).mono ?_;rintro v w5 ⟨rfl,hx⟩;replace hS:=hS.no hx;replace hK:=hK.trans hx.aF;refine ae.mk hK ?_;rw[cx 8 rfl];refine hS.kD hK 0 rfl zl rfl rfl (fun w' hK hS=>ae.mk hK ?_);refine hS.lX 0 ?_;exact zF
theorem Gn (k:Int)(h0:0≤k)(hk:k≤9223372036854775807)(w:World):aa prog 99 #[.int .i64 k] w fun v w'=>v=.agg (iN (jv k)).toArray∧Ext No w w':=by
 have h1:0≤k.tdiv 2∧k.tdiv 2≤k∧0≤k.tdiv 4∧k.tdiv 4≤k:=by
  rw[Int.tdiv_eq_ediv_of_nonneg h0,Int.tdiv_eq_ediv_of_nonneg h0];omega
 have h2:0≤(k.tdiv 2).tmod 2∧(k.tdiv 2).tmod 2<2:=by rw[Int.tmod_eq_emod_of_nonneg h1.1];omega
 have h6:0≤(k.tdiv 4).tmod 48∧(k.tdiv 4).tmod 48<48:=by rw[Int.tmod_eq_emod_of_nonneg h1.2.2.1];omega
 have fS:(k.tdiv 4).tmod 4=0∨(k.tdiv 4).tmod 4=1∨(k.tdiv 4).tmod 4=2∨(k.tdiv 4).tmod 4=3:=by rw[Int.tmod_eq_emod_of_nonneg h1.2.2.1];omega
 refine zN func99 ntmps99 ?_;have hS:=St.start w No;refine hS.new (fun b1 w1 lp hS=>?_);refine(Rz k h0 _).mono ?_;rintro v w2 ⟨rfl,rfl⟩;repeat' ((conv=>whnf);first|apply aI.mk|refine bO.mk zd ?_|refine ag.mk zo zo ?_|refine ao.mk zo zo ?_|refine hS.new (fun b2 w3 jc hS=>?_)|(first|apply aM|apply ca|apply cE|apply cD)<;>(intro))
 refine hS.st 1 rfl zl rfl (fun w4 hS=>?_);have cj:=hS.ne 1 0 rfl rfl zd;(conv=>whnf);refine hS.dr [] (fun b=>b=b1) [0,1,2,3,4,5,6,7] fun w1 hS=>?_
 have hK:=hS.ref (fun b=>b=b1);refine hS.fK 1 rfl rfl cj ?_;refine aB.of (v:=.agg #[.int .i64 3,.int .i64 2,.int .i64 6,.int .i64 8]) (fun w=>zk) ?_;refine bO.mk zd ?_;refine ag.mk zo zo ?_;refine bO.mk zd ?_;have cx:∀f,BK [3,2,6,8] ((k.tdiv 4).tmod 4)=f→(jv k)={ (⟨1+k.tmod 2,77,80+(k.tdiv 2).tmod 2,1,2000+(k.tdiv 4).tmod 48,0⟩:cC) with flags:=if 1+k.tmod 2=2 then f else 0 }:=fun f hf=>by subst hf;rfl
 rcases fS with fS|fS|fS|fS
 ·skip
  rw[fS]at cx ⊢;refine aB.of (v:=.int .i64 3) (fun w=>zk) ?_;refine(xI ⟨_,_,_,_,_,_⟩ _ _).mono ?_;rintro v w5 ⟨rfl,hx⟩;replace hS:=hS.no hx;replace hK:=hK.trans hx.aF;refine ae.mk hK ?_;rw[cx 3 rfl];refine hS.kD hK 0 rfl zl rfl rfl (fun w' hK hS=>ae.mk hK ?_);refine hS.lX 0 ?_;exact zF
 ·skip
  rw[fS]at cx ⊢;refine aB.of (v:=.int .i64 2) (fun w=>zk) ?_;refine(xI ⟨_,_,_,_,_,_⟩ _ _).mono ?_;rintro v w5 ⟨rfl,hx⟩;replace hS:=hS.no hx;replace hK:=hK.trans hx.aF;refine ae.mk hK ?_;rw[cx 2 rfl];refine hS.kD hK 0 rfl zl rfl rfl (fun w' hK hS=>ae.mk hK ?_);refine hS.lX 0 ?_;exact zF
 ·skip
  rw[fS]at cx ⊢;refine aB.of (v:=.int .i64 6) (fun w=>zk) ?_;refine(xI ⟨_,_,_,_,_,_⟩ _ _).mono ?_;rintro v w5 ⟨rfl,hx⟩;replace hS:=hS.no hx;replace hK:=hK.trans hx.aF;refine ae.mk hK ?_;rw[cx 6 rfl];refine hS.kD hK 0 rfl zl rfl rfl (fun w' hK hS=>ae.mk hK ?_);refine hS.lX 0 ?_;exact zF
 ·skip
  rw[fS]at cx ⊢;refine aB.of (v:=.int .i64 8) (fun w=>zk) ?_;refine(xI ⟨_,_,_,_,_,_⟩ _ _).mono ?_;rintro v w5 ⟨rfl,hx⟩;replace hS:=hS.no hx;replace hK:=hK.trans hx.aF;refine ae.mk hK ?_;rw[cx 8 rfl];refine hS.kD hK 0 rfl zl rfl rfl (fun w' hK hS=>ae.mk hK ?_);refine hS.lX 0 ?_;exact zF
end
section
variable {X:WorldA}{W:WorldS}
abbrev Does (E:Nat→Addr)(w:World)(X:WorldA)(W:WorldS)(r:Nat × WorldS)(v:Value)(w':World):Prop:=v=gC E r.1∧∃X',X'.w=X.w∧ak w w' (cQ X W) (cQ X' r.2)
theorem RA (n:Int)(k:Nat)(h:bH E q m w X W)(hm:m+34*k≤40000000):aa prog 95 #[.pointer (some ⟨X.w,0,none⟩),.int .i64 n,.int .i64 (k:Int)] w (Does E w X W (W.dO n k)):=by
 refine zN func95 ntmps95 ?_
 refine d5 aj (fun σ w' r=>∃(i:Nat) (X':WorldA) (W':WorldS),σ=[(9,.int .i64 i),(8,.int .i64 (k:Int)),(1,.int .i64 n),(0,.pointer (some ⟨X.w,0,none⟩))]∧r=k-i∧i≤k∧X'.w=X.w∧bH E q (m+34*i) w' X' W'∧ak w w' (cQ X W) (cQ X' W')∧W.dO n k=W'.dO n (k-i))
  (σ':=[(9,.int .i64 ((0:Nat):Int)),(8,.int .i64 (k:Int)),(1,.int .i64 n),(0,.pointer (some ⟨X.w,0,none⟩))]) (n:=k) zs ⟨0,X,W,rfl,rfl,Nat.zero_le _,rfl,h,ak.refl h.has,rfl⟩ ?_
 rintro _ w1 r ⟨i,X',W',rfl,rfl,hi,hw,aX,hT,hr⟩;apply aR<;>intro h3
 ·obtain⟨j,hj⟩:∃j,k-i=j+1:=⟨k-i-1,by omega⟩;rw[hj]at hr;(conv=>whnf);rw[←hw];refine(EH n aX zo).mono ?_;rintro v w2 ⟨rfl,X2,gw,jX⟩;have km:=aX.turns jX (aX.ok.tick zo n);have NW:=hT.trans jX;cases he:(W'.tick n).1 with
  | zero =>
   have zL:W.dO n k=(W'.tick n).2.dO n j:=by
    rw[hr];show(if (W'.tick n).1≠0 then _ else _)=_;rw[if_neg (fun h=>h he)]
   refine ag.mk zo zo ?_;refine aD.mk ⟨_,[(9,.int .i64 ((i+1:Nat):Int)),(8,_),(1,_),(0,_)],?_,zs,⟨i+1,X2,(W'.tick n).2,rfl,rfl,by omega,gw,km,NW,by rw[zL];congr 1;omega⟩⟩;omega
  | succ e =>
   have zL:W.dO n k=W'.tick n:=by
    rw[hr];show(if (W'.tick n).1≠0 then _ else _)=_;rw[if_pos (by rw[he];exact Nat.succ_ne_zero e)]
   refine zE ?_;rw[zL];exact⟨by rw[he],X2,gw.trans hw,NW⟩
 ·obtain rfl:i=k:=by omega
  rw[Nat.sub_self]at hr;refine zE ?_;rw[hr];exact⟨rfl,X',hw,hT⟩
theorem UI {v:Int}(h0:0≤v):∃j:Nat,j<16∧v.tmod 16=j:=⟨(v.tmod 16).toNat,by rw[Int.tmod_eq_emod_of_nonneg h0];omega,by rw[Int.tmod_eq_emod_of_nonneg h0];omega⟩
set_option maxHeartbeats 4000000 in
set_option maxRecDepth 10000 in
theorem zwB (v:Int)(h0:0≤v)(hv:v≤9223372036854775807)(h:bH E q m w X W)(hm:m+340≤40000000):aa prog 39 #[.pointer (some ⟨X.w,0,none⟩),.int .i64 v] w (Does E w X W (W.one v)):=by
 have ef:∀b,cp (cQ X W) b→q≤b:=h.high;obtain⟨j,hj,he⟩:=UI h0
 have lE:0≤v.tdiv 16∧v.tdiv 16≤v:=by
  rw[Int.tdiv_eq_ediv_of_nonneg h0];omega
 have cZ:=h.ok.aN;generalize eR:v.tdiv 16=k at lE;have iw:0≤k.tmod 2∧k.tmod 2<2:=by rw[Int.tmod_eq_emod_of_nonneg lE.1];omega
 have Ju:0≤k.tdiv 2∧k.tdiv 2≤k:=by
  rw[Int.tdiv_eq_ediv_of_nonneg lE.1];omega
 have Js:0≤(k.tdiv 2).tmod 30∧(k.tdiv 2).tmod 30<30:=by rw[Int.tmod_eq_emod_of_nonneg Ju.1];omega
 refine r5 aj func39 zk rfl ntmps39 zl ?_;have hS:=h.has.start;(conv=>whnf);refine bO.mk zd ?_;rw[eR];refine ag.mk zo zo ?_;(conv=>whnf);refine bO.mk zd ?_;rw[he];have C3:j=0∨j=1∨j=2∨j=3∨j=4∨j=5∨j=6∨j=7∨j=8∨j=9∨j=10∨j=11∨j=12∨j=13∨j=14∨j=15:=by omega
 by_cases hf:W.aN.length=0
 ·by_cases h5:j<5
  ·have aG:W.one v=(4,W):=by
    unfold WorldS.one;rw[if_pos ⟨by rw[he];omega,hf⟩]
   rw[aG];have pE:j=0∨j=1∨j=2∨j=3∨j=4:=by omega
   clear C3;rcases pE with rfl|rfl|rfl|rfl|rfl
   all_goals
    (conv=>whnf);refine(t8 h.has).mono ?_;rintro v w1 ⟨rfl,rfl⟩;rw[hf];repeat' first|refine zP ?_|refine hS.cK (h.eD.at_ 4 rfl) (bF.out h.eD 4 rfl ef) ?_|apply aR<;>intro
    exact⟨rfl,X,rfl,ak.refl h.has⟩
  ·have pE:j=5∨j=6∨j=7∨j=8∨j=9∨j=10∨j=11∨j=12∨j=13∨j=14∨j=15:=by omega
   clear C3;rcases pE with rfl|rfl|rfl|rfl|rfl|rfl|rfl|rfl|rfl|rfl|rfl
   ·skip
    have aG:W.one v=W.tick (k.tmod 2):=by simp[WorldS.one,he,eR]
    rw[aG];repeat' first|refine zP ?_|(refine(EH _ h zo).mono ?_;rintro v1 w1 ⟨rfl,hX⟩)|apply aR<;>intro
    exact⟨rfl,hX⟩
   ·skip
    have aG:W.one v=W.tick (k.tmod 2):=by simp[WorldS.one,he,eR]
    rw[aG];repeat' first|refine zP ?_|(refine(EH _ h zo).mono ?_;rintro v1 w1 ⟨rfl,hX⟩)|apply aR<;>intro
    exact⟨rfl,hX⟩
   ·skip
    have aG:W.one v=W.dO (k.tmod 2) 10:=by simp[WorldS.one,he,eR]
    rw[aG];repeat' first|refine zP ?_|(refine(RA _ 10 h zo).mono ?_;rintro v1 w1 ⟨rfl,hX⟩)|apply aR<;>intro
    exact⟨rfl,hX⟩
   ·skip
    have aG:W.one v=((W.inside (ju k)).1,(W.inside (ju k)).2.2):=by simp[WorldS.one,he,eR]
    rw[aG];(conv=>whnf);refine(GJ k lE.1 zo _).mono ?_;rintro v1 w1 ⟨rfl,hx⟩;(conv=>whnf);refine(GU (ju k) (h.no hx) zo).mono ?_;rintro v1 w2 ⟨rfl,hT⟩;repeat' first|refine zP ?_|apply aR<;>intro
    exact⟨rfl,X,rfl,(ak.aF h.has hx).trans hT⟩
   ·skip
    have aG:W.one v=((W.inside (ju k)).1,(W.inside (ju k)).2.2):=by simp[WorldS.one,he,eR]
    rw[aG];(conv=>whnf);refine(GJ k lE.1 zo _).mono ?_;rintro v1 w1 ⟨rfl,hx⟩;(conv=>whnf);refine(GU (ju k) (h.no hx) zo).mono ?_;rintro v1 w2 ⟨rfl,hT⟩;repeat' first|refine zP ?_|apply aR<;>intro
    exact⟨rfl,X,rfl,(ak.aF h.has hx).trans hT⟩
   ·skip
    have aG:W.one v=((W.outside (jv k)).1,(W.outside (jv k)).2.2):=by simp[WorldS.one,he,eR]
    rw[aG];(conv=>whnf);refine(Gn k lE.1 zo _).mono ?_;rintro v1 w1 ⟨rfl,hx⟩;(conv=>whnf);refine(Gj (jv k) (h.no hx) zo).mono ?_;rintro v1 w2 ⟨rfl,hT⟩;repeat' first|refine zP ?_|apply aR<;>intro
    exact⟨rfl,X,rfl,(ak.aF h.has hx).trans hT⟩
   ·skip
    have aG:W.one v=((W.outside (jv k)).1,(W.outside (jv k)).2.2):=by simp[WorldS.one,he,eR]
    rw[aG];(conv=>whnf);refine(Gn k lE.1 zo _).mono ?_;rintro v1 w1 ⟨rfl,hx⟩;(conv=>whnf);refine(Gj (jv k) (h.no hx) zo).mono ?_;rintro v1 w2 ⟨rfl,hT⟩;repeat' first|refine zP ?_|apply aR<;>intro
    exact⟨rfl,X,rfl,(ak.aF h.has hx).trans hT⟩
   ·skip
    have aG:W.one v=W.down (k.tmod 2):=by simp[WorldS.one,he,eR]
    rw[aG];repeat' first|refine zP ?_|(refine(Td _ h).mono ?_;rintro v1 w1 ⟨rfl,hX⟩)|apply aR<;>intro
    exact⟨rfl,X,rfl,hX⟩
   ·skip
    have aG:W.one v=W.up (k.tmod 2):=by simp[WorldS.one,he,eR]
    rw[aG];repeat' ((conv=>whnf);first|apply aI.mk|refine bO.mk zd ?_|refine ag.mk zo zo ?_|refine ao.mk zo zo ?_|(refine(Tc _ h).mono ?_;rintro v1 w1 ⟨rfl,hX⟩)|(first|apply aM|apply ca|apply cE|apply cD)<;>(intro))
    exact⟨rfl,hX⟩
   ·skip
    have aG:W.one v=W.cut (k.tmod 2) ((k.tdiv 2).tmod 30):=by simp[WorldS.one,he,eR]
    rw[aG];repeat' ((conv=>whnf);first|apply aI.mk|refine bO.mk zd ?_|refine ag.mk zo zo ?_|refine ao.mk zo zo ?_|(refine(Ua _ _ h).mono ?_;rintro v1 w1 ⟨rfl,hX⟩)|(first|apply aM|apply ca|apply cE|apply cD)<;>(intro))
    exact⟨rfl,X,rfl,hX⟩
   ·have aG:W.one v=(0,W):=by simp[WorldS.one,he]
    rw[aG];repeat' first|refine zP ?_|apply aR<;>intro
    exact⟨rfl,X,rfl,ak.refl h.has⟩
 ·have pE:j=0∨j=1∨j=2∨j=3∨j=4∨(j=5∨j=6∨j=7∨j=8∨j=9∨j=10∨j=11∨j=12∨j=13∨j=14∨j=15):=by omega
  clear C3;rcases pE with rfl|rfl|rfl|rfl|rfl|pE
  ·skip
   have aG:W.one v=W.cq (k.tmod W.aN.length):=by simp[WorldS.one,he,eR,hf]
   rw[aG];(conv=>whnf);refine(t8 h.has).mono ?_;rintro v1 w1 ⟨rfl,rfl⟩;(conv=>whnf);refine aM (fun h5=>absurd (show W.aN.length=0 by omega) hf) (fun _=>?_);(conv=>whnf);refine(t8 h.has).mono ?_;rintro v1 w1 ⟨rfl,rfl⟩;(conv=>whnf);refine bO.mk zo ?_;(conv=>whnf);refine(K3 _ h).mono ?_;rintro v1 w1 ⟨rfl,hX⟩;repeat' first|refine zP ?_|apply aR<;>intro
   exact⟨rfl,hX⟩
  ·skip
   have aG:W.one v=W.cq (k.tmod W.aN.length):=by simp[WorldS.one,he,eR,hf]
   rw[aG];(conv=>whnf);refine(t8 h.has).mono ?_;rintro v1 w1 ⟨rfl,rfl⟩;(conv=>whnf);refine aM (fun h5=>absurd (show W.aN.length=0 by omega) hf) (fun _=>?_);(conv=>whnf);refine(t8 h.has).mono ?_;rintro v1 w1 ⟨rfl,rfl⟩;(conv=>whnf);refine bO.mk zo ?_;(conv=>whnf);refine(K3 _ h).mono ?_;rintro v1 w1 ⟨rfl,hX⟩;repeat' first|refine zP ?_|apply aR<;>intro
   exact⟨rfl,hX⟩
  ·skip
   have aG:W.one v=W.cq (k.tmod W.aN.length):=by simp[WorldS.one,he,eR,hf]
   rw[aG];(conv=>whnf);refine(t8 h.has).mono ?_;rintro v1 w1 ⟨rfl,rfl⟩;(conv=>whnf);refine aM (fun h5=>absurd (show W.aN.length=0 by omega) hf) (fun _=>?_);(conv=>whnf);refine(t8 h.has).mono ?_;rintro v1 w1 ⟨rfl,rfl⟩;(conv=>whnf);refine bO.mk zo ?_;(conv=>whnf);refine(K3 _ h).mono ?_;rintro v1 w1 ⟨rfl,hX⟩;repeat' first|refine zP ?_|apply aR<;>intro
   exact⟨rfl,hX⟩
  ·skip
   have aG:W.one v=W.drop (k.tmod W.aN.length):=by simp[WorldS.one,he,eR,hf]
   rw[aG];(conv=>whnf);refine(t8 h.has).mono ?_;rintro v1 w1 ⟨rfl,rfl⟩;(conv=>whnf);refine aM (fun h5=>absurd (show W.aN.length=0 by omega) hf) (fun _=>?_);(conv=>whnf);refine(t8 h.has).mono ?_;rintro v1 w1 ⟨rfl,rfl⟩;(conv=>whnf);refine bO.mk zo ?_;(conv=>whnf);refine(zvd _ h).mono ?_;rintro v1 w1 ⟨rfl,hX⟩;repeat' first|refine zP ?_|apply aR<;>intro
   exact⟨rfl,hX⟩
  ·skip
   have aG:W.one v=W.dw (k.tmod W.aN.length):=by simp[WorldS.one,he,eR,hf]
   rw[aG];(conv=>whnf);refine(t8 h.has).mono ?_;rintro v1 w1 ⟨rfl,rfl⟩;(conv=>whnf);refine aM (fun h5=>absurd (show W.aN.length=0 by omega) hf) (fun _=>?_);(conv=>whnf);refine(t8 h.has).mono ?_;rintro v1 w1 ⟨rfl,rfl⟩;(conv=>whnf);refine bO.mk zo ?_;(conv=>whnf);refine(zsj _ h).mono ?_;rintro v1 w1 ⟨rfl,hX⟩;repeat' first|refine zP ?_|apply aR<;>intro
   exact⟨rfl,hX⟩
  ·skip
   rcases pE with rfl|rfl|rfl|rfl|rfl|rfl|rfl|rfl|rfl|rfl|rfl
   ·skip
    have aG:W.one v=W.tick (k.tmod 2):=by simp[WorldS.one,he,eR]
    rw[aG];repeat' first|refine zP ?_|(refine(EH _ h zo).mono ?_;rintro v1 w1 ⟨rfl,hX⟩)|apply aR<;>intro
    exact⟨rfl,hX⟩
   ·skip
    have aG:W.one v=W.tick (k.tmod 2):=by simp[WorldS.one,he,eR]
    rw[aG];repeat' first|refine zP ?_|(refine(EH _ h zo).mono ?_;rintro v1 w1 ⟨rfl,hX⟩)|apply aR<;>intro
    exact⟨rfl,hX⟩
   ·skip
    have aG:W.one v=W.dO (k.tmod 2) 10:=by simp[WorldS.one,he,eR]
    rw[aG];repeat' first|refine zP ?_|(refine(RA _ 10 h zo).mono ?_;rintro v1 w1 ⟨rfl,hX⟩)|apply aR<;>intro
    exact⟨rfl,hX⟩
   ·skip
    have aG:W.one v=((W.inside (ju k)).1,(W.inside (ju k)).2.2):=by simp[WorldS.one,he,eR]
    rw[aG];(conv=>whnf);refine(GJ k lE.1 zo _).mono ?_;rintro v1 w1 ⟨rfl,hx⟩;(conv=>whnf);refine(GU (ju k) (h.no hx) zo).mono ?_;rintro v1 w2 ⟨rfl,hT⟩;repeat' first|refine zP ?_|apply aR<;>intro
    exact⟨rfl,X,rfl,(ak.aF h.has hx).trans hT⟩
   ·skip
    have aG:W.one v=((W.inside (ju k)).1,(W.inside (ju k)).2.2):=by simp[WorldS.one,he,eR]
    rw[aG];(conv=>whnf);refine(GJ k lE.1 zo _).mono ?_;rintro v1 w1 ⟨rfl,hx⟩;(conv=>whnf);refine(GU (ju k) (h.no hx) zo).mono ?_;rintro v1 w2 ⟨rfl,hT⟩;repeat' first|refine zP ?_|apply aR<;>intro
    exact⟨rfl,X,rfl,(ak.aF h.has hx).trans hT⟩
   ·skip
    have aG:W.one v=((W.outside (jv k)).1,(W.outside (jv k)).2.2):=by simp[WorldS.one,he,eR]
    rw[aG];(conv=>whnf);refine(Gn k lE.1 zo _).mono ?_;rintro v1 w1 ⟨rfl,hx⟩;(conv=>whnf);refine(Gj (jv k) (h.no hx) zo).mono ?_;rintro v1 w2 ⟨rfl,hT⟩;repeat' first|refine zP ?_|apply aR<;>intro
    exact⟨rfl,X,rfl,(ak.aF h.has hx).trans hT⟩
   ·skip
    have aG:W.one v=((W.outside (jv k)).1,(W.outside (jv k)).2.2):=by simp[WorldS.one,he,eR]
    rw[aG];(conv=>whnf);refine(Gn k lE.1 zo _).mono ?_;rintro v1 w1 ⟨rfl,hx⟩;(conv=>whnf);refine(Gj (jv k) (h.no hx) zo).mono ?_;rintro v1 w2 ⟨rfl,hT⟩;repeat' first|refine zP ?_|apply aR<;>intro
    exact⟨rfl,X,rfl,(ak.aF h.has hx).trans hT⟩
   ·skip
    have aG:W.one v=W.down (k.tmod 2):=by simp[WorldS.one,he,eR]
    rw[aG];repeat' first|refine zP ?_|(refine(Td _ h).mono ?_;rintro v1 w1 ⟨rfl,hX⟩)|apply aR<;>intro
    exact⟨rfl,X,rfl,hX⟩
   ·skip
    have aG:W.one v=W.up (k.tmod 2):=by simp[WorldS.one,he,eR]
    rw[aG];repeat' ((conv=>whnf);first|apply aI.mk|refine bO.mk zd ?_|refine ag.mk zo zo ?_|refine ao.mk zo zo ?_|(refine(Tc _ h).mono ?_;rintro v1 w1 ⟨rfl,hX⟩)|(first|apply aM|apply ca|apply cE|apply cD)<;>(intro))
    exact⟨rfl,hX⟩
   ·skip
    have aG:W.one v=W.cut (k.tmod 2) ((k.tdiv 2).tmod 30):=by simp[WorldS.one,he,eR]
    rw[aG];repeat' ((conv=>whnf);first|apply aI.mk|refine bO.mk zd ?_|refine ag.mk zo zo ?_|refine ao.mk zo zo ?_|(refine(Ua _ _ h).mono ?_;rintro v1 w1 ⟨rfl,hX⟩)|(first|apply aM|apply ca|apply cE|apply cD)<;>(intro))
    exact⟨rfl,X,rfl,hX⟩
   ·have aG:W.one v=(0,W):=by simp[WorldS.one,he]
    rw[aG];repeat' first|refine zP ?_|apply aR<;>intro
    exact⟨rfl,X,rfl,ak.refl h.has⟩
end
def WorldS.say (W:WorldS)(v:Int):Int × WorldS:=if v<0 then (-1,W) else (((W.one v).1:Nat),(W.one v).2)
theorem EG (W:WorldS)(v:Int)(l:List Int):W.run (v::l)=((W.say v).1::((W.say v).2.run l).1,((W.say v).2.run l).2):=by
 unfold WorldS.say;show(if v<0 then _ else _)=_;split<;>rfl
theorem TS:∀(a b:List Int) (W:WorldS),W.run (a++b)=((W.run a).1++((W.run a).2.run b).1,((W.run a).2.run b).2)
 | [],b,W=>rfl
 | v::a,b,W=>by
  rw[List.cons_append,EG,EG,TS a b];rfl
theorem MM:∀(a:List Int) (W:WorldS),(W.run a).1.length=a.length
 | [],_=>rfl
 | v::a,W=>by
  rw[EG];show((W.say v).2.run a).1.length+1=_;rw[MM a];rfl
theorem zyM {W:WorldS}(h:dM m W)(hm:m+340≤40000000)(v:Int):dM (m+340) (W.say v).2:=by
 unfold WorldS.say;split
 ·exact h.mono zo
 ·exact zyC h hm v
theorem S5 {W:WorldS}{l:List Int}{k:Nat}{v:Int}(h:l[k]?=some v):W.run (l.take (k+1))=((W.run (l.take k)).1++[((W.run (l.take k)).2.say v).1],((W.run (l.take k)).2.say v).2):=by
 rw[List.take_add_one,h];show W.run (l.take k++[v])=_;rw[TS,EG];rfl
theorem MN:∀(l:List Int) {m:Nat} {W:WorldS},dM m W→m+l.length*340≤40000000→dM (m+l.length*340) (W.run l).2
 | [],_,_,h,_=>h.mono (Nat.le_add_right _ _)
 | v::l,m,W,h,hm=>by
  have e:(v::l).length=l.length+1:=rfl;generalize (v::l).length=z at e hm ⊢;subst e;rw[EG];exact(MN l (zyM h zo v) zo).mono zo
section
variable {X:WorldA}{W:WorldS}
theorem ztM {P:Program}{α:Type}{sz:Nat}{enc:α→List Value}{G:α→Prop}  {n:Nat}{xs:List α}{t:TypeId}{q:IntKind}{i:Int}{k:Value→Prop}(hx:bQ w sz enc G a n xs)(ux:n≤c)(hu:P.underlying t=some (.slice e))(he:(P.info? e).isSome=true)(hi:i=(n:Int))
  (hk:∀a' c',(0<n→a'=a)→bQ w sz enc G a' n xs→k (.slice a' n c')):aB P (Instr.sliceAt t (.slice a n c) none (some (.int q i)) none) k:=by
 subst hi;have ht:P.underlying t=some (.slice (P.elem t)):=by rw[oY hu];exact hu
 have xl:0<n→(if c=0 then a else a.map (·.add 0))=a:=fun h0=>by
  obtain⟨x,ij⟩:∃x,xs[0]?=some x:=⟨_,List.getElem?_eq_getElem (by rw[hx.len];exact h0)⟩;obtain⟨b,o,rfl,_⟩:=hx.cells 0 x ij;split<;>rfl
 refine aB.of (v:=.slice (if c=0 then a else a.map (·.add 0)) n c) (fun w=>?_) (hk _ _ xl ?_)
 ·rw[run_sliceAt_slice w t _ _ _ _ ht,run_slice_h w t a n c ht q _ zo zo,oY hu,ny he];simp[sliced]
 ·have:=hx.take n (Nat.le_refl _) _ xl
  rwa [List.take_of_length_le (by rw[hx.len];exact Nat.le_refl _)]at this
structure nK (E:Nat→Addr)(q:Nat)(w:World):Prop where
 eD:bF w E q cH
 handle:Handle w
 lt:11<q
theorem nK.turns {H':List bZ}(h:nK E q w)(hH:d7 H q)(k:ak w w' H H'):nK E q w' :=
 ⟨h.eD.turns hH k,k.ext.cell h.handle (fun hb=>by have:=hH _ hb;have:=h.lt;omega),h.lt⟩
theorem zwC {n:Nat}{xs:List Int}(hx:bQ w 1 eY (fun v=>v≤9223372036854775807) a n xs)(hn:n≤300)(ux:n≤c)(eF:0<n→∀b0 o0,a=some ⟨b0,o0,none⟩→¬cp (cQ X W) b0)(h:bH E q m w X W)(hC:nK E q w)(hm:m+340*n≤40000000) :
  aa prog 20 #[.pointer (some ⟨X.w,0,none⟩),.slice a n c] w fun v w'=>∃a' c' X',v=.slice a' n c'∧X'.w=X.w∧ak w w' (cQ X W) (az 3 1 eY v (W.run xs).1::cQ X' (W.run xs).2):=by
 have hl:=hx.len;refine zN func20 ntmps20 ?_;(conv=>whnf);rw[if_neg zo];refine ztM hx ux underlying25 zk rfl (fun a1 c1 h1 eH=>?_);have DD:0<n→∀b0 o0,a1=some ⟨b0,o0,none⟩→¬cp (cQ X W) b0:=fun h0 b0 o0 h2=>eF h0 b0 o0 ((h1 h0) ▸ h2)
 have hS:St w (cp (cQ X W)) w ([az 3 1 eY (.slice none 0 0) []]++cQ X W):=(h.has.start.bJ 3 1 eY).perm (List.perm_append_comm)
 refine d5 aj (fun σ w' r=>∃(k:Nat) (a':Option Addr) (c':Nat) (X':WorldA),σ=[(15,.int .i64 k),(14,.int .i64 (n:Nat)),(13,.slice a1 n c1),(5,.slice a' k c'),(0,.pointer (some ⟨X.w,0,none⟩))]∧r=n-k∧k≤n∧X'.w=X.w∧St w (cp (cQ X W)) w' ([az 3 1 eY (.slice a' k c') (W.run (xs.take k)).1]++cQ X' (W.run (xs.take k)).2))
  (σ':=[(15,.int .i64 ((0:Nat):Int)),(14,.int .i64 (n:Nat)),(13,.slice a1 n c1),(5,.slice none 0 0),(0,.pointer (some ⟨X.w,0,none⟩))]) (n:=n) zs ⟨0,none,0,X,rfl,rfl,Nat.zero_le _,rfl,hS⟩ ?_
 rintro _ w1 r ⟨k,a',c',X',rfl,rfl,hk,hw,hS⟩;apply aR<;>intro h3
 ·have fC:=eH.qP hS.ext DD;obtain⟨b0,o0,v,hv,J3,rfl,kM,s9⟩:=fC.at (k:=k) zo;have aX:=S5 (W:=W) hv;have bR:=MN (xs.take k) h.ok (by rw[List.length_take];omega);have lT:(W.run (xs.take k)).1.length=k:=by rw[MM,List.length_take];omega
  have NY:ak w w1 (cQ X W) (cQ X' (W.run (xs.take k)).2):=⟨hS.ext,hS.has.right,fun e he b hb=>(hS.may e (List.mem_append_right _ he) b hb).1⟩;have ig:bH E q (m+(xs.take k).length*340) w1 X' (W.run (xs.take k)).2:=h.turns NY bR;have qd:=hC.turns h.high NY;have aQ:m+(xs.take k).length*340+340≤40000000:=by rw[List.length_take];omega
  generalize W.run (xs.take k)=R at *;refine ao.mk zo zo ?_;refine g9 (s9.one 0 rfl) ?_;apply aR<;>intro h4
  ·have zR:R.2.say v=((((R.2.one v).1:Nat):Int),(R.2.one v).2):=if_neg zo;rw[zR]at aX;(conv=>whnf);rw[←hw];refine(zwB v zo J3 ig aQ).mono ?_;rintro v1 w2 ⟨rfl,X2,gw,jX⟩;replace hS:=St.di (A:=[_]) (B:=[]) (H:=cQ X' R.2) (by simpa using hS) jX;rw[List.append_nil]at hS;refine hS.cn (Ti (R.2.one v).1 (ztl _ _) _ (qd.turns ig.high jX).eD (qd.turns ig.high jX).handle) fun w3 hS=>?_
   refine hS.lit underlying25 (sz:=1) zk (z:=.int .i64 0) zk rfl rfl (cs:=eY (((R.2.one v).1:Nat):Int)) (by rfl) (fun b9 w4 jl hS=>?_);replace hS:=hS.perm List.perm_append_comm;refine hS.d8 kU 1 (ys:=[(((R.2.one v).1:Nat):Int)]) (G:=fun _=>True) underlying25 (bytes:=8) zk (z:=.int .i64 0) zk rfl rfl (bQ.bG kU (hS.blk 0 rfl) rfl zi (fun _ _=>trivial) rfl) (by rw[lT];unfold maxLen;omega) (by rw[lT];omega) (fun a2 c2 w5 hS=>?_);rw[lT]at hS ⊢;replace hS:=(hS.as (H':=[_]++([az 3 1 eY (.slice a2 (k+1) c2) (R.1++[(((R.2.one v).1:Nat):Int)])]++cQ X2 (R.2.one v).2)) rfl).weaken (List.sublist_append_right _ _);refine ag.mk zo zo ?_;refine aD.mk ⟨_,[(15,.int .i64 ((k+1:Nat):Int)),(14,_),(13,_),(5,.slice a2 (k+1) c2),(0,_)],?_,zs,⟨k+1,a2,c2,X2,rfl,rfl,by omega,gw,by rw[aX];exact hS⟩⟩;omega
  ·have zR:R.2.say v=(-1,R.2):=if_pos zo;rw[zR]at aX;rw[←hw];refine hS.lit underlying25 (sz:=1) zk (z:=.int .i64 0) zk rfl rfl (cs:=eY (-1:Int)) (by rfl) (fun b9 w4 jl hS=>?_);replace hS:=hS.perm List.perm_append_comm;refine hS.d8 kU 1 (ys:=[(-1:Int)]) (G:=fun _=>True) underlying25 (bytes:=8) zk (z:=.int .i64 0) zk rfl rfl (bQ.bG kU (hS.blk 0 rfl) rfl zi (fun _ _=>trivial) rfl) (by rw[lT];unfold maxLen;omega) (by rw[lT];omega) (fun a2 c2 w5 hS=>?_);rw[lT]at hS ⊢;replace hS:=(hS.as (H':=[_]++([az 3 1 eY (.slice a2 (k+1) c2) (R.1++[(-1:Int)])]++cQ X' R.2)) rfl).weaken (List.sublist_append_right _ _);refine ag.mk zo zo ?_;refine aD.mk ⟨_,[(15,.int .i64 ((k+1:Nat):Int)),(14,_),(13,_),(5,.slice a2 (k+1) c2),(0,_)],?_,zs,⟨k+1,a2,c2,X',rfl,rfl,by omega,rfl,by rw[aX];exact hS⟩⟩;omega
 ·obtain rfl:k=n:=by omega
  rw[List.take_of_length_le zo]at hS;refine zE ?_;exact⟨a',c',X',rfl,hw,St.turns hS⟩
end
section
variable {X:WorldA}{W:WorldS}
end
section
variable {X:WorldA}{W:WorldS}
end
section
end
theorem Ev.St.qo {L:List bZ}(h:St w0 S w H)(hx:Ext No w w')(hL:Has w' L)(hf:∀b,cp L b→w.heap.size≤b):St w0 S w' (H++L):=by
 have h1:=h.no hx;refine⟨h1.ext,?_,?_,?_,?_⟩
 ·intro e he;rcases List.mem_append.1 he with he|he
  ·exact h1.each e he
  ·exact hL.each e he
 ·intro e he;rcases List.mem_append.1 he with he|he
  ·exact h1.loc e he
  ·exact hL.loc e he
 ·intro e he b hb;rcases List.mem_append.1 he with he|he
  ·exact h1.may e he b hb
  ·exact⟨.inr (Nat.le_trans h.ext.size (hf b ⟨e,he,hb⟩)),hL.lt e he b hb⟩
 ·refine List.pairwise_append.2 ⟨h1.apart,hL.apart,fun e he f dH b hb dk=>?_⟩;have h2:=(h.may e he b hb).2;have h3:=hf b ⟨f,dH,dk⟩;omega
theorem Ev.St.lJ (h:St w0 No w H){b:Nat}(hb:cp H b):w0.heap.size≤b:=by
 obtain⟨e,he,hb⟩:=hb;exact(h.may e he b hb).1.elim (fun h=>h.elim) id
section
theorem YO {G:Int × Int→Prop}  {n:Nat}{xs:List (Int × Int)}(hx:bQ w 2 fv G a n xs)(hn:n≤2000) :
  aa prog 14 #[.slice a n c] w fun v w'=>∃a' c',v=.slice a' n c'∧Ext No w w'∧(az 80 2 fv v xs).holds w'∧m7 w w' v:=by
 have hl:=hx.len;refine zN func14 ntmps14 ?_;have hS:=(St.start w No).bJ 80 2 fv
 refine d5 aj (fun σ w' q=>∃(k:Nat) (a':Option Addr) (c':Nat),σ=[(4,.int .i64 k),(3,.slice a' k c'),(0,.slice a n c)]∧q=n-k∧k≤n∧St w No w' [az 80 2 fv (.slice a' k c') (xs.take k)])
  (σ':=[(4,.int .i64 ((0:Nat):Int)),(3,.slice none 0 0),(0,.slice a n c)]) (n:=n) zs ⟨0,none,0,rfl,rfl,Nat.zero_le _,hS⟩ ?_
 rintro _ w1 q ⟨k,a',c',rfl,rfl,hk,hS⟩;apply aR<;>intro h3
 ·obtain⟨b0,o0,x,dB,_,rfl,kM,hc⟩:=hx.at (k:=k) zo;have hT:¬w.heap.size≤b0:=Nat.not_le.2 kM;have mU:(xs.take k).length=k:=by rw[List.length_take];omega
  have aX:xs.take (k+1)=xs.take k++[x]:=by rw[List.take_add_one,dB];rfl
  (conv=>whnf);refine hS.dr [] (fun b=>w.heap.size≤b) [0,1,2,3,4,5,6,7,8,9,10,11,12,13,14] fun w1 hS=>?_
  have hK:=hS.ref (fun b=>w.heap.size≤b);repeat' ((conv=>whnf);first|refine ao.mk zo zo ?_|refine hS.cV (hc.one 0 rfl) id hT ?_|refine hS.cV (hc.one 1 rfl) id hT ?_)
  refine hS.fz underlying45 (sz:=2) zk (z:=.agg (fv (0,0)).toArray) zk rfl rfl (cs:=fv x) (by rfl) (fun b9 w3 jl k3 hS=>?_);replace hK:=hK.trans k3.aF;refine ae.mk hK ?_;have oQ:=hS.du 0 rfl;refine hS.fR ua 0 (ys:=[x]) (G:=fun _=>True) underlying45 (bytes:=16) zk (z:=.agg (fv (0,0)).toArray) zk rfl rfl (bQ.bG ua (hS.blk 1 rfl) rfl zi (fun _ _=>trivial) rfl) (by rw[mU];unfold maxLen;omega) (by rw[mU];omega) (fun a2 c2 w4 xv hS=>?_);replace hK:=hK.trans (xv.mono fun q h=>(oQ q h).1);refine ae.mk hK ?_;rw[mU]at hS ⊢;replace hS:=hS.keep 1;replace hS:St w No w4 [az 80 2 fv (.slice a2 (k+1) c2) (xs.take (k+1))]:=by rw[aX];exact hS
  refine ag.mk zo zo ?_;refine aD.mk ⟨_,[(4,.int .i64 ((k+1:Nat):Int)),(3,_),(0,_)],?_,zs,⟨k+1,a2,c2,rfl,rfl,by omega,hS⟩⟩;omega
 ·obtain rfl:k=n:=by omega
  rw[List.take_of_length_le zo]at hS;refine zE ?_;exact⟨a',c',rfl,hS.ext,hS.get 0 rfl,hS.du 0 rfl⟩
theorem Ya {x:Int × Int}{k:Value→Prop}(hk:k (.bool false)) :
  aB prog (do eqGuard .neq 80 (.tmp 0) (.tmp 0) (.agg (fv x).toArray) (.agg (fv x).toArray);Go.binOp .neq 80 (.agg (fv x).toArray) (.agg (fv x).toArray)) k :=
 XL (a:=[.int x.1,.int x.2]) (b:=[.int x.1,.int x.2]) (ks:=[.int,.int]) zk zk zk rfl rfl (by simpa using hk)
theorem Y3 {G G':Int × Int→Prop}{b:Option Addr}{n d:Nat}{xs:List (Int × Int)}(hx:bQ w 2 fv G a n xs)(hy:bQ w 2 fv G' b n xs) :
  aa prog 13 #[.slice a n c,.slice b n d] w fun v w'=>v=.bool true∧Ext No w w':=by
 have nT:=hx.max;refine zN func13 ntmps13 ?_;have hS:=St.start w No;refine ca (fun h=>absurd rfl h) (fun _=>?_)
 refine d5 aj (fun σ w' q=>∃k:Nat,σ=[(5,.int .i64 k),(1,.slice b n d),(0,.slice a n c)]∧q=n-k∧k≤n∧St w No w' [])
  (σ':=[(5,.int .i64 ((0:Nat):Int)),(1,.slice b n d),(0,.slice a n c)]) (n:=n) zs ⟨0,rfl,rfl,Nat.zero_le _,hS⟩ ?_
 rintro _ w1 q ⟨k,rfl,rfl,hk,hS⟩;apply aR<;>intro h3
 ·obtain⟨b0,o0,x,dB,_,rfl,_,hc⟩:=hx.at (k:=k) zo;obtain⟨b1,o1,y,FY,_,rfl,_,hd⟩:=hy.at (k:=k) zo;obtain rfl:x=y:=Option.some.inj (dB.symm.trans FY);(conv=>whnf);refine hS.dr [] No [0,1,2,3,4,5,6,7,8] fun w1 hS=>?_
  refine ao.mk zo zo ?_;refine hS.DU rfl hc id id ?_;refine ao.mk zo zo ?_;refine hS.DU rfl hd id id ?_;refine Ya ?_;refine ag.mk zo zo ?_;refine aD.mk ⟨_,[(5,.int .i64 ((k+1:Nat):Int)),(1,_),(0,_)],?_,zs,⟨k+1,rfl,rfl,by omega,hS⟩⟩;omega
 ·obtain rfl:k=n:=by omega
  exact zF
theorem St.qw {X:WorldA}{V:WorldS}{P R:List bZ}(hS:St w0 No w (P++(R++cQ X V)))(hE:bF w0 E w0.heap.size xU)(ok:dM m V):bH E w0.heap.size m w X V :=
 ⟨hS.has.right.right,ok,hE.ext hS.ext fun _ h=>h.elim,fun _ hb=>hS.lJ (dJ.2 (.inr (dJ.2 (.inr hb))))⟩
theorem zqF (h:Handle w):11<w.heap.size:=sd h
theorem zsM (hE:bF w0 E w0.heap.size cH)(hh:Handle w0)(hx:Ext No w0 w):nK E w0.heap.size w:=⟨hE.ext hx fun _ h=>h.elim,hh.ext hx,zqF hh⟩
theorem LX {α:Type}  {sz n:Nat}{enc:α→List Value}  {xs:List α}(h:(az e sz enc (.slice a n c) xs).holds w):n≤c:=by
 rcases BL h with⟨_,h1,_,h2,_⟩|⟨_,_,_,h1,_,h2,_⟩
 ·omega
 ·omega
theorem zqb {d:Nat}(hd:10≤d):Dec prog w d 58 eW (fun _=>True):=by
 intro cs h;have h1:qI prog 10 58=some [.bool,.bool,.int,.int,.int]:=zk;have h2:prog.cellsOf 58=5:=zk;obtain⟨ps,rfl,hk,bR⟩:=ztJ 10 d _ _ cs h1 hd h2 h;obtain⟨p1,r,rfl,g1,hk⟩:=Ep hk;obtain⟨p2,r,rfl,g2,hk⟩:=Ep hk;obtain⟨p3,r,rfl,g3,hk⟩:=Ep hk;obtain⟨p4,r,rfl,g4,hk⟩:=Ep hk;obtain⟨p5,r,rfl,g5,hk⟩:=Ep hk;obtain rfl:=zqL hk;obtain⟨n1,rfl⟩:=UA g1;obtain⟨n2,rfl⟩:=UA g2;obtain⟨n3,rfl⟩:=Ni g3;obtain⟨n4,rfl⟩:=Ni g4;obtain⟨n5,rfl⟩:=Ni g5;exact⟨⟨n1,n2,n3,n4,n5⟩,rfl,trivial⟩
end
section
variable {Y:RWorldA}{W:WorldS}{R:e8}
def RWorldA.off (Y:RWorldA)(la:Option Addr)(lc:Nat)(i:Nat):RWorldA:={ Y with la:=la,lc:=lc,vs:=Y.vs.eraseIdx i }
def Nb (Y:RWorldA)(W:WorldS)(i:Nat)(la:Option Addr)(lc:Nat)(np bp:List (Option Addr)):List bZ:=[blk Y.w 51 (Nf (Y.off la lc i) (W.off i)),az 75 1 kX (.slice Y.na 2 Y.nc) np,az 73 1 kX (.slice Y.ba 2 Y.bc) bp,az 222 5 bA (.slice la (W.aN.eraseIdx i).length lc) (Y.vs.eraseIdx i),dX Y.vs W.aN,az 80 2 fv (.slice Y.ea W.events.length Y.ec) W.events]
theorem St.jL {i:Nat}{la:Option Addr}{lc:Nat}  {B:List bZ}(hS:St w0 S w (Nb Y W i la lc np bp++B)):St w0 S w (kH (Y.off la lc i) (W.off i) np bp++B):=by
 have nh:(dX Y.vs W.aN).holds w:=hS.get 4 rfl;exact hS.upd 4 rfl (T:=No) (Ext.refl _ _) (fun _ h=>h.elim) qB (KR nh i) (fun b hb=>.inl (K2 hb))
theorem fH.fixed (h:Has w (iO Y W R)){Y':RWorldA}{W':WorldS}(k:ak w w' (kH Y W [gi Y.a W.a,gi Y.b W.b] [ei Y.a,ei Y.b]) (kH Y' W' [gi Y.a W.a,gi Y.b W.b] [ei Y.a,ei Y.b]))(ha:Y'.a=Y.a)(hb:Y'.b=Y.b)(ka:W'.a=W.a)(kb:W'.b=W.b):ak w w' (iO Y W R) (iO Y' W' R):=by
 unfold iO;rw[ha,hb,ka,kb];exact ak.frame h k
theorem RG (k:Int)(h:bg w0 m j w Y W R)(hk:W.at_ k≠0):aa prog 109 #[.pointer (some ⟨Y.w,0,none⟩),.int .i64 k] w fun v w'=>v=.tuple #[.agg (bA fw).toArray,.bool false]∧Ext No w w':=by
 have hb:k<0∨k≥W.aN.length:=by
  unfold WorldS.at_ at hk;refine Classical.byContradiction fun h=>hk (if_neg h)
 have hW:=h.has.start;refine zN func109 ntmps109 ?_;have hS:=St.start w No;refine hS.new (fun b4 w1 I3 hS=>?_);have Bl:=(h.has.read hS.ext).start;apply aR<;>intro h1
 ·refine hS.sT 0 fun w' hS=>?_
  refine hS.lX 0 ?_;exact zF
 ·refine Bl.lD 0 ?_;refine aM (fun h2=>?_) (fun h2=>by omega);refine hS.sT 0 fun w' hS=>?_
  refine hS.lX 0 ?_;exact zF
theorem Ho {i:Nat}{x:bW}(hH:Has w (kH Y W np bp))(hi:i<W.aN.length)(hm:W.aN.length≤200)(hx:Y.vs[i]?=some x):aa prog 109 #[.pointer (some ⟨Y.w,0,none⟩),.int .i64 (i:Int)] w fun v w'=>v=.tuple #[.agg (bA x).toArray,.bool true]∧∃la lc,ak w w' (kH Y W np bp) (Nb Y W i la lc np bp):=by
 have hl:Y.vs.length=W.aN.length:=(hH.get 4 rfl:(dX Y.vs W.aN).holds w).1;have iZ:=fE (G:=fun _=>True) dA (hH.get 3 rfl) (fun _ _=>trivial);have gZ:=LX (hH.get 3 rfl);obtain⟨b0,o0,jm,_⟩:=iZ.cells i x hx;have hS:=hH.start;have aQ:(Y.vs.take i).length=i:=by rw[List.length_take];omega
 have hle:(Y.vs.eraseIdx i)=Y.vs.take i++Y.vs.drop (i+1):=List.eraseIdx_eq_take_drop_succ _ _;have On:(W.aN.eraseIdx i).length=i+(W.aN.length-(i+1)):=by rw[List.length_eraseIdx,if_pos hi];omega
 refine zN func109 ntmps109 ?_;refine hS.new (fun b4 w1 I3 hS=>?_);refine hS.lD 0 ?_;refine aM (fun h2=>absurd h2 zo) (fun h2=>?_);refine hS.ld 0 rfl (v:=.slice (some ⟨b0,o0,none⟩) W.aN.length Y.lc) (by rw[←jm];rfl) ?_;refine ao.mk zo zo ?_;refine hS.lI dA 3 (by rw[←jm];rfl) hx rfl ?_;refine hS.new (fun b6 w2 Cy hS=>?_);refine hS.sT 7 fun w3 hS=>?_
 replace hS:=hS.bJ 222 5 bA;refine hS.lD 0 ?_;refine TU (fE (G:=fun _=>True) dA (hS.get 3 rfl) (fun _ _=>trivial)) gZ underlying49 zk rfl zo (fun a5 c5 rW=>?_);refine hS.d8 dA 8 (xs:=[]) underlying49 (bytes:=56) zk (z:=.agg (bA fw).toArray) zk rfl rfl rW (by unfold maxLen;simp;omega) (by simp;omega) (fun a6 c6 w6 hS=>?_);rw[show([]:List bW).length+i=i by simp]at hS ⊢;refine hS.lD 0 ?_;refine ag.mk zo zo ?_;refine TV (j:=i+1) (fE (G:=fun _=>True) dA (hS.get 3 rfl) (fun _ _=>trivial)) gZ underlying49 zk zk zo zo (fun a7 c7 Bp Wi=>?_);refine hS.d8 dA 8 underlying49 (bytes:=56) zk (z:=.agg (bA fw).toArray) zk rfl rfl Bp (by simp only[List.nil_append];rw[aQ];unfold maxLen;omega) (by simp only[List.nil_append];rw[aQ];omega) (fun a8 c8 w8 hS=>?_);simp only[List.nil_append]at hS ⊢;rw[aQ,←On,←hle]at hS;rw[aQ,←On];refine hS.st 0 rfl (by exact Nat.le_of_ble_eq_true rfl) rfl (fun w9 hS=>?_);refine hS.lX 7 ?_;refine hS.st 6 rfl (by exact Nat.le_of_ble_eq_true rfl) rfl (fun Au hS=>?_);refine hS.lX 6 ?_;refine zE ?_;refine⟨rfl,a8,c8,?_⟩;exact St.turns (hS.dv [0,1,2,8,4,5] zd)
theorem zrD (k:Int)(h:bg w0 m j w Y W R):aa prog 48 #[.pointer (some ⟨Y.w,0,none⟩),.int .i64 k] w fun v w'=>v=.int .i64 ((W.drop k).1:Nat)∧aT w0 m j w Y W R (W.drop k).2 w':=by
 by_cases hu:W.at_ k=0
 case neg =>
  have h4:W.at_ k=4:=by
   unfold WorldS.at_ at hu ⊢;split at hu
   ·rename_i h1;rw[if_pos h1]
   ·exact absurd rfl hu
  rw[show W.drop k=(W.at_ k,W) from if_pos hu,h4];refine zN func48 ntmps48 ?_;have hS:=St.start w No;refine hS.cn (RG k h hu) fun w1 hS=>?_
  refine hS.new (fun b1 w2 lp hS=>?_);refine hS.sT 0 fun w' hS=>?_
  refine zE ?_;exact⟨rfl,aT.same h (Nat.le_refl _) (Nat.le_refl _) hS.ext⟩
 rw[show W.drop k=(0,W.off k) from if_neg (fun h=>h hu)];obtain⟨i,rfl,hi⟩:=BZ hu;have hl:Y.vs.length=W.aN.length:=(h.has.get 4 rfl:(dX Y.vs W.aN).holds w).1;obtain⟨x,hx⟩:∃x,Y.vs[i]?=some x:=⟨_,List.getElem?_eq_getElem zo⟩;refine zN func48 ntmps48 ?_;refine(Ho h.has.left hi h.ok.aN hx).mono ?_;rintro v w1 ⟨rfl,la,lc,hk⟩;have hS:=(h.has.left.start.turned hk);refine hS.new (fun b1 w2 lp hS=>?_);refine hS.sT 6 fun w' hS=>?_
 refine zE ?_;have iw:=fH.fixed h.has (Y':=Y.off la lc i) (W':=W.off i) (St.turns (St.jL (B:=[]) (hS.keep 6))) rfl rfl rfl rfl;exact⟨rfl,Y.off la lc i,R,rfl,iw,h.turns iw (h.ok.off i) h.rules h.a h.b⟩
theorem zoT (N:NodeS)(x:bE):(N.hear x).2.rules=N.rules:=by
 unfold NodeS.hear;repeat' split
 all_goals rfl
set_option maxHeartbeats 1000000 in
theorem KW (k:Int)(h:bg w0 m j w Y W R):aa prog 47 #[.pointer (some ⟨Y.w,0,none⟩),.int .i64 k] w fun v w'=>v=.int .i64 ((W.cq k).1:Nat)∧aT w0 m j w Y W R (W.cq k).2 w':=by
 by_cases hu:W.at_ k=0
 case neg =>
  have h4:W.at_ k=4:=by
   unfold WorldS.at_ at hu ⊢;split at hu
   ·rename_i h1;rw[if_pos h1]
   ·exact absurd rfl hu
  rw[show W.cq k=(W.at_ k,W) from if_pos hu,h4];refine zN func47 ntmps47 ?_;have hS:=St.start w No;refine hS.cn (RG k h hu) fun w1 hS=>?_
  refine hS.new (fun b1 w2 lp hS=>?_);refine hS.sT 0 fun w' hS=>?_
  refine zE ?_;exact⟨rfl,aT.same h (Nat.le_refl _) (Nat.le_refl _) hS.ext⟩
 obtain⟨i,rfl,hi⟩:=BZ hu;have cZ:=h.ok.aN;have hc:(dX Y.vs W.aN).holds w:=h.has.get 4 rfl;have hl:Y.vs.length=W.aN.length:=hc.1;obtain⟨x,lH⟩:∃x,Y.vs[i]?=some x:=⟨_,List.getElem?_eq_getElem zo⟩;obtain⟨y,nx⟩:∃y,W.aN[i]?=some y:=⟨_,List.getElem?_eq_getElem zo⟩;obtain⟨kA,lF⟩:=AE hc lH nx;obtain⟨Xp,FZ⟩:=h.ok.notes y (List.mem_of_getElem? nx)
 have hw:W.cq i=(0,(W.off i).got y):=by
  unfold WorldS.cq;rw[if_neg (fun h=>h hu)];show(match W.aN[(i:Int).toNat]? with|none=>_|some x=>_)=_;rw[Int.toNat_natCast,nx]
 have bR:=h.ok.cq i;rw[hw]at bR ⊢;cases il:y.claim
 case true =>
  have vA:x.claim=true:=kA.claim.trans il;have vB:=kA.ah;have uC:=kA.bP;have e1:(W.off (i:Int)).ah=W.ah:=rfl;have e2:(W.off (i:Int)).to=W.to:=rfl
  have y2:y.ah>W.ah∨W.to<0→(W.off i).got y={ W.off i with to:=x.bP,ah:=x.ah }:=fun h=>by
   unfold WorldS.got;rw[if_pos il,vB,uC];exact if_pos h
  have pD:¬(y.ah>W.ah∨W.to<0)→(W.off i).got y=W.off i:=fun h=>by
   unfold WorldS.got;rw[if_pos il];exact if_neg h
  have cx:∀{w':World} {W':WorldS} {la:Option Addr} {lc:Nat},dM m W'→W'.a=W.a→W'.b=W.b→W'.rules=W.rules→ak w w' (kH Y W [gi Y.a W.a,gi Y.b W.b] [ei Y.a,ei Y.b]) (kH (Y.off la lc i) W' [gi Y.a W.a,gi Y.b W.b] [ei Y.a,ei Y.b])→aT w0 m j w Y W R W' w':=fun {w'} {W'} {la} {lc} ok ha hb hr k=>by
   have iw:=fH.fixed h.has (Y':=Y.off la lc i) k rfl rfl ha hb;refine⟨Y.off la lc i,R,rfl,iw,h.turns iw ok ?_ ?_ ?_⟩
   ·rw[hr];exact h.rules
   ·rw[ha];exact h.a
   ·rw[hb];exact h.b
  refine zN func47 ntmps47 ?_;refine(Ho h.has.left hi h.ok.aN lH).mono ?_;rintro v w1 ⟨rfl,la,lc,hk⟩;have hS:=(h.has.left.start.turned hk);refine hS.new (fun b1 w2 lp hS=>?_);refine hS.sT 6 fun w3 hS=>?_
  refine hS.ld 6 rfl (v:=.bool true) (by rw[←vA];rfl) ?_;(conv=>whnf);refine hS.dr [] No [0,1,2,3,4,5,6,7,8,9,10,11,12,13] fun w1 hS=>?_
  repeat' first|refine zP ?_|refine hS.bU 6 rfl rfl id ?_|refine hS.bU 0 rfl rfl id ?_|apply aR<;>intro
  all_goals first
   | (rw[pD zo]at bR ⊢;exact⟨rfl,cx bR rfl rfl rfl (St.turns (St.jL (B:=[]) (hS.keep 6)))⟩)
   |
        rw[y2 zo]at bR ⊢;
        (repeat' first|refine zP ?_|refine hS.lD 6 ?_|(refine hS.st 0 rfl (by exact Nat.le_of_ble_eq_true rfl) rfl (fun w' hS=>?_))|apply aR<;>intro);
        exact⟨rfl,cx bR rfl rfl rfl (St.turns (St.jL (W:={ W with to:=x.bP,ah:=x.ah }) (B:=[]) (hS.keep 6)))⟩
 case false =>
  have vA:x.claim=false:=kA.claim.trans il;have hn:1-y.bP=0∨1-y.bP=1:=by omega
  have uC:=kA.bP;have ig:=h.side hn
  have hT:∀{w'} {la:Option Addr} {lc:Nat} {A:cG} {s:bX},((W.off i).got y)=(W.off i).ai (1-y.bP) s→fG w0 j A s (R.side (1-y.bP))→ak w w' (gT Y W R (1-y.bP)) (kH (Y.off la lc i) (W.off i) (two (1-y.bP) (gi A s) (gi (Y.side (1-(1-y.bP))) (W.side (1-(1-y.bP))))) (two (1-y.bP) (ei A) (ei (Y.side (1-(1-y.bP)))))++nC A s (R.side (1-y.bP)))→aT w0 m j w Y W R ((W.off i).got y) w':=by
   intro w' la lc A s hg hs k;have h1:=RD (Y:=Y.off la lc i) (W:=W.off i) (R:=R) hn A s (R.side (1-y.bP));have h2:R.ai (1-y.bP) (R.side (1-y.bP))=R:=by rcases hn with e|e<;>(rw[e];rfl)
   rw[h2]at h1;have Kb:(Y.off la lc i).side (1-(1-y.bP))=Y.side (1-(1-y.bP)):=rfl;have J6:(W.off i).side (1-(1-y.bP))=W.side (1-(1-y.bP)):=rfl;rw[Kb,J6]at h1;rw[←h1]at k;have iw:=fH.world hn h.has (Y':=(Y.off la lc i).ai (1-y.bP) A) (W':=(W.off i).ai (1-y.bP) s) (R':=R) k (Lg (Y:=Y.off la lc i) (R:=R) hn A s (R.side (1-y.bP))).2.1 (by rcases hn with e|e<;>(rw[e];rfl)) rfl;rw[hg]at bR ⊢;refine⟨(Y.off la lc i).ai (1-y.bP) A,R,by rcases hn with e|e<;>(rw[e];rfl),iw,?_⟩;generalize 1-y.bP=z at *;rcases hn with rfl|rfl
   ·exact h.turns iw bR h.rules hs h.b
   ·exact h.turns iw bR h.rules h.a hs
  have hS:=(h.half hn).start;cases hN:(W.side (1-y.bP)).node with
  | none =>
   have hg:(W.off i).got y=(W.off i).ai (1-y.bP) (W.side (1-y.bP)):=by
    have e:(W.off i).got y=W.off i:=by
     unfold WorldS.got;rw[if_neg (by rw[il];decide),if_neg zo];show(match (W.side (1-y.bP)).node with|none=>_|some N=>_)=_;rw[hN]
    rw[e];rcases hn with e|e<;>(rw[e];rfl)
   have hU:∀{w'} {la:Option Addr} {lc:Nat},St w (cp (gT Y W R (1-y.bP))) w' (kH (Y.off la lc i) (W.off i) (two (1-y.bP) none (gi (Y.side (1-(1-y.bP))) (W.side (1-(1-y.bP))))) (two (1-y.bP) (ei (Y.side (1-y.bP))) (ei (Y.side (1-(1-y.bP)))))++[blk (Y.side (1-y.bP)).b 126 (kW (R.side (1-y.bP)))])→aT w0 m j w Y W R ((W.off i).got y) w':=fun {w'} {la} {lc} k=>by
    refine hT (la:=la) (lc:=lc) (A:=Y.side (1-y.bP)) hg ig ?_;rw[PZ hN,P1 hN];exact St.turns k
   generalize va:cp (gT Y W R (1-y.bP))=S at hS hU;rw[Ld hN]at hS;obtain⟨gn,oR⟩:=qC (hS.get 1 rfl);refine zN func47 ntmps47 ?_;refine(Ho hS.has.left hi h.ok.aN lH).mono ?_;rintro v w1 ⟨rfl,la,lc,hk⟩;replace hS:=St.call (B:=[_]) hS hk;refine hS.new (fun b1 w2 lp hS=>?_);refine hS.sT 7 fun w3 hS=>?_
   refine hS.ld 7 rfl (v:=.bool false) (by rw[←vA];rfl) ?_;(conv=>whnf);refine hS.dr [] No [0,1,2,3,4,5,6,7,8,9] fun w1 hS=>?_
   refine hS.bU 0 rfl (v:=.slice (some ⟨gn,0,none⟩) 2 Y.nc) (by rw[←oR];rfl) id ?_;refine hS.bU 7 rfl (v:=.int .i64 y.bP) (by rw[←uC];rfl) id ?_;refine ag.mk zo zo ?_;refine ao.mk zo zo ?_;refine hS.kn 1 hn (by rw[←oR];rfl) rfl id ?_;refine zE ?_;exact⟨rfl,hU (St.jL (B:=[_]) (hS.keep 7))⟩
  | some N =>
   have oT:=((h.ok.side hn).node N hN).1
   have hg:(W.off i).got y=(W.off i).ai (1-y.bP) ⟨some (N.hear y).2,(W.side (1-y.bP)).cw⟩:=by
    unfold WorldS.got;rw[if_neg (by rw[il];decide),if_neg zo];show(match (W.side (1-y.bP)).node with|none=>_|some N=>_)=_;rw[hN];rfl
   have lT:=ig.rules N hN;have od:=zoT N y
   have hU:∀{w'} {la:Option Addr} {lc:Nat} {A:cG},A.n=(Y.side (1-y.bP)).n→A.b=(Y.side (1-y.bP)).b→A.ra=(Y.side (1-y.bP)).ra→St w (cp (gT Y W R (1-y.bP))) w' (kH (Y.off la lc i) (W.off i) (two (1-y.bP) (some ⟨(Y.side (1-y.bP)).n,0,none⟩) (gi (Y.side (1-(1-y.bP))) (W.side (1-(1-y.bP))))) (two (1-y.bP) (ei (Y.side (1-y.bP))) (ei (Y.side (1-(1-y.bP)))))++dP A (N.hear y).2 (R.side (1-y.bP)))→aT w0 m j w Y W R ((W.off i).got y) w':=fun {w'} {la} {lc} {A} h1 h2 h3 k=>by
    refine hT (la:=la) (lc:=lc) (A:=A) (s:=⟨some (N.hear y).2,(W.side (1-y.bP)).cw⟩) hg ⟨ig.alike,ig.oW,fun M hM=>?_⟩ ?_
    ·obtain rfl:=Option.some.inj hM;rw[od,h3];exact lT
    ·have:=St.turns k;rw[←h1,show ei (Y.side (1-y.bP))=ei A by unfold ei;rw[h2]]at this;exact this
   generalize va:cp (gT Y W R (1-y.bP))=S at hS hU;rw[xS hN]at hS;obtain⟨gn,oR⟩:=qC (hS.get 1 rfl);refine zN func47 ntmps47 ?_;refine(Ho hS.has.left hi h.ok.aN lH).mono ?_;rintro v w1 ⟨rfl,la,lc,hk⟩;replace hS:=St.call (B:=dP (Y.side (1-y.bP)) N (R.side (1-y.bP))) hS hk;refine hS.new (fun b1 w2 lp hS=>?_);refine hS.sT 13 fun w3 hS=>?_
   refine hS.ld 13 rfl (v:=.bool false) (by rw[←vA];rfl) ?_;(conv=>whnf);refine hS.dr [] No [0,1,2,3,4,5,6,7,8,9] fun w1 hS=>?_
   refine hS.bU 0 rfl (v:=.slice (some ⟨gn,0,none⟩) 2 Y.nc) (by rw[←oR];rfl) id ?_;refine hS.bU 13 rfl (v:=.int .i64 y.bP) (by rw[←uC];rfl) id ?_;refine ag.mk zo zo ?_;refine ao.mk zo zo ?_;refine hS.kn 1 hn (by rw[←oR];rfl) rfl id ?_;have jG:=hS.eU 0 6 7 rfl (List.mem_singleton.2 rfl) (.inl zd);have eE:=hS.eU 1 6 7 (b:=gn) rfl (nD (by rw[oR];rfl)) (.inl zd);have hp:=hS.eU 13 6 7 rfl (List.mem_singleton.2 rfl) (.inr zd);have eF:0<x.n→∀b0 o0,x.a=some ⟨b0,o0,none⟩→¬cp (dP (Y.side (1-y.bP)) N (R.side (1-y.bP))) b0:=fun h0 b0 o0 ha=>hS.eU 4 6 7 (e:=dX Y.vs W.aN) rfl (cz.2 ⟨x,List.mem_of_getElem? lH,LM h0 ha⟩) (.inl zd)
   (conv=>whnf);refine hS.dr [] (cp (dP (Y.side (1-y.bP)) N (R.side (1-y.bP)))) [0,1,2,3,4,5,6,7,8,9,10] fun w1 hS=>?_
   refine hS.bU 0 rfl (v:=.slice (some ⟨gn,0,none⟩) 2 Y.nc) (by rw[←oR];rfl) jG ?_;refine hS.bU 13 rfl (v:=.int .i64 y.bP) (by rw[←uC];rfl) hp ?_;refine ag.mk zo zo ?_;refine ao.mk zo zo ?_;refine hS.kn 1 hn (by rw[←oR];rfl) rfl eE ?_;refine hS.fK 13 rfl rfl hp ?_;(conv=>whnf);have pM:Has _ (dP (Y.side (1-y.bP)) N (R.side (1-y.bP))):=Has.left (B:=[_]) (Has.right (A:=[_,_,_,_,_,_]) hS.has)
   have Kc:(⟨x.bP,x.au,x.ah,x.claim,y.cells⟩:bE)=y:=by
    obtain⟨f,l,e,c,cs⟩:=y;simp only[bE.mk.injEq,and_true];exact⟨kA.bP,kA.au,kA.ah,kA.claim⟩
   refine(ztD x y.cells (AE (hS.get 4 rfl) lH nx).2 eF pM oT).mono ?_;rintro v w' ⟨rfl,mg,mc,hk⟩;refine ae.mk hk.ext ?_;rw[Kc]at hk;replace hS:=St.di (A:=Nb Y W i la lc (two (1-y.bP) (some ⟨(Y.side (1-y.bP)).n,0,none⟩) (gi (Y.side (1-(1-y.bP))) (W.side (1-(1-y.bP))))) (two (1-y.bP) (ei (Y.side (1-y.bP))) (ei (Y.side (1-(1-y.bP)))))) (B:=[_]) hS hk;refine zE ?_;exact⟨rfl,hU (A:={ Y.side (1-y.bP) with mg:=mg,mc:=mc }) rfl rfl rfl (St.jL (B:=dP { Y.side (1-y.bP) with mg:=mg,mc:=mc } (N.hear y).2 (R.side (1-y.bP))) (hS.keep 13))⟩
end
section
variable {Y:RWorldA}{W:WorldS}{R:e8}
theorem zpm (k:Int)(h:bg w0 m j w Y W R):aa prog 49 #[.pointer (some ⟨Y.w,0,none⟩),.int .i64 k] w fun v w'=>v=.int .i64 ((W.dw k).1:Nat)∧aT w0 m j w Y W R (W.dw k).2 w':=by
 have cZ:=h.ok.aN;by_cases hu:W.at_ k=0
 case neg =>
  have hb:k<0∨k≥W.aN.length:=by
   unfold WorldS.at_ at hu;refine Classical.byContradiction fun h=>hu (if_neg h)
  have h4:W.at_ k=4:=if_pos hb;rw[show W.dw k=(W.at_ k,W) from if_pos hu,h4];refine zN func49 ntmps49 ?_;have Bl:=h.has.start;apply aR<;>intro h1
  ·refine zE ?_;exact⟨rfl,aT.same h (Nat.le_refl _) (Nat.le_refl _) (Ext.refl _ _)⟩
  ·refine Bl.lD 0 ?_;refine aM (fun h2=>?_) (fun h2=>by omega);refine zE ?_;exact⟨rfl,aT.same h (Nat.le_refl _) (Nat.le_refl _) (Ext.refl _ _)⟩
 obtain⟨i,rfl,hi⟩:=BZ hu;have hS:=h.has.left.start;have hc:(dX Y.vs W.aN).holds w:=hS.get 4 rfl;have hl:Y.vs.length=W.aN.length:=hc.1;obtain⟨x,hx⟩:∃x,Y.vs[i]?=some x:=⟨_,List.getElem?_eq_getElem zo⟩;obtain⟨y,hy⟩:∃y,W.aN[i]?=some y:=⟨_,List.getElem?_eq_getElem zo⟩;have gZ:=LX (hS.get 3 rfl);obtain⟨b0,o0,jm,_⟩:=(fE (G:=fun _=>True) dA (hS.get 3 rfl) (fun _ _=>trivial)).cells i x hx;have aQ:(Y.vs.take (i+1)).length=i+1:=by rw[List.length_take];omega
 refine zN func49 ntmps49 ?_;refine hS.lD 0 ?_;refine aM (fun h2=>absurd h2 zo) (fun h2=>?_);refine hS.lD 0 ?_;apply aR<;>intro h3
 ·rw[show W.dw i=(6,W) by unfold WorldS.dw;rw[if_neg (fun h=>h hu),if_pos zo]];refine zE ?_;exact⟨rfl,aT.same h (Nat.le_refl _) (Nat.le_refl _) (Ext.refl _ _)⟩
 have hw:W.dw i=(0,{ W with aN:=W.aN.take (i+1)++y::W.aN.drop (i+1) }):=by
  unfold WorldS.dw;rw[if_neg (fun h=>h hu),if_neg zo];show(match W.aN[(i:Int).toNat]? with|none=>_|some x=>_)=_;rw[Int.toNat_natCast,hy]
 have bR:=h.ok.dw i;rw[hw]at bR ⊢
 have nt:(W.aN.take (i+1)++y::W.aN.drop (i+1)).length=i+1+1+(W.aN.length-(i+1)):=by
  simp only[List.length_append,List.length_cons,List.length_take,List.length_drop];omega
 replace hS:=hS.bJ 222 5 bA;refine hS.lD 0 ?_;refine ag.mk zo zo ?_;refine TU (j:=i+1) (fE (G:=fun _=>True) dA (hS.get 3 rfl) (fun _ _=>trivial)) gZ underlying49 zk zo zo (fun a5 c5 rW=>?_);refine hS.d8 dA 6 (xs:=[]) underlying49 (bytes:=56) zk (z:=.agg (bA fw).toArray) zk rfl rfl rW (by unfold maxLen;simp;omega) (by simp;omega) (fun a6 c6 w6 hS=>?_);rw[show([]:List bW).length+(i+1)=i+1 by simp]at hS ⊢;refine hS.ld 0 rfl (v:=.slice (some ⟨b0,o0,none⟩) W.aN.length Y.lc) (by rw[←jm];rfl) ?_;refine ao.mk zo zo ?_;refine hS.lI dA 3 (by rw[←jm];rfl) hx rfl ?_;refine hS.lit underlying49 (sz:=5) zk (z:=.agg (bA fw).toArray) zk rfl rfl (cs:=bA x) (by rfl) (fun b9 w7 jl hS=>?_);refine hS.d8 dA 6 (ys:=[x]) (G:=fun _=>True) underlying49 (bytes:=56) zk (z:=.agg (bA fw).toArray) zk rfl rfl (bQ.bG dA (hS.blk 7 rfl) rfl zi (fun _ _=>trivial) rfl) (by simp only[List.nil_append];rw[aQ];unfold maxLen;omega) (by simp only[List.nil_append];rw[aQ];omega) (fun a8 c8 w8 hS=>?_);simp only[List.nil_append]at hS ⊢;rw[aQ]at hS ⊢;refine hS.lD 0 ?_;refine ag.mk zo zo ?_;refine TV (j:=i+1) (fE (G:=fun _=>True) dA (hS.get 3 rfl) (fun _ _=>trivial)) gZ underlying49 zk zk zo zo (fun a7 c7 Bp Wi=>?_);have zf:(Y.vs.take (i+1)++[x]).length=i+1+1:=by rw[List.length_append,aQ];rfl
 refine hS.d8 dA 6 underlying49 (bytes:=56) zk (z:=.agg (bA fw).toArray) zk rfl rfl Bp (by rw[zf];unfold maxLen;omega) (by rw[zf];omega) (fun a9 c9 w9 hS=>?_);rw[zf,←nt]at hS ⊢;rw[show Y.vs.take (i+1)++[x]++Y.vs.drop (i+1)=Y.vs.take (i+1)++x::Y.vs.drop (i+1) by simp]at hS;refine hS.st 0 rfl (by exact Nat.le_of_ble_eq_true rfl) rfl (fun Au hS=>?_);refine zE ?_;obtain⟨kA,lF⟩:=AE (hS.get 4 rfl) hx hy;have cT:=(hS.upd 4 rfl (e':=dX (Y.vs.take (i+1)++x::Y.vs.drop (i+1)) (W.aN.take (i+1)++y::W.aN.drop (i+1))) (T:=No) (Ext.refl _ _) (fun _ h=>h.elim) qB (QY (hS.get 4 rfl) kA lF) (fun b hb=>.inl ((Q7 hb).elim id fun h=>cz.2 ⟨x,List.mem_of_getElem? hx,h⟩))).dv [0,1,2,6,4,5] zd;have iw:=fH.fixed h.has (Y':={ Y with la:=a9,lc:=c9,vs:=Y.vs.take (i+1)++x::Y.vs.drop (i+1) }) (W':={ W with aN:=W.aN.take (i+1)++y::W.aN.drop (i+1) }) (St.turns cT) rfl rfl rfl rfl;exact⟨rfl,{ Y with la:=a9,lc:=c9,vs:=Y.vs.take (i+1)++x::Y.vs.drop (i+1) },R,rfl,iw,h.turns iw bR h.rules h.a h.b⟩
end
def uP (e f:bZ):bZ:=⟨e.aW++f.aW,fun w=>e.holds w∧f.holds w⟩
theorem Ql {e f:bZ}(h:e.Local)(g:f.Local):(uP e f).Local:=fun w w' hb hh=>⟨h w w' (fun b dk=>hb b (List.mem_append_left _ dk)) hh.1,g w w' (fun b dk=>hb b (List.mem_append_right _ dk)) hh.2⟩
section
variable {Y:RWorldA}{W:WorldS}{R:e8}
def RWorldA.with (Y:RWorldA)(la:Option Addr)(lc:Nat)(vs:List bW)(ea:Option Addr)(ec:Nat):RWorldA:={ Y with la:=la,lc:=lc,vs:=vs,ea:=ea,ec:=ec }
theorem RP {F l:List bE}{k:Nat}(hF:F.length≤200)(h:¬(jf F l k).length<200∨k=l.length):jf F l k=F++l.take (200-F.length):=by
 rcases h with h|h
 ·unfold jf at h ⊢;rw[List.length_append,List.length_take,List.length_take]at h;rw[List.take_take,Nat.min_eq_left zo]
 ·exact EJ h
abbrev wm (x:Option Addr)(y:Nat)(l:List bE):bZ:=az 218 10 bV (.slice x (kE l).length y) (kE l)
abbrev EY (Y:RWorldA)(W:WorldS)(np bp:List (Option Addr))(A:cG)(N:NodeS)(B:el)(a:Option Addr)(c:Nat)(x:Option Addr)(y:Nat)(l:List bE):List bZ :=
 [blk Y.w 51 (Nf Y W),az 75 1 kX (.slice Y.na 2 Y.nc) np,az 73 1 kX (.slice Y.ba 2 Y.bc) bp,az 222 5 bA (.slice Y.la W.aN.length Y.lc) Y.vs,uP (dX Y.vs W.aN) (wm x y l),az 80 2 fv (.slice Y.ea W.events.length Y.ec) W.events]++(dP A N B++[az 222 5 bA (.slice a (l.map (fV x y)).length c) (l.map (fV x y))])
def U2 (Y:RWorldA)(W:WorldS):Nat→Prop:=fun d=>d∈(az 222 5 bA (.slice Y.la W.aN.length Y.lc) Y.vs).aW
def U1 (Y:RWorldA)(W:WorldS):Nat→Prop:=fun d=>d∈(az 80 2 fv (.slice Y.ea W.events.length Y.ec) W.events).aW
set_option maxHeartbeats 4000000 in
set_option maxRecDepth 10000 in
theorem G4 {w5:World}   {N:NodeS}  {x ea:Option Addr}{y ec ll:Nat}{l:List bE}{ev:List (Int × Int)}{σ:cr}{Q:Exit→cr→World→Prop}
  (hs:Sub [(10,.int .i64 ((0:Nat):Int)),(8,.slice a ll c),(0,.pointer (some ⟨Y.w,0,none⟩))] σ)
  (hS:St w S w5 (EY (Y.with Y.la Y.lc Y.vs ea ec) (W.with W.aN ev) np bp A N B a c x y l)) (cZ:W.aN.length≤200) (fg:l.length≤2) (nt:(l.map (fV x y)).length=ll) (nW:ll=l.length)
  (cA:∀n∈l,(n.claim=true∧n.cells=[])∨(n.claim=false∧n.cells=kE l))
  (hQ:∀σ w6,(∃la lc vs,St w S w6 (EY (Y.with la lc vs ea ec) (W.with (W.aN++l.take (200-W.aN.length)) ev) np bp A N B a c x y l))→Q (.exit 0) σ w6) :
  k7 prog aL 123 (UD Tryz.f50 0) Q σ w5:=by
 refine d5 aj (fun σ w' q=>∃(k:Nat) (la:Option Addr) (lc:Nat) (vs:List bW),σ=[(10,.int .i64 k),(8,.slice a ll c),(0,.pointer (some ⟨Y.w,0,none⟩))]∧q=ll-k∧k≤ll∧St w S w' (EY (Y.with la lc vs ea ec) (W.with (jf W.aN l k) ev) np bp A N B a c x y l))
  (σ':=[(10,.int .i64 ((0:Nat):Int)),(8,.slice a ll c),(0,.pointer (some ⟨Y.w,0,none⟩))]) (n:=ll) hs ⟨0,Y.la,Y.lc,Y.vs,rfl,rfl,Nat.zero_le _,by rw[RQ];exact hS⟩ ?_
 rintro _ w5 q' ⟨k,la,lc,vs,rfl,rfl,hk,hS⟩;have qh:=TQ (l:=l) (k:=k) cZ;apply aR<;>intro h3
 ·have xa:k<l.length:=by omega
  obtain⟨z,hz⟩:∃z,l[k]?=some z:=⟨_,List.getElem?_eq_getElem xa⟩;have DR:=List.mem_of_getElem? hz;have dB:(l.map (fV x y))[k]?=some (fV x y z):=by rw[List.getElem?_map,hz];rfl
  obtain⟨g,o,Jl⟩:∃g o,a=some ⟨g,o,none⟩:=by
   obtain⟨b0,o0,h1,_⟩:=(fE (G:=fun _=>True) dA (hS.get 13 rfl) (fun _ _=>trivial)).cells k _ dB;exact⟨b0,o0,h1⟩
  subst Jl;have CG:(uP (dX vs (jf W.aN l k)) (wm x y l)).holds w5:=hS.get 4 rfl;have xr:vs.length=(jf W.aN l k).length:=CG.1.1;refine hS.lD 0 ?_;apply aR<;>intro h4
  ·have nU:=RN hz (Int.ofNat_lt.1 h4);have zK:=hS.bS 0 3 rfl rfl zd _ (List.mem_singleton.2 rfl);have oU:g ∉ (az 222 5 bA (.slice la (jf W.aN l k).length lc) vs).aW:=hS.bS 13 3 rfl rfl zd g (nD rfl);(conv=>whnf);refine hS.dr [] (U2 (Y.with la lc vs ea ec) (W.with (jf W.aN l k) ev)) [0,1,2,3,4,5,6,7,8,9,10] fun w1 hS=>?_
   have hK:=hS.ref (U2 (Y.with la lc vs ea ec) (W.with (jf W.aN l k) ev));refine hS.bU 0 rfl rfl zK ?_;refine ao.mk zo zo ?_;refine hS.z8 dA 13 (by rfl) dB rfl oU ?_;refine hS.fz underlying49 (sz:=5) zk (z:=.agg (bA fw).toArray) zk rfl rfl (cs:=bA (fV x y z)) (by rfl) (fun b9 w3 jl hx hS=>?_);replace hK:=hK.trans hx.aF;refine ae.mk hK ?_;refine hS.fR dA 3 (ys:=[fV x y z]) (G:=fun _=>True) underlying49 (bytes:=56) zk (z:=.agg (bA fw).toArray) zk rfl rfl (bQ.bG dA (hS.blk 14 rfl) rfl zi (fun _ _=>trivial) rfl) (by show vs.length+1≤_;rw[xr];unfold maxLen;omega) (by show(vs.length+1)*56≤_;rw[xr];omega) (fun XB XE w9 hx hS=>?_);replace hK:=hK.trans (hx.mono fun d hd=>nD hd);refine ae.mk hK ?_;refine hS.st 0 rfl (by exact Nat.le_of_ble_eq_true rfl) rfl (fun Au hS=>?_);refine ag.mk zo zo ?_;have jc:(uP (dX vs (jf W.aN l k)) (wm x y l)).holds Au:=hS.get 4 rfl;obtain⟨Xu,qn⟩:=SJ cA (fE (G:=fun _=>True) gF jc.2 (fun _ _=>trivial)) DR
   have hj:=(hS.upd 4 rfl (e':=uP (dX (vs++[fV x y z]) (jf W.aN l k++[z])) (wm x y l)) (T:=No) (Ext.refl _ _) (fun _ h=>h.elim) (Ql qB fq) ⟨GV jc.1 (K0 Xu qn),jc.2⟩ (fun b hb=>.inl (by
    rcases List.mem_append.1 hb with hb|hb
    ·obtain⟨u,hu,hb⟩:=cz.1 hb;rcases List.mem_append.1 hu with hu|hu
     ·exact List.mem_append_left _ (cz.2 ⟨u,hu,hb⟩)
     ·obtain rfl:=List.mem_singleton.1 hu;refine List.mem_append_right _ ?_;have h5:=LC hb;rcases cA z DR with⟨h6,h7⟩|⟨h6,h7⟩
      ·have:(fV x y z).n=0:=by show z.cells.length=0;rw[h7];rfl
       unfold yb at hb;rw[if_pos this]at hb;cases hb
      ·have e:(fV x y z).a=x:=by show(if z.claim=true then none else x)=x;rw[h6];rfl
       rw[e]at h5;refine nD ?_;cases x with
       | none=>simp[Value.ownBlock]at h5
       | some x=>simpa[Value.ownBlock]using h5
    ·exact List.mem_append_right _ hb))).keep 14
   refine aD.mk ⟨_,[(10,.int .i64 ((k+1:Nat):Int)),(8,_),(0,_)],?_,zs,⟨k+1,XB,XE,vs++[fV x y z],rfl,rfl,by omega,?_⟩⟩
   ·omega
   ·rw[nU];have fy:(Y.with la lc vs ea ec).vs.length+1=(jf W.aN l k++[z]).length:=by rw[List.length_append,←xr];rfl
    rw[fy]at hj;exact hj
  ·have cL:=RP (l:=l) (k:=k) cZ (.inl fun h=>h4 (Int.ofNat_lt.2 h));rw[cL]at hS;exact hQ _ _ ⟨la,lc,vs,hS⟩
 ·have cL:=RP (l:=l) (k:=k) cZ (.inr zo);rw[cL]at hS;exact hQ _ _ ⟨la,lc,vs,hS⟩
theorem zps (N:NodeS)(B:aP):(N.tick B).2.2.1.rules=N.rules:=by
 have h1:∀(M:NodeS) (c:Bool),(M.notes c).2.rules=M.rules:=fun M c=>by
  unfold NodeS.notes;dsimp only;split<;>rfl
 have h2:(N.step.2.claim B).2.1.rules=N.rules:=by
  unfold NodeS.claim;repeat' split
  all_goals rfl
 unfold NodeS.tick;split
 ·rfl
 split
 ·split
  ·exact h2
  ·exact(h1 _ (N.step.2.claim B).1.1).trans h2
 ·exact h1 N.step.2 false
theorem zph (hn:n=0∨n=1)(s:bX)(B:el)(f:List bE)(e:List (Int × Int))(la:Option Addr)(lc:Nat)(vs:List bW)(ea:Option Addr)(ec:Nat) :
  gT (Y.with la lc vs ea ec) ((W.ai n s).with f e) (R.ai n B) n=kH (Y.with la lc vs ea ec) (W.with f e) (two n (gi (Y.side n) s) (gi (Y.side (1-n)) (W.side (1-n)))) (two n (ei (Y.side n)) (ei (Y.side (1-n))))++nC (Y.side n) s B:=by
 rcases hn with rfl|rfl<;>rfl
theorem aT.with (h:bg w0 m j w Y W R){n:Int}(hn:n=0∨n=1){s:bX}{B:el}{m' j':Nat}{f:List bE}{e:List (Int × Int)}{la:Option Addr}{lc:Nat}{vs:List bW}{ea:Option Addr}{ec:Nat}(k:ak w w' (gT Y W R n) (kH (Y.with la lc vs ea ec) (W.with f e) (two n (gi (Y.side n) s) (gi (Y.side (1-n)) (W.side (1-n)))) (two n (ei (Y.side n)) (ei (Y.side (1-n))))++nC (Y.side n) s B))(ok:dM m' ((W.ai n s).with f e))(hj:j≤j')(hs:fG w0 j' (Y.side n) s B):aT w0 m' j' w Y W R ((W.ai n s).with f e) w':=by
 rw[←zph hn s B f e]at k;have hk:=fH.world hn h.has k rfl (Sb hn s f e) (Lg (Y:=Y) (R:=R) hn (Y.side n) s B).2.2.2;refine⟨Y.with la lc vs ea ec,R.ai n B,rfl,hk,?_⟩;rcases hn with rfl|rfl
 ·exact h.turns hk ok h.rules hs (h.b.le hj)
 ·exact h.turns hk ok h.rules (h.a.le hj) hs
set_option maxHeartbeats 4000000 in
set_option maxRecDepth 10000 in
theorem EC (n:Int)(h:bg w0 m j w Y W R)(hm:m+34≤40000000)(hj:j≤50000000):aa prog 50 #[.pointer (some ⟨Y.w,0,none⟩),.int .i64 n] w fun v w'=>v=.int .i64 ((W.tick n).1:Nat)∧aT w0 (m+34) (j+18) w Y W R (W.tick n).2 w':=by
 refine zN func50 ntmps50 ?_;refine(G5 n h).mono ?_;rintro v w1 ⟨rfl,rfl⟩;by_cases hn:n=0∨n=1
 case neg =>
  rw[show W.tick n=(2,W) from if_pos zo,show W.cF n=2 from if_pos zo];refine zE ?_;exact⟨rfl,aT.same h (Nat.le_add_right _ _) (Nat.le_add_right _ _) (Ext.refl _ _)⟩
 cases hN:(W.side n).node with
 | none =>
  rw[show W.tick n=(7,W) by unfold WorldS.tick;rw[if_neg zo,hN],Es hn hN];refine zE ?_;exact⟨rfl,aT.same h (Nat.le_add_right _ _) (Nat.le_add_right _ _) (Ext.refl _ _)⟩
 | some N =>
  have bR:=h.ok.tick zo n;have OB:W.tick n=W.iL n N (N.tick (W.side n).cw):=by unfold WorldS.tick;rw[if_neg zo,hN]
  rw[OB]at bR ⊢;rw[Et hn hN];have ig:=h.side hn;have oT:=((h.ok.side hn).node N hN).1;have px:=(h.ok.side hn).mr;have cZ:=h.ok.aN;have Jh:=h.ok.events;have fg:=Q6 N (W.side n).cw;have cA:=Q5 N (W.side n).cw;have od:=zps N (W.side n).cw;have lT:=ig.rules N hN;have Cu:=ig.alike;have JR:=ig.oW;have hS:=(h.half hn).start;have hU:∀{w'} {s:bX} {B:el},dM (m+34) (W.ai n s)→fG w0 (j+18) (Y.side n) s B→St w (cp (gT Y W R n)) w' (kH Y W (two n (gi (Y.side n) s) (gi (Y.side (1-n)) (W.side (1-n)))) (two n (ei (Y.side n)) (ei (Y.side (1-n))))++nC (Y.side n) s B)→aT w0 (m+34) (j+18) w Y W R (W.ai n s) w':=fun ok hs k=>aT.set h hn (St.turns k) ok (Nat.le_add_right _ _) hs
  have sO:∀{w'} {s:bX} {B:el} {f:List bE} {e:List (Int × Int)} {la:Option Addr} {lc:Nat} {vs:List bW} {ea:Option Addr} {ec:Nat},dM (m+34) ((W.ai n s).with f e)→fG w0 (j+18) (Y.side n) s B→St w (cp (gT Y W R n)) w' (kH (Y.with la lc vs ea ec) (W.with f e) (two n (gi (Y.side n) s) (gi (Y.side (1-n)) (W.side (1-n)))) (two n (ei (Y.side n)) (ei (Y.side (1-n))))++nC (Y.side n) s B)→aT w0 (m+34) (j+18) w Y W R ((W.ai n s).with f e) w':=fun ok hs k=>aT.with h hn (St.turns k) ok (Nat.le_add_right _ _) hs
  generalize va:cp (gT Y W R n)=S at hS hU sO;rw[xS hN]at hS;obtain⟨gn,oR⟩:=qC (hS.get 1 rfl);obtain⟨gb,FG⟩:=qC (hS.get 2 rfl);generalize (W.side n).cw=B at *;generalize eR:gi (Y.side (1-n)) (W.side (1-n))=pq at *;generalize N4:ei (Y.side (1-n))=bq at *;refine hS.ld 0 rfl (v:=.slice (some ⟨gn,0,none⟩) 2 Y.nc) (by rw[←oR];rfl) ?_;refine ao.mk zo zo ?_;refine hS.jJ 1 hn (by rw[←oR];rfl) rfl ?_;refine hS.lD 6 ?_;refine hS.lD 7 ?_;(conv=>whnf);have pM:Has _ (dP (Y.side n) N (R.side n)):=Has.right (A:=[_,_,_,_,_,_]) hS.has;refine(ztH pM oT px Cu JR hj hm).mono ?_;rintro v w3 ⟨a,c,x,y,R',rfl,sM,u9,hk⟩;replace hS:=St.di (A:=[_,_,_,_,_,_]) (B:=[]) hS hk;generalize N.tick B=T at *;obtain⟨e,l,N',B'⟩:=T;dsimp only at sM u9 fg cA od bR hS ⊢;have nW:(l.map (fV x y)).length=l.length:=List.length_map _;generalize nt:(l.map (fV x y)).length=ll at nW;have Dl:=sM.off
  have vq:W.iL n N (e,l,N',B')=if B'.off=true then (e,W.ai n ⟨none,B'⟩) else if e≠0 then (e,W.ai n ⟨some N',B'⟩) else
   (0,(W.ai n ⟨some N',B'⟩).with (W.aN++l.take (200-W.aN.length)) (if N.role.aE=false∧N'.role.aE=true∧W.events.length<1000 then W.events++[(n,N'.role.ah)] else W.events)):=rfl
  rw[vq]at bR ⊢
  have om:fG w0 (j+18) (Y.side n) ⟨some N',B'⟩ R':=⟨sM,u9,fun M hM=>by
   obtain rfl:=Option.some.inj hM;rw[od];exact lT⟩
  refine hS.ld 0 rfl (v:=.slice (some ⟨gb,0,none⟩) 2 Y.bc) (by rw[←FG];rfl) ?_;refine ao.mk zo zo ?_;refine hS.jJ 2 hn (by rw[←FG];rfl) rfl ?_;refine hS.ld 12 rfl (v:=.bool B'.off) (by rw[←Dl];rfl) ?_;cases j9:B'.off
  case true =>
   rw[j9,if_pos rfl]at bR;rw[if_pos rfl];refine hS.ld 0 rfl (v:=.slice (some ⟨gn,0,none⟩) 2 Y.nc) (by rw[←oR];rfl) ?_;refine ao.mk zo zo ?_;refine hS.qv (r:=none) 1 hn (by rw[←oR];rfl) zo (fun w4 hS=>?_);refine zE ?_;refine⟨rfl,hU (s:=⟨none,B'⟩) (B:=R') bR ⟨sM,u9,fun M hM=>by cases hM⟩ ?_⟩;have cT:=hS.dv [0,1,2,3,4,5,12] zd;rw[←oR]at cT;exact cT
  rw[j9,if_neg zd]at bR;rw[if_neg zd];cases e with
  | succ i =>
   rw[if_pos (Nat.succ_ne_zero i)]at bR ⊢;refine aM (fun _=>?_) (fun h=>absurd (show((i+1:Nat):Int)>0 by omega) h);refine zE ?_;exact⟨rfl,hU (s:=⟨some N',B'⟩) (B:=R') bR om (hS.keep 13)⟩
  | zero =>
   rw[if_neg (fun h=>h rfl)]at bR ⊢;have uw:=((hS.dv [4,14,0,1,2,3,5,6,7,8,9,10,11,12,13] zd).join (g:=uP (dX Y.vs W.aN) (wm x y l)) (Ql qB fq) ⟨hS.get 4 rfl,hS.get 14 rfl⟩ (fun b hb=>List.mem_append.1 hb)).dv [1,2,3,4,0,5,6,7,8,9,10,11,12,13] zd;replace hS:St w S w3 (EY (Y.with Y.la Y.lc Y.vs Y.ea Y.ec) (W.with W.aN W.events) (two n (some ⟨(Y.side n).n,0,none⟩) pq) (two n (ei (Y.side n)) bq) (Y.side n) N' R' a c x y l):=uw
   have mT:∀{b1 b2:Bool},N.role.aE=b1→N'.role.aE=b2→(b1=true∨b2=false∨¬W.events.length<1000)→(if N.role.aE=false∧N'.role.aE=true∧W.events.length<1000 then W.events++[(n,N'.role.ah)] else W.events)=W.events:=fun h1 h2 h3=>if_neg (by
    rw[h1,h2];rintro⟨rfl,rfl,h4⟩;rcases h3 with h3|h3|h3
    ·cases h3
    ·cases h3
    ·exact h3 h4)
   have th:N.role.aE=false→N'.role.aE=true→W.events.length<1000→(if N.role.aE=false∧N'.role.aE=true∧W.events.length<1000 then W.events++[(n,N'.role.ah)] else W.events)=W.events++[(n,N'.role.ah)]:=fun h1 h2 h3=>if_pos ⟨h1,h2,h3⟩
   generalize hev:(if N.role.aE=false∧N'.role.aE=true∧W.events.length<1000 then W.events++[(n,N'.role.ah)] else W.events)=ev at bR ⊢;cases ha:N.role.aE
   ·refine hS.lD 6 ?_;refine hS.lD 7 ?_;cases sP:N'.role.aE
    ·rw[←hev.symm.trans (mT ha sP (.inr (.inl rfl)))]at hS;generalize Y.ea=ea at hS;generalize Y.ec=ec at hS;refine G4 (ea:=ea) (ec:=ec) (ev:=ev) zs hS cZ fg nt nW cA ?_;rintro σ w6 ⟨la,lc,vs,hS⟩;have jc:(uP (dX vs (W.aN++l.take (200-W.aN.length))) (wm x y l)).holds w6:=hS.get 4 rfl;replace hS:=hS.upd 4 rfl (e':=dX vs (W.aN++l.take (200-W.aN.length))) (T:=No) (Ext.refl _ _) (fun _ h=>h.elim) qB jc.1 (fun b hb=>.inl (List.mem_append_left _ hb));refine zE ?_;exact⟨rfl,sO (s:=⟨some N',B'⟩) (B:=R') (la:=la) (lc:=lc) (vs:=vs) (ea:=ea) (ec:=ec) bR om (hS.keep 13)⟩
    ·refine hS.lD 0 ?_;apply aR<;>intro h5
     ·have hv:=hev.symm.trans (th ha sP (by exact Int.ofNat_lt.1 h5));have VI:Y.w ∉ (az 80 2 fv (.slice Y.ea W.events.length Y.ec) W.events).aW:=hS.bS 0 5 rfl rfl zd _ (List.mem_singleton.2 rfl);have VJ:(Y.side n).n ∉ (az 80 2 fv (.slice Y.ea W.events.length Y.ec) W.events).aW:=hS.bS 6 5 rfl rfl zd _ (List.mem_singleton.2 rfl);have VK:(Y.side n).r ∉ (az 80 2 fv (.slice Y.ea W.events.length Y.ec) W.events).aW:=hS.bS 7 5 rfl rfl zd _ (List.mem_singleton.2 rfl);(conv=>whnf);refine hS.dr [] (U1 Y W) [0,1,2,3,4,5,6,7,8,9,10,11,12,13,14,15] fun w1 hS=>?_
      have hK:=hS.ref (U1 Y W);refine hS.bU 0 rfl rfl VI ?_;refine hS.bU 6 rfl rfl VJ ?_;refine hS.bU 7 rfl rfl VK ?_;refine hS.fz underlying45 (sz:=2) zk (z:=.agg (fv (0,0)).toArray) zk rfl rfl (cs:=fv (n,N'.role.ah)) (by rfl) (fun b9 w8 jl hx hS=>?_);replace hK:=hK.trans hx.aF;refine ae.mk hK ?_;refine hS.fR ua 5 (ys:=[(n,N'.role.ah)]) (G:=fun _=>True) underlying45 (bytes:=16) zk (z:=.agg (fv (0,0)).toArray) zk rfl rfl (bQ.bG ua (hS.blk 14 rfl) rfl zi (fun _ _=>trivial) rfl) (by show W.events.length+1≤_;unfold maxLen;omega) (by show(W.events.length+1)*16≤_;omega) (fun ea ec w9 hx hS=>?_);replace hK:=hK.trans (hx.mono fun d hd=>nD hd);refine ae.mk hK ?_;refine hS.st 0 rfl (by exact Nat.le_of_ble_eq_true rfl) rfl (fun Au hS=>?_)
      replace hS:=(hS.keep 14).as (H':=EY (Y.with Y.la Y.lc Y.vs ea ec) (W.with W.aN (W.events++[(n,N'.role.ah)])) (two n (some ⟨(Y.side n).n,0,none⟩) pq) (two n (ei (Y.side n)) bq) (Y.side n) N' R' a c x y l) (by
       rw[show(W.with W.aN W.events).events.length+1=(W.events++[(n,N'.role.ah)]).length by rw[List.length_append];rfl];rfl)
      rw[←hv]at hS;refine G4 (ea:=ea) (ec:=ec) (ev:=ev) zs hS cZ fg nt nW cA ?_;rintro σ w6 ⟨la,lc,vs,hS⟩;have jc:(uP (dX vs (W.aN++l.take (200-W.aN.length))) (wm x y l)).holds w6:=hS.get 4 rfl;replace hS:=hS.upd 4 rfl (e':=dX vs (W.aN++l.take (200-W.aN.length))) (T:=No) (Ext.refl _ _) (fun _ h=>h.elim) qB jc.1 (fun b hb=>.inl (List.mem_append_left _ hb));refine zE ?_;exact⟨rfl,sO (s:=⟨some N',B'⟩) (B:=R') (la:=la) (lc:=lc) (vs:=vs) (ea:=ea) (ec:=ec) bR om (hS.keep 13)⟩
     ·rw[←hev.symm.trans (mT ha sP (.inr (.inr fun h=>h5 (by exact Int.ofNat_lt.2 h))))]at hS;generalize Y.ea=ea at hS;generalize Y.ec=ec at hS;refine G4 (ea:=ea) (ec:=ec) (ev:=ev) zs hS cZ fg nt nW cA ?_;rintro σ w6 ⟨la,lc,vs,hS⟩;have jc:(uP (dX vs (W.aN++l.take (200-W.aN.length))) (wm x y l)).holds w6:=hS.get 4 rfl;replace hS:=hS.upd 4 rfl (e':=dX vs (W.aN++l.take (200-W.aN.length))) (T:=No) (Ext.refl _ _) (fun _ h=>h.elim) qB jc.1 (fun b hb=>.inl (List.mem_append_left _ hb));refine zE ?_;exact⟨rfl,sO (s:=⟨some N',B'⟩) (B:=R') (la:=la) (lc:=lc) (vs:=vs) (ea:=ea) (ec:=ec) bR om (hS.keep 13)⟩
   ·rw[←hev.symm.trans (mT ha rfl (.inl rfl))]at hS;generalize Y.ea=ea at hS;generalize Y.ec=ec at hS;refine G4 (ea:=ea) (ec:=ec) (ev:=ev) zs hS cZ fg nt nW cA ?_;rintro σ w6 ⟨la,lc,vs,hS⟩;have jc:(uP (dX vs (W.aN++l.take (200-W.aN.length))) (wm x y l)).holds w6:=hS.get 4 rfl;replace hS:=hS.upd 4 rfl (e':=dX vs (W.aN++l.take (200-W.aN.length))) (T:=No) (Ext.refl _ _) (fun _ h=>h.elim) qB jc.1 (fun b hb=>.inl (List.mem_append_left _ hb));refine zE ?_;exact⟨rfl,sO (s:=⟨some N',B'⟩) (B:=R') (la:=la) (lc:=lc) (vs:=vs) (ea:=ea) (ec:=ec) bR om (hS.keep 13)⟩
end
section
variable {Y:RWorldA}{W:WorldS}{R:e8}
def AZ:el:=⟨gD.data,false,0,false⟩
theorem PO (w:World):aa prog 25 #[] w fun v w'=>∃b,v=.pointer (some ⟨b,0,none⟩)∧w.heap.size≤b∧Ext No w w'∧bC w' b 126 (kW AZ):=by
 refine zN func25 ntmps25 ?_;have hS:=St.start w No;refine hS.mkSlice (n:=64) underlying124 (sz:=1) (bytes:=1) zk (z:=.int .u8 0) zk zd zd zd (enc:=j1) (xs:=List.replicate 64 0) zi (by rw[show(Value.int .u8 0).cells = #[.int .u8 0] from rfl,EN,Nat.mul_one];exact Mc 64) (fun g w1 hg hS=>?_);(conv=>whnf)
 obtain⟨b0,o0,h1,hc⟩:∃b0 o0,some (⟨g,0,none⟩:Addr)=some ⟨b0,o0,none⟩∧aH w1 b0 o0 ((List.replicate 64 (0:UInt8)).flatMap j1):=by
  refine⟨g,0,rfl,fun i v hi=>?_⟩;have:=(hS.get 0 rfl:(az 5 1 j1 (.slice (some ⟨g,0,none⟩) 64 64) (List.replicate 64 (0:UInt8))).holds w1);rcases BL this with⟨h,_⟩|⟨g2,cur,h,_,hb,_,_,hl,ht⟩
  ·cases h
  ·simp only[Option.some.injEq,Addr.mk.injEq]at h;obtain⟨rfl,_⟩:=h;rw[hb.cell,Nat.zero_add];rw[←ht,List.getElem?_take]at hi;split at hi
   ·exact hi
   ·cases hi
 simp only[Option.some.injEq,Addr.mk.injEq]at h1;obtain⟨rfl,rfl,_⟩:=h1;refine H2 underlying124 underlying5 underlying9 hc zi ?_;refine hS.new (fun b w2 hb hS=>?_);refine zE ?_;exact⟨b,rfl,hb,hS.ext,hS.blk 1 rfl⟩
def Lb (na:Option Addr)(nn nc:Nat)(ba:Option Addr)(bn bc:Nat)(a:Option Addr)(n c:Nat):List Value:=[.slice na nn nc,.slice ba bn bc,.slice a n c,.slice none 0 0,.int .i64 (-1),.int .i64 0,.slice none 0 0]
def zyJ (bw:Nat)(a:Option Addr)(c:Nat)(xs:List RuleS)(na:Option Addr)(nc:Nat)(ba:Option Addr)(bc:Nat)(N:Int→NodeS)(A A':cG)(R R':el):Nat→List bZ
 | 0=>[blk bw 51 (Lb none 0 0 none 0 0 a xs.length c),az 75 1 kX (.slice none 0 0) [],az 73 1 kX (.slice none 0 0) []]
 | 1=>[blk bw 51 (Lb na 1 nc ba 1 bc a xs.length c),az 75 1 kX (.slice na 1 nc) [some ⟨A.n,0,none⟩],az 73 1 kX (.slice ba 1 bc) [ei A]]++dP A (N 0) R
 | _=>[blk bw 51 (Lb na 2 nc ba 2 bc a xs.length c),az 75 1 kX (.slice na 2 nc) [some ⟨A.n,0,none⟩,some ⟨A'.n,0,none⟩],az 73 1 kX (.slice ba 2 bc) [ei A,ei A']]++(dP A (N 0) R++dP A' (N 1) R')
structure wF (xs:List RuleS)(a:Option Addr)(c:Nat)(B:aP)(A:cG)(R:el):Prop where
 alike:Alike R B
 oW:mN R 18
 ra:A.ra=a
theorem Zj {xs:List RuleS}(hx:eP w0 a xs.length xs)(h0:(gg xs).1=0)(pC:Ext No w0 w) :
  aa prog 10 #[.slice a xs.length c] w fun v w'=>∃Y R,v=.pointer (some ⟨Y.w,0,none⟩)∧Ext No w w'∧bg w0 0 18 w' Y (.born xs) R∧∀b,cp (iO Y (.born xs) R) b→w.heap.size≤b:=by
 obtain⟨kM,lp,bR⟩:=dM.born (df.1 h0);have CI:gq gD:=⟨by simp[gD],by decide,by decide⟩;have sM:Alike AZ gD:=⟨rfl,rfl,(fun h=>by cases h),fun _=>rfl⟩;have u9:mN AZ 0:=⟨by simp[AZ,gD],(fun h=>by cases h),by simp[AZ],by show(0:Int)≤9223372036854775807;decide⟩;have JS:(d6 0 gD xs).2.1.rules=xs∧(d6 1 gD xs).2.1.rules=xs:=⟨rfl,rfl⟩;refine zN func10 ntmps10 ?_;have hS:=St.start w No;refine hS.new (fun bw w1 CH hS=>?_);replace hS:=(hS.bJ 75 1 kX).bJ 73 1 kX;have OK:cG:=⟨0,0,0,0,0,0,0,0,0,0,0,0,0,none,0⟩;generalize Bb:(fun i=>(d6 i gD xs).2.1)=N at hS;generalize A9:(fun i=>(d6 i gD xs).2.2)=B;have e0:N 0=(d6 0 gD xs).2.1∧B 0=(d6 0 gD xs).2.2∧N 1=(d6 1 gD xs).2.1∧B 1=(d6 1 gD xs).2.2:=by subst Bb A9;exact⟨rfl,rfl,rfl,rfl⟩
 have yJ:WorldS.born xs=⟨⟨some (N 0),B 0⟩,⟨some (N 1),B 1⟩,xs,[],-1,0,[]⟩:=by subst Bb A9;rfl
 rw[yJ]at bR ⊢;rw[←e0.1,←e0.2.2.1]at JS
 refine d5 aj (fun σ w' q'=>∃(k:Nat) (na:Option Addr) (nc:Nat) (ba:Option Addr) (bc:Nat) (A A':cG) (R R':el),σ=[(4,.int .i64 k),(3,.pointer (some ⟨bw,0,none⟩)),(0,.slice a xs.length c)]∧q'=2-k∧k≤2∧St w No w' (zyJ bw a c xs na nc ba bc N A A' R R' k)∧(1≤k→wF xs a c (B 0) A R)∧(2≤k→wF xs a c (B 1) A' R'))
  (σ':=[(4,.int .i64 ((0:Nat):Int)),(3,.pointer (some ⟨bw,0,none⟩)),(0,.slice a xs.length c)]) (n:=2) zs ⟨0,none,0,none,0,OK,OK,AZ,AZ,rfl,rfl,Nat.zero_le _,hS,fun h=>by omega,fun h=>by omega⟩ ?_
 rintro _ w4 q' ⟨k,Ko,Kq,Ib,bc0,A0,A1,R0,R1,rfl,rfl,hk,hS,Oq,zg⟩;apply aR<;>intro h3
 ·have iw:k=0∨k=1:=by omega
  rcases iw with rfl|rfl
  ·have hsz:=hS.ext.size;refine(PO _).mono ?_;rintro v w5 ⟨bb,rfl,lq,lU,hB⟩;replace hS:=hS.made lU (eh _ _ _) hB (by simp[blk];exact⟨lq,hB.lt⟩);refine(My (B:=gD) (a:=a) (c:=c) (xs:=xs) 0 (.inl rfl) (hS.blk 3 rfl) sM CI u9 zd).mono ?_;rintro v w6 ⟨R',rO,uq,ib⟩;rcases ib with⟨_,A,sL,Cm,NM,rfl,qW⟩|⟨h9,_⟩
   case inr=>exact absurd kM h9
   rw[←e0.1]at qW;rw[←e0.2.1]at rO;have cT:=St.di (A:=[_,_,_]) (B:=[]) hS qW;subst sL;refine cT.lD 0 ?_;refine cT.lit underlying48 (sz:=1) zk (z:=.pointer none) zk rfl rfl (cs:=kX (some ⟨A.b,0,none⟩)) (by rfl) (fun b9 w7 jl hS=>?_);refine hS.d8 ub 2 (ys:=[some ⟨A.b,0,none⟩]) (G:=fun _=>True) underlying48 (bytes:=8) zk (z:=.pointer none) zk rfl rfl (bQ.bG ub (hS.blk 10 rfl) rfl zi (fun _ _=>trivial) rfl) (by unfold maxLen;simp) zi (fun ba bc w8 hS=>?_);refine hS.st 0 rfl (by exact Nat.le_of_ble_eq_true rfl) rfl (fun w9 hS=>?_);refine hS.lD 0 ?_;refine hS.lit underlying47 (sz:=1) zk (z:=.pointer none) zk rfl rfl (cs:=kX (some ⟨A.n,0,none⟩)) (by rfl) (fun Fp Au I2 hS=>?_);refine hS.d8 ub 1 (ys:=[some ⟨A.n,0,none⟩]) (G:=fun _=>True) underlying47 (bytes:=8) zk (z:=.pointer none) zk rfl rfl (bQ.bG ub (hS.blk 11 rfl) rfl zi (fun _ _=>trivial) rfl) (by unfold maxLen;simp) zi (fun na nc OS hS=>?_);refine hS.st 0 rfl (by exact Nat.le_of_ble_eq_true rfl) rfl (fun KH hS=>?_);refine ag.mk zo zo ?_;refine aD.mk ⟨_,[(4,.int .i64 ((1:Nat):Int)),(3,_),(0,_)],?_,zs,⟨1,na,nc,ba,bc,A,A1,R',R1,rfl,rfl,by omega,?_⟩⟩
   ·omega
   ·exact⟨hS.dv [0,1,2,3,4,5,6,7,8,9] zd,fun _=>⟨rO,uq,Cm⟩,fun h=>by omega⟩
  ·have hsz:=hS.ext.size;refine(PO _).mono ?_;rintro v w5 ⟨bb,rfl,lq,lU,hB⟩;replace hS:=hS.made lU (eh _ _ _) hB (by simp[blk];exact⟨lq,hB.lt⟩);refine(My (B:=gD) (a:=a) (c:=c) (xs:=xs) 1 (.inr rfl) (hS.blk 10 rfl) sM CI u9 zd).mono ?_;rintro v w6 ⟨R',rO,uq,ib⟩;rcases ib with⟨_,A,sL,Cm,NM,rfl,qW⟩|⟨h9,_⟩
   case inr=>exact absurd lp h9
   rw[←e0.2.2.1]at qW;rw[←e0.2.2.2]at rO;have cT:=St.di (A:=[_,_,_,_,_,_,_,_,_,_]) (B:=[]) hS qW;subst sL;refine cT.lD 0 ?_;refine cT.lit underlying48 (sz:=1) zk (z:=.pointer none) zk rfl rfl (cs:=kX (some ⟨A.b,0,none⟩)) (by rfl) (fun b9 w7 jl hS=>?_);refine hS.d8 ub 2 (ys:=[some ⟨A.b,0,none⟩]) (G:=fun _=>True) underlying48 (bytes:=8) zk (z:=.pointer none) zk rfl rfl (bQ.bG ub (hS.blk 17 rfl) rfl zi (fun _ _=>trivial) rfl) (by unfold maxLen;simp) zi (fun ba bc w8 hS=>?_);refine hS.st 0 rfl (by exact Nat.le_of_ble_eq_true rfl) rfl (fun w9 hS=>?_);refine hS.lD 0 ?_;refine hS.lit underlying47 (sz:=1) zk (z:=.pointer none) zk rfl rfl (cs:=kX (some ⟨A.n,0,none⟩)) (by rfl) (fun Fp Au I2 hS=>?_);refine hS.d8 ub 1 (ys:=[some ⟨A.n,0,none⟩]) (G:=fun _=>True) underlying47 (bytes:=8) zk (z:=.pointer none) zk rfl rfl (bQ.bG ub (hS.blk 18 rfl) rfl zi (fun _ _=>trivial) rfl) (by unfold maxLen;simp) zi (fun na nc OS hS=>?_);refine hS.st 0 rfl (by exact Nat.le_of_ble_eq_true rfl) rfl (fun KH hS=>?_);refine ag.mk zo zo ?_;refine aD.mk ⟨_,[(4,.int .i64 ((2:Nat):Int)),(3,_),(0,_)],?_,zs,⟨2,na,nc,ba,bc,A0,A,R0,R',rfl,rfl,by omega,?_⟩⟩
   ·omega
   ·exact⟨hS.dv [0,1,2,3,4,5,6,7,8,9,10,11,12,13,14,15,16] zd,fun _=>Oq zd,fun _=>⟨rO,uq,Cm⟩⟩
 ·obtain rfl:k=2:=by omega
  have g0:=Oq zd;have g1:=zg zd;have cT:=(((hS.bJ 222 5 bA).add (e:=dX [] []) qB (QD _) (fun b hb=>by simp[dX]at hb) (fun f _ b _ hb=>by simp[dX]at hb)).bJ 80 2 fv).dv [0,1,2,17,18,19,3,4,5,6,7,8,9,10,11,12,13,14,15,16] zd;replace cT:St w No w4 (iO ⟨bw,Ko,Kq,Ib,bc0,a,c,none,0,[],none,0,A0,A1⟩ ⟨⟨some (N 0),B 0⟩,⟨some (N 1),B 1⟩,xs,[],-1,0,[]⟩ ⟨R0,R1⟩):=cT;have oQ:∀b,cp (iO ⟨bw,Ko,Kq,Ib,bc0,a,c,none,0,[],none,0,A0,A1⟩ ⟨⟨some (N 0),B 0⟩,⟨some (N 1),B 1⟩,xs,[],-1,0,[]⟩ ⟨R0,R1⟩) b→w.heap.size≤b:=fun b ⟨e,he,hb⟩=>(cT.may e he b hb).1.elim (fun h=>h.elim) id
  refine zE ?_;refine⟨⟨bw,Ko,Kq,Ib,bc0,a,c,none,0,[],none,0,A0,A1⟩,⟨R0,R1⟩,rfl,cT.ext,⟨cT.has,bR,pC.trans cT.ext,fun b hb=>Nat.le_trans pC.size (oQ b hb),hx,⟨g0.alike,g0.oW,fun M hM=>?_⟩,⟨g1.alike,g1.oW,fun M hM=>?_⟩⟩,oQ⟩
  ·obtain rfl:=Option.some.inj hM;rw[JS.1];show eP w0 A0.ra xs.length xs;rw[g0.ra];exact hx
  ·obtain rfl:=Option.some.inj hM;rw[JS.2];show eP w0 A1.ra xs.length xs;rw[g1.ra];exact hx
end
section
variable {Y:RWorldA}{W:WorldS}{R:e8}
theorem Gr (k:Int)(h0:0≤k)(hk:k≤9223372036854775807)(w:World):aa prog 53 #[.int .i64 k] w fun v w'=>v=.agg (iN (ju k)).toArray∧Ext No w w':=by
 have h1:0≤k.tdiv 2∧k.tdiv 2≤k∧0≤k.tdiv 6∧k.tdiv 6≤k∧0≤k.tdiv 12∧k.tdiv 12≤k:=by
  rw[Int.tdiv_eq_ediv_of_nonneg h0,Int.tdiv_eq_ediv_of_nonneg h0,Int.tdiv_eq_ediv_of_nonneg h0];omega
 have VB:0≤k.tmod 2∧k.tmod 2<2:=by rw[Int.tmod_eq_emod_of_nonneg h0];omega
 have h2:0≤(k.tdiv 2).tmod 3∧(k.tdiv 2).tmod 3<3:=by rw[Int.tmod_eq_emod_of_nonneg h1.1];omega
 have h6:0≤(k.tdiv 6).tmod 2∧(k.tdiv 6).tmod 2<2:=by rw[Int.tmod_eq_emod_of_nonneg h1.2.2.1];omega
 have fS:(k.tdiv 12).tmod 4=0∨(k.tdiv 12).tmod 4=1∨(k.tdiv 12).tmod 4=2∨(k.tdiv 12).tmod 4=3:=by rw[Int.tmod_eq_emod_of_nonneg h1.2.2.2.2.1];omega
 have cx:∀f,(1+k.tmod 2=2→BK [1,2,6,8] ((k.tdiv 12).tmod 4)=f)→ju k=(⟨1+k.tmod 2,10+(k.tdiv 2).tmod 3,100,77,80+(k.tdiv 6).tmod 2,if 1+k.tmod 2=2 then f else 0⟩:cC):=fun f hf=>by
  unfold ju;split
  ·rename_i h;rw[hf h]
  ·rfl
 refine zN func53 ntmps53 ?_;have hS:=St.start w No;refine hS.new (fun b1 w1 lp hS=>?_);repeat' ((conv=>whnf);first|apply aI.mk|refine bO.mk zd ?_|refine ag.mk zo zo ?_|refine ao.mk zo zo ?_|refine hS.new (fun b2 w3 jc hS=>?_)|(first|apply aM|apply ca|apply cE|apply cD)<;>(intro))
 refine hS.st 1 rfl zl rfl (fun w4 hS=>?_);refine hS.lD 1 ?_;refine aM (fun pv=>?_) (fun pv=>?_)
 case refine_2 =>
  rw[cx 0 (fun h=>absurd h pv),if_neg pv];refine hS.lX 1 ?_;refine hS.sT 0 fun w5 hS=>?_
  refine hS.lX 0 ?_;exact zF
 refine hS.lit underlying25 (sz:=1) zk (z:=.int .i64 0) zk rfl rfl (cs:=[.int .i64 1,.int .i64 2,.int .i64 6,.int .i64 8]) (by rfl) (fun b3 w5 Cx hS=>?_);refine bO.mk zd ?_;refine ag.mk zo zo ?_;refine bO.mk zd ?_;(conv=>whnf);rcases fS with fS|fS|fS|fS
 ·skip
  rw[fS]at cx ⊢;refine ao.mk zd zd ?_;refine hS.ld 2 rfl (v:=.int .i64 1) rfl ?_;refine hS.sT 1 fun w6 hS=>?_
  refine hS.lX 1 ?_;refine hS.sT 0 fun w7 hS=>?_
  refine hS.lX 0 ?_;refine zE ?_;rw[cx 1 (fun _=>rfl),if_pos pv];exact⟨rfl,hS.ext⟩
 ·skip
  rw[fS]at cx ⊢;refine ao.mk zd zd ?_;refine hS.ld 2 rfl (v:=.int .i64 2) rfl ?_;refine hS.sT 1 fun w6 hS=>?_
  refine hS.lX 1 ?_;refine hS.sT 0 fun w7 hS=>?_
  refine hS.lX 0 ?_;refine zE ?_;rw[cx 2 (fun _=>rfl),if_pos pv];exact⟨rfl,hS.ext⟩
 ·skip
  rw[fS]at cx ⊢;refine ao.mk zd zd ?_;refine hS.ld 2 rfl (v:=.int .i64 6) rfl ?_;refine hS.sT 1 fun w6 hS=>?_
  refine hS.lX 1 ?_;refine hS.sT 0 fun w7 hS=>?_
  refine hS.lX 0 ?_;refine zE ?_;rw[cx 6 (fun _=>rfl),if_pos pv];exact⟨rfl,hS.ext⟩
 ·skip
  rw[fS]at cx ⊢;refine ao.mk zd zd ?_;refine hS.ld 2 rfl (v:=.int .i64 8) rfl ?_;refine hS.sT 1 fun w6 hS=>?_
  refine hS.lX 1 ?_;refine hS.sT 0 fun w7 hS=>?_
  refine hS.lX 0 ?_;refine zE ?_;rw[cx 8 (fun _=>rfl),if_pos pv];exact⟨rfl,hS.ext⟩
theorem Gy (k:Int)(h0:0≤k)(hk:k≤9223372036854775807)(w:World):aa prog 54 #[.int .i64 k] w fun v w'=>v=.agg (iN (jv k)).toArray∧Ext No w w':=by
 have h1:0≤k.tdiv 2∧k.tdiv 2≤k∧0≤k.tdiv 4∧k.tdiv 4≤k:=by
  rw[Int.tdiv_eq_ediv_of_nonneg h0,Int.tdiv_eq_ediv_of_nonneg h0];omega
 have VB:0≤k.tmod 2∧k.tmod 2<2:=by rw[Int.tmod_eq_emod_of_nonneg h0];omega
 have h2:0≤(k.tdiv 2).tmod 2∧(k.tdiv 2).tmod 2<2:=by rw[Int.tmod_eq_emod_of_nonneg h1.1];omega
 have h6:0≤(k.tdiv 4).tmod 48∧(k.tdiv 4).tmod 48<48:=by rw[Int.tmod_eq_emod_of_nonneg h1.2.2.1];omega
 have fS:(k.tdiv 4).tmod 4=0∨(k.tdiv 4).tmod 4=1∨(k.tdiv 4).tmod 4=2∨(k.tdiv 4).tmod 4=3:=by rw[Int.tmod_eq_emod_of_nonneg h1.2.2.1];omega
 have cx:∀f,(1+k.tmod 2=2→BK [3,2,6,8] ((k.tdiv 4).tmod 4)=f)→jv k=(⟨1+k.tmod 2,77,80+(k.tdiv 2).tmod 2,1,2000+(k.tdiv 4).tmod 48,if 1+k.tmod 2=2 then f else 0⟩:cC):=fun f hf=>by
  unfold jv;split
  ·rename_i h;rw[hf h]
  ·rfl
 refine zN func54 ntmps54 ?_;have hS:=St.start w No;refine hS.new (fun b1 w1 lp hS=>?_);repeat' ((conv=>whnf);first|apply aI.mk|refine bO.mk zd ?_|refine ag.mk zo zo ?_|refine ao.mk zo zo ?_|refine hS.new (fun b2 w3 jc hS=>?_)|(first|apply aM|apply ca|apply cE|apply cD)<;>(intro))
 refine hS.st 1 rfl zl rfl (fun w4 hS=>?_);refine hS.lD 1 ?_;refine aM (fun pv=>?_) (fun pv=>?_)
 case refine_2 =>
  rw[cx 0 (fun h=>absurd h pv),if_neg pv];refine hS.lX 1 ?_;refine hS.sT 0 fun w5 hS=>?_
  refine hS.lX 0 ?_;exact zF
 refine hS.lit underlying25 (sz:=1) zk (z:=.int .i64 0) zk rfl rfl (cs:=[.int .i64 3,.int .i64 2,.int .i64 6,.int .i64 8]) (by rfl) (fun b3 w5 Cx hS=>?_);refine bO.mk zd ?_;refine ag.mk zo zo ?_;refine bO.mk zd ?_;(conv=>whnf);rcases fS with fS|fS|fS|fS
 ·skip
  rw[fS]at cx ⊢;refine ao.mk zd zd ?_;refine hS.ld 2 rfl (v:=.int .i64 3) rfl ?_;refine hS.sT 1 fun w6 hS=>?_
  refine hS.lX 1 ?_;refine hS.sT 0 fun w7 hS=>?_
  refine hS.lX 0 ?_;refine zE ?_;rw[cx 3 (fun _=>rfl),if_pos pv];exact⟨rfl,hS.ext⟩
 ·skip
  rw[fS]at cx ⊢;refine ao.mk zd zd ?_;refine hS.ld 2 rfl (v:=.int .i64 2) rfl ?_;refine hS.sT 1 fun w6 hS=>?_
  refine hS.lX 1 ?_;refine hS.sT 0 fun w7 hS=>?_
  refine hS.lX 0 ?_;refine zE ?_;rw[cx 2 (fun _=>rfl),if_pos pv];exact⟨rfl,hS.ext⟩
 ·skip
  rw[fS]at cx ⊢;refine ao.mk zd zd ?_;refine hS.ld 2 rfl (v:=.int .i64 6) rfl ?_;refine hS.sT 1 fun w6 hS=>?_
  refine hS.lX 1 ?_;refine hS.sT 0 fun w7 hS=>?_
  refine hS.lX 0 ?_;refine zE ?_;rw[cx 6 (fun _=>rfl),if_pos pv];exact⟨rfl,hS.ext⟩
 ·skip
  rw[fS]at cx ⊢;refine ao.mk zd zd ?_;refine hS.ld 2 rfl (v:=.int .i64 8) rfl ?_;refine hS.sT 1 fun w6 hS=>?_
  refine hS.lX 1 ?_;refine hS.sT 0 fun w7 hS=>?_
  refine hS.lX 0 ?_;refine zE ?_;rw[cx 8 (fun _=>rfl),if_pos pv];exact⟨rfl,hS.ext⟩
end
section
variable {Y:RWorldA}{W:WorldS}{R:e8}
theorem RH (n:Int)(k:Nat)(h:bg w0 m j w Y W R)(hm:m+34*k≤40000000)(hj:j+18*k≤50000000):aa prog 51 #[.pointer (some ⟨Y.w,0,none⟩),.int .i64 n,.int .i64 (k:Int)] w fun v w'=>v=.int .i64 ((W.dO n k).1:Nat)∧aT w0 (m+34*k) (j+18*k) w Y W R (W.dO n k).2 w':=by
 refine zN func51 ntmps51 ?_
 refine d5 aj (fun σ w' r=>∃(i:Nat) (W':WorldS),σ=[(7,.int .i64 i),(2,.int .i64 (k:Int)),(1,.int .i64 n),(0,.pointer (some ⟨Y.w,0,none⟩))]∧r=k-i∧i≤k∧aT w0 (m+34*i) (j+18*i) w Y W R W' w'∧W.dO n k=W'.dO n (k-i))
  (σ':=[(7,.int .i64 ((0:Nat):Int)),(2,.int .i64 (k:Int)),(1,.int .i64 n),(0,.pointer (some ⟨Y.w,0,none⟩))]) (n:=k) zs ⟨0,W,rfl,rfl,Nat.zero_le _,aT.same h (Nat.le_refl _) (Nat.le_refl _) (Ext.refl _ _),rfl⟩ ?_
 rintro _ w1 r ⟨i,W',rfl,rfl,hi,⟨Y1,R1,hw,hT,h1⟩,hr⟩;apply aR<;>intro h3
 ·obtain⟨z,hz⟩:∃z,k-i=z+1:=⟨k-i-1,by omega⟩;rw[hz]at hr;(conv=>whnf);rw[←hw];refine(EC n h1 zo zo).mono ?_;rintro v w2 ⟨rfl,Y2,R2,gw,jX,h2⟩;have hd:aT w0 (m+34*(i+1)) (j+18*(i+1)) w Y W R (W'.tick n).2 w2:=⟨Y2,R2,gw.trans hw,hT.trans jX,h2⟩;have hc:W'.dO n (z+1)=if (W'.tick n).1≠0 then W'.tick n else (W'.tick n).2.dO n z:=rfl
  rw[hc]at hr;apply aR<;>intro he
  ·rw[if_pos zo]at hr;refine zE ?_;rw[hr];exact⟨rfl,hd.mono zo zo⟩
  ·rw[if_neg zo]at hr;refine ag.mk zo zo ?_;refine aD.mk ⟨_,[(7,.int .i64 ((i+1:Nat):Int)),(2,_),(1,_),(0,_)],?_,zs,⟨i+1,(W'.tick n).2,rfl,rfl,by omega,hd,by rw[hr];congr 1;omega⟩⟩;omega
 ·obtain rfl:i=k:=by omega
  rw[Nat.sub_self]at hr;refine zE ?_;rw[hr];exact⟨rfl,Y1,R1,hw,hT,h1⟩
set_option maxHeartbeats 4000000 in
set_option maxRecDepth 10000 in
theorem zwM (v:Int)(hv:v≤9223372036854775807)(h:bg w0 m j w Y W R)(hm:m+340≤40000000)(C5:j+180≤50000000):aa prog 27 #[.pointer (some ⟨Y.w,0,none⟩),.int .i64 v] w fun u w'=>u=.int .i64 (W.say v).1∧aT w0 (m+340) (j+180) w Y W R (W.say v).2 w':=by
 by_cases h0:v<0
 ·rw[show W.say v=(-1,W) from if_pos h0];refine r5 aj func27 zk rfl ntmps27 zl ?_;(conv=>whnf);refine aM (fun _=>?_) (fun h=>absurd h0 h);repeat' first|refine zP ?_|apply aR<;>intro
  exact⟨rfl,aT.same h (Nat.le_add_right _ _) (Nat.le_add_right _ _) (Ext.refl _ _)⟩
 rw[show W.say v=((((W.one v).1:Nat):Int),(W.one v).2) from if_neg h0];have h0:0≤v:=by omega
 obtain⟨i,hi,he⟩:=UI h0
 have lE:0≤v.tdiv 16∧v.tdiv 16≤v:=by
  rw[Int.tdiv_eq_ediv_of_nonneg h0];omega
 have cZ:=h.ok.aN;generalize eR:v.tdiv 16=k at lE;have iw:0≤k.tmod 2∧k.tmod 2<2:=by rw[Int.tmod_eq_emod_of_nonneg lE.1];omega
 have Ju:0≤k.tdiv 2∧k.tdiv 2≤k:=by
  rw[Int.tdiv_eq_ediv_of_nonneg lE.1];omega
 have Js:0≤(k.tdiv 2).tmod 30∧(k.tdiv 2).tmod 30<30:=by rw[Int.tmod_eq_emod_of_nonneg Ju.1];omega
 refine r5 aj func27 zk rfl ntmps27 zl ?_;have hS:=h.has.start;(conv=>whnf);refine aM (fun h=>absurd h zo) (fun _=>?_);(conv=>whnf);refine bO.mk zd ?_;rw[eR];refine ag.mk zo zo ?_;(conv=>whnf);refine bO.mk zd ?_;rw[he];by_cases hf:W.aN.length=0
 ·by_cases h5:i<5
  ·have aG:W.one v=(4,W):=by
    unfold WorldS.one;rw[if_pos ⟨by rw[he];omega,hf⟩]
   rw[aG];have pE:i=0∨i=1∨i=2∨i=3∨i=4:=by omega
   rcases pE with rfl|rfl|rfl|rfl|rfl
   all_goals
    (conv=>whnf);refine hS.ld 0 rfl rfl ?_;rw[hf];repeat' first|refine zP ?_|apply aR<;>intro
    exact⟨rfl,aT.same h (Nat.le_add_right _ _) (Nat.le_add_right _ _) (Ext.refl _ _)⟩
  ·have pE:i=5∨i=6∨i=7∨i=8∨i=9∨i=10∨i=11∨i=12∨i=13∨i=14∨i=15:=by omega
   rcases pE with rfl|rfl|rfl|rfl|rfl|rfl|rfl|rfl|rfl|rfl|rfl
   ·skip
    have aG:W.one v=W.tick (k.tmod 2):=by simp[WorldS.one,he,eR]
    rw[aG];repeat' first|refine zP ?_|(refine(EC _ h zo zo).mono ?_;rintro v1 w1 ⟨rfl,hX⟩)|apply aR<;>intro
    exact⟨rfl,hX.mono zo zo⟩
   ·skip
    have aG:W.one v=W.tick (k.tmod 2):=by simp[WorldS.one,he,eR]
    rw[aG];repeat' first|refine zP ?_|(refine(EC _ h zo zo).mono ?_;rintro v1 w1 ⟨rfl,hX⟩)|apply aR<;>intro
    exact⟨rfl,hX.mono zo zo⟩
   ·skip
    have aG:W.one v=W.dO (k.tmod 2) 10:=by simp[WorldS.one,he,eR]
    rw[aG];repeat' first|refine zP ?_|(refine(RH _ 10 h zo zo).mono ?_;rintro v1 w1 ⟨rfl,hX⟩)|apply aR<;>intro
    exact⟨rfl,hX.mono zo zo⟩
   ·skip
    have aG:W.one v=((W.inside (ju k)).1,(W.inside (ju k)).2.2):=by simp[WorldS.one,he,eR]
    rw[aG];(conv=>whnf);refine(Gr k lE.1 zo _).mono ?_;rintro v1 w1 ⟨rfl,hx⟩;(conv=>whnf);refine(Gq (ju k) (h.no hx) zo).mono ?_;rintro v1 w2 ⟨rfl,Y2,R2,gw,jX,h2⟩;repeat' first|refine zP ?_|apply aR<;>intro
    exact⟨rfl,aT.mono ⟨Y2,R2,gw,(ak.aF h.has hx).trans jX,h2⟩ zo zo⟩
   ·skip
    have aG:W.one v=((W.inside (ju k)).1,(W.inside (ju k)).2.2):=by simp[WorldS.one,he,eR]
    rw[aG];(conv=>whnf);refine(Gr k lE.1 zo _).mono ?_;rintro v1 w1 ⟨rfl,hx⟩;(conv=>whnf);refine(Gq (ju k) (h.no hx) zo).mono ?_;rintro v1 w2 ⟨rfl,Y2,R2,gw,jX,h2⟩;repeat' first|refine zP ?_|apply aR<;>intro
    exact⟨rfl,aT.mono ⟨Y2,R2,gw,(ak.aF h.has hx).trans jX,h2⟩ zo zo⟩
   ·skip
    have aG:W.one v=((W.outside (jv k)).1,(W.outside (jv k)).2.2):=by simp[WorldS.one,he,eR]
    rw[aG];(conv=>whnf);refine(Gy k lE.1 zo _).mono ?_;rintro v1 w1 ⟨rfl,hx⟩;(conv=>whnf);refine(Gx (jv k) (h.no hx) zo).mono ?_;rintro v1 w2 ⟨rfl,Y2,R2,gw,jX,h2⟩;repeat' first|refine zP ?_|apply aR<;>intro
    exact⟨rfl,aT.mono ⟨Y2,R2,gw,(ak.aF h.has hx).trans jX,h2⟩ zo zo⟩
   ·skip
    have aG:W.one v=((W.outside (jv k)).1,(W.outside (jv k)).2.2):=by simp[WorldS.one,he,eR]
    rw[aG];(conv=>whnf);refine(Gy k lE.1 zo _).mono ?_;rintro v1 w1 ⟨rfl,hx⟩;(conv=>whnf);refine(Gx (jv k) (h.no hx) zo).mono ?_;rintro v1 w2 ⟨rfl,Y2,R2,gw,jX,h2⟩;repeat' first|refine zP ?_|apply aR<;>intro
    exact⟨rfl,aT.mono ⟨Y2,R2,gw,(ak.aF h.has hx).trans jX,h2⟩ zo zo⟩
   ·skip
    have aG:W.one v=W.down (k.tmod 2):=by simp[WorldS.one,he,eR]
    rw[aG];repeat' first|refine zP ?_|(refine(Sn _ h).mono ?_;rintro v1 w1 ⟨rfl,hX⟩)|apply aR<;>intro
    exact⟨rfl,hX.mono zo zo⟩
   ·skip
    have aG:W.one v=W.up (k.tmod 2):=by simp[WorldS.one,he,eR]
    rw[aG];repeat' ((conv=>whnf);first|apply aI.mk|refine bO.mk zd ?_|refine ag.mk zo zo ?_|refine ao.mk zo zo ?_|(refine(Sj _ h zo).mono ?_;rintro v1 w1 ⟨rfl,hX⟩)|(first|apply aM|apply ca|apply cE|apply cD)<;>(intro))
    exact⟨rfl,hX.mono zo zo⟩
   ·skip
    have aG:W.one v=W.cut (k.tmod 2) ((k.tdiv 2).tmod 30):=by simp[WorldS.one,he,eR]
    rw[aG];repeat' ((conv=>whnf);first|apply aI.mk|refine bO.mk zd ?_|refine ag.mk zo zo ?_|refine ao.mk zo zo ?_|(refine(T8 _ _ zo h).mono ?_;rintro v1 w1 ⟨rfl,hX⟩)|(first|apply aM|apply ca|apply cE|apply cD)<;>(intro))
    exact⟨rfl,hX.mono zo zo⟩
   ·have aG:W.one v=(0,W):=by simp[WorldS.one,he]
    rw[aG];repeat' first|refine zP ?_|apply aR<;>intro
    exact⟨rfl,aT.same h (Nat.le_add_right _ _) (Nat.le_add_right _ _) (Ext.refl _ _)⟩
 ·have pE:i=0∨i=1∨i=2∨i=3∨i=4∨(i=5∨i=6∨i=7∨i=8∨i=9∨i=10∨i=11∨i=12∨i=13∨i=14∨i=15):=by omega
  rcases pE with rfl|rfl|rfl|rfl|rfl|pE
  ·skip
   have aG:W.one v=W.cq (k.tmod W.aN.length):=by simp[WorldS.one,he,eR,hf]
   rw[aG];(conv=>whnf);refine hS.ld 0 rfl rfl ?_;(conv=>whnf);refine aM (fun h5=>absurd (show W.aN.length=0 by omega) hf) (fun _=>?_);(conv=>whnf);refine hS.ld 0 rfl rfl ?_;(conv=>whnf);refine bO.mk zo ?_;(conv=>whnf);refine(KW _ h).mono ?_;rintro v1 w1 ⟨rfl,hX⟩;repeat' first|refine zP ?_|apply aR<;>intro
   exact⟨rfl,hX.mono zo zo⟩
  ·skip
   have aG:W.one v=W.cq (k.tmod W.aN.length):=by simp[WorldS.one,he,eR,hf]
   rw[aG];(conv=>whnf);refine hS.ld 0 rfl rfl ?_;(conv=>whnf);refine aM (fun h5=>absurd (show W.aN.length=0 by omega) hf) (fun _=>?_);(conv=>whnf);refine hS.ld 0 rfl rfl ?_;(conv=>whnf);refine bO.mk zo ?_;(conv=>whnf);refine(KW _ h).mono ?_;rintro v1 w1 ⟨rfl,hX⟩;repeat' first|refine zP ?_|apply aR<;>intro
   exact⟨rfl,hX.mono zo zo⟩
  ·skip
   have aG:W.one v=W.cq (k.tmod W.aN.length):=by simp[WorldS.one,he,eR,hf]
   rw[aG];(conv=>whnf);refine hS.ld 0 rfl rfl ?_;(conv=>whnf);refine aM (fun h5=>absurd (show W.aN.length=0 by omega) hf) (fun _=>?_);(conv=>whnf);refine hS.ld 0 rfl rfl ?_;(conv=>whnf);refine bO.mk zo ?_;(conv=>whnf);refine(KW _ h).mono ?_;rintro v1 w1 ⟨rfl,hX⟩;repeat' first|refine zP ?_|apply aR<;>intro
   exact⟨rfl,hX.mono zo zo⟩
  ·skip
   have aG:W.one v=W.drop (k.tmod W.aN.length):=by simp[WorldS.one,he,eR,hf]
   rw[aG];(conv=>whnf);refine hS.ld 0 rfl rfl ?_;(conv=>whnf);refine aM (fun h5=>absurd (show W.aN.length=0 by omega) hf) (fun _=>?_);(conv=>whnf);refine hS.ld 0 rfl rfl ?_;(conv=>whnf);refine bO.mk zo ?_;(conv=>whnf);refine(zrD _ h).mono ?_;rintro v1 w1 ⟨rfl,hX⟩;repeat' first|refine zP ?_|apply aR<;>intro
   exact⟨rfl,hX.mono zo zo⟩
  ·skip
   have aG:W.one v=W.dw (k.tmod W.aN.length):=by simp[WorldS.one,he,eR,hf]
   rw[aG];(conv=>whnf);refine hS.ld 0 rfl rfl ?_;(conv=>whnf);refine aM (fun h5=>absurd (show W.aN.length=0 by omega) hf) (fun _=>?_);(conv=>whnf);refine hS.ld 0 rfl rfl ?_;(conv=>whnf);refine bO.mk zo ?_;(conv=>whnf);refine(zpm _ h).mono ?_;rintro v1 w1 ⟨rfl,hX⟩;repeat' first|refine zP ?_|apply aR<;>intro
   exact⟨rfl,hX.mono zo zo⟩
  ·skip
   rcases pE with rfl|rfl|rfl|rfl|rfl|rfl|rfl|rfl|rfl|rfl|rfl
   ·skip
    have aG:W.one v=W.tick (k.tmod 2):=by simp[WorldS.one,he,eR]
    rw[aG];repeat' first|refine zP ?_|(refine(EC _ h zo zo).mono ?_;rintro v1 w1 ⟨rfl,hX⟩)|apply aR<;>intro
    exact⟨rfl,hX.mono zo zo⟩
   ·skip
    have aG:W.one v=W.tick (k.tmod 2):=by simp[WorldS.one,he,eR]
    rw[aG];repeat' first|refine zP ?_|(refine(EC _ h zo zo).mono ?_;rintro v1 w1 ⟨rfl,hX⟩)|apply aR<;>intro
    exact⟨rfl,hX.mono zo zo⟩
   ·skip
    have aG:W.one v=W.dO (k.tmod 2) 10:=by simp[WorldS.one,he,eR]
    rw[aG];repeat' first|refine zP ?_|(refine(RH _ 10 h zo zo).mono ?_;rintro v1 w1 ⟨rfl,hX⟩)|apply aR<;>intro
    exact⟨rfl,hX.mono zo zo⟩
   ·skip
    have aG:W.one v=((W.inside (ju k)).1,(W.inside (ju k)).2.2):=by simp[WorldS.one,he,eR]
    rw[aG];(conv=>whnf);refine(Gr k lE.1 zo _).mono ?_;rintro v1 w1 ⟨rfl,hx⟩;(conv=>whnf);refine(Gq (ju k) (h.no hx) zo).mono ?_;rintro v1 w2 ⟨rfl,Y2,R2,gw,jX,h2⟩;repeat' first|refine zP ?_|apply aR<;>intro
    exact⟨rfl,aT.mono ⟨Y2,R2,gw,(ak.aF h.has hx).trans jX,h2⟩ zo zo⟩
   ·skip
    have aG:W.one v=((W.inside (ju k)).1,(W.inside (ju k)).2.2):=by simp[WorldS.one,he,eR]
    rw[aG];(conv=>whnf);refine(Gr k lE.1 zo _).mono ?_;rintro v1 w1 ⟨rfl,hx⟩;(conv=>whnf);refine(Gq (ju k) (h.no hx) zo).mono ?_;rintro v1 w2 ⟨rfl,Y2,R2,gw,jX,h2⟩;repeat' first|refine zP ?_|apply aR<;>intro
    exact⟨rfl,aT.mono ⟨Y2,R2,gw,(ak.aF h.has hx).trans jX,h2⟩ zo zo⟩
   ·skip
    have aG:W.one v=((W.outside (jv k)).1,(W.outside (jv k)).2.2):=by simp[WorldS.one,he,eR]
    rw[aG];(conv=>whnf);refine(Gy k lE.1 zo _).mono ?_;rintro v1 w1 ⟨rfl,hx⟩;(conv=>whnf);refine(Gx (jv k) (h.no hx) zo).mono ?_;rintro v1 w2 ⟨rfl,Y2,R2,gw,jX,h2⟩;repeat' first|refine zP ?_|apply aR<;>intro
    exact⟨rfl,aT.mono ⟨Y2,R2,gw,(ak.aF h.has hx).trans jX,h2⟩ zo zo⟩
   ·skip
    have aG:W.one v=((W.outside (jv k)).1,(W.outside (jv k)).2.2):=by simp[WorldS.one,he,eR]
    rw[aG];(conv=>whnf);refine(Gy k lE.1 zo _).mono ?_;rintro v1 w1 ⟨rfl,hx⟩;(conv=>whnf);refine(Gx (jv k) (h.no hx) zo).mono ?_;rintro v1 w2 ⟨rfl,Y2,R2,gw,jX,h2⟩;repeat' first|refine zP ?_|apply aR<;>intro
    exact⟨rfl,aT.mono ⟨Y2,R2,gw,(ak.aF h.has hx).trans jX,h2⟩ zo zo⟩
   ·skip
    have aG:W.one v=W.down (k.tmod 2):=by simp[WorldS.one,he,eR]
    rw[aG];repeat' first|refine zP ?_|(refine(Sn _ h).mono ?_;rintro v1 w1 ⟨rfl,hX⟩)|apply aR<;>intro
    exact⟨rfl,hX.mono zo zo⟩
   ·skip
    have aG:W.one v=W.up (k.tmod 2):=by simp[WorldS.one,he,eR]
    rw[aG];repeat' ((conv=>whnf);first|apply aI.mk|refine bO.mk zd ?_|refine ag.mk zo zo ?_|refine ao.mk zo zo ?_|(refine(Sj _ h zo).mono ?_;rintro v1 w1 ⟨rfl,hX⟩)|(first|apply aM|apply ca|apply cE|apply cD)<;>(intro))
    exact⟨rfl,hX.mono zo zo⟩
   ·skip
    have aG:W.one v=W.cut (k.tmod 2) ((k.tdiv 2).tmod 30):=by simp[WorldS.one,he,eR]
    rw[aG];repeat' ((conv=>whnf);first|apply aI.mk|refine bO.mk zd ?_|refine ag.mk zo zo ?_|refine ao.mk zo zo ?_|(refine(T8 _ _ zo h).mono ?_;rintro v1 w1 ⟨rfl,hX⟩)|(first|apply aM|apply ca|apply cE|apply cD)<;>(intro))
    exact⟨rfl,hX.mono zo zo⟩
   ·have aG:W.one v=(0,W):=by simp[WorldS.one,he]
    rw[aG];repeat' first|refine zP ?_|apply aR<;>intro
    exact⟨rfl,aT.same h (Nat.le_add_right _ _) (Nat.le_add_right _ _) (Ext.refl _ _)⟩
end
section
variable {Y:RWorldA}{W:WorldS}{R:e8}
set_option maxRecDepth 100000 in
theorem zwO {n:Nat}{xs:List Int}(hx:bQ w0 1 eY (fun v=>v≤9223372036854775807) a n xs)(hn:n≤300)(h:bg w0 m j w Y W R)(hm:m+n*340≤40000000)(C5:j+n*180≤50000000) :
  aa prog 11 #[.pointer (some ⟨Y.w,0,none⟩),.slice a n c] w fun v w'=>∃a' c' Y' R',v=.slice a' n c'∧Y'.w=Y.w∧ak w w' (iO Y W R) (az 3 1 eY v (W.run xs).1::iO Y' (W.run xs).2 R')∧bg w0 (m+n*340) (j+n*180) w' Y' (W.run xs).2 R':=by
 have hl:=hx.len;refine zN func11 ntmps11 ?_;have hS:St w (cp (iO Y W R)) w ([az 3 1 eY (.slice none 0 0) []]++iO Y W R):=(h.has.start.bJ 3 1 eY).perm (List.perm_append_comm)
 refine d5 aj (fun σ w' r=>∃(k:Nat) (a':Option Addr) (c':Nat) (Y':RWorldA) (R':e8),σ=[(6,.int .i64 k),(5,.slice a' k c'),(1,.slice a n c),(0,.pointer (some ⟨Y.w,0,none⟩))]∧r=n-k∧k≤n∧Y'.w=Y.w∧bg w0 (m+k*340) (j+k*180) w' Y' (W.run (xs.take k)).2 R'∧St w (cp (iO Y W R)) w' ([az 3 1 eY (.slice a' k c') (W.run (xs.take k)).1]++iO Y' (W.run (xs.take k)).2 R'))
  (σ':=[(6,.int .i64 ((0:Nat):Int)),(5,.slice none 0 0),(1,.slice a n c),(0,.pointer (some ⟨Y.w,0,none⟩))]) (n:=n) zs ⟨0,none,0,Y,R,rfl,rfl,Nat.zero_le _,rfl,by simpa[WorldS.run]using h,hS⟩ ?_
 rintro _ w1 r ⟨k,a',c',Y',R',rfl,rfl,hk,hw,aX,hS⟩;apply aR<;>intro h3
 ·have fC:=hx.no aX.ext;obtain⟨b0,o0,v,hv,J3,rfl,kM,s9⟩:=fC.at (k:=k) zo;have aw:=S5 (W:=W) hv;have lT:(W.run (xs.take k)).1.length=k:=by rw[MM,List.length_take];omega
  generalize W.run (xs.take k)=Q at *;refine aM (fun _=>?_) (fun h=>absurd (show(k:Int)<3000 by omega) h);refine ao.mk zo zo ?_;refine g9 (s9.one 0 rfl) ?_;(conv=>whnf);rw[←hw];refine(zwM v J3 aX zo zo).mono ?_;rintro v1 w2 ⟨rfl,Y2,R2,gw,jX,h2⟩;replace hS:=St.di (A:=[_]) (B:=[]) (H:=iO Y' Q.2 R') (by simpa using hS) jX;rw[List.append_nil]at hS;refine hS.lit underlying25 (sz:=1) zk (z:=.int .i64 0) zk rfl rfl (cs:=eY (Q.2.say v).1) (by rfl) (fun b9 w4 jl hS=>?_);replace hS:=hS.perm List.perm_append_comm;refine hS.d8 kU 1 (ys:=[(Q.2.say v).1]) (G:=fun _=>True) underlying25 (bytes:=8) zk (z:=.int .i64 0) zk rfl rfl (bQ.bG kU (hS.blk 0 rfl) rfl zi (fun _ _=>trivial) rfl) (by rw[lT];unfold maxLen;omega) (by rw[lT];omega) (fun a2 c2 w5 hS=>?_);rw[lT]at hS ⊢;replace hS:=(hS.as (H':=[_]++([az 3 1 eY (.slice a2 (k+1) c2) (Q.1++[(Q.2.say v).1])]++iO Y2 (Q.2.say v).2 R2)) rfl).weaken (List.sublist_append_right _ _);have V5:ak w w5 (iO Y W R) (iO Y2 (Q.2.say v).2 R2):=⟨hS.ext,hS.has.right,fun e he b hb=>(hS.may e (List.mem_append_right _ he) b hb).1⟩;have h9:=h.turns V5 h2.ok h2.rules h2.a h2.b;refine ag.mk zo zo ?_;refine aD.mk ⟨_,[(6,.int .i64 ((k+1:Nat):Int)),(5,.slice a2 (k+1) c2),(1,_),(0,_)],?_,zs,⟨k+1,a2,c2,Y2,R2,rfl,rfl,by omega,gw,?_,?_⟩⟩
  ·omega
  ·rw[aw,show m+(k+1)*340=m+k*340+340 by omega,show j+(k+1)*180=j+k*180+180 by omega];exact h9
  ·rw[aw];exact hS
 ·obtain rfl:k=n:=by omega
  rw[List.take_of_length_le zo]at hS aX;refine zE ?_;exact⟨a',c',Y',R',rfl,hw,St.turns hS,aX⟩
set_option maxRecDepth 10000 in
end
section
end
section
variable {X:WorldA}{Y:RWorldA}{W:WorldS}{R:e8}
set_option maxRecDepth 10000 in
set_option maxHeartbeats 1000000 in
end
section
variable {w1:World}{X:WorldA}{Y:RWorldA}{W:WorldS}{R:e8}   {P L H':List bZ}{e:bZ}
theorem St.vI (hS:St w0 No w (P++(L++iO Y W R)))(h:bg w0 m j w1 Y W R):bg w0 m j w Y W R :=
 ⟨hS.has.right.right,h.ok,hS.ext,fun _ hb=>hS.lJ (dJ.2 (.inr (dJ.2 (.inr hb)))),h.rules,h.a,h.b⟩
theorem St.sF (h:St w0 S w (P++(L++H)))(k:ak w w' H (e::H')):St w0 S w' ((P++[e])++(L++H')):=by
 have h1:=St.di (A:=P++L) (H:=H) (B:=[]) (h.perm (List.Perm.of_eq zi)) k;refine h1.perm ?_;simp only[List.append_assoc,List.append_nil,List.cons_append,List.nil_append];exact List.Perm.append_left P List.perm_middle
theorem St.uX (h:St w0 S w (P++(L++H)))(k:ak w w' H H'):St w0 S w' (P++(L++H')) :=
 (St.di (A:=P++L) (H:=H) (B:=[]) (h.perm (List.Perm.of_eq zi)) k).perm (List.Perm.of_eq zi)
end
end
end Go.Proofs.YtggfpjldhglmeaaGreatDoor