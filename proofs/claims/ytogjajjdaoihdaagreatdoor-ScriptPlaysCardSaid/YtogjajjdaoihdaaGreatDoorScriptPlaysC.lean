/-
  Texts of this claim, joined: Table, Listed, TableB, TellS, RefTable, Teller, TellerB, RefTeller, TellL, RefTellN, MapT.
-/
import Derived.Test.YtogjajjdaoihdaaGreatDoorScriptPlaysB
import Derived.Laws.Tables
import Derived.Laws.OwnMore
import Derived.Laws.StructEq
import Derived.Laws.Cover2

namespace Go.Proofs.YtogjajjdaoihdaaGreatDoor
set_option maxRecDepth 20000
open Go Ev

def zlt (pr ia ip fa fp:Int) (f:FlowS):Bool:=decide (f.proto=pr)&&(decide (f.ia=ia∧f.ip=ip)&&decide (f.fa=fa∧f.fp=fp))
def zlx (pr po fa fp:Int) (f:FlowS):Bool:=decide (f.proto=pr)&&(decide (f.port=po)&&decide (f.fa=fa∧f.fp=fp))
def za9 (p:FlowS→Bool) (c:CellS):Bool:=decide (c.f.proto≠0)&&p c.f
def MirS.find (T:MirS) (pr ia ip fa fp:Int):Int:=zc3 (za9 (zlt pr ia ip fa fp)) T.cells 0
def MirS.back (T:MirS) (pr po fa fp:Int):Int:=zc3 (za9 (zlx pr po fa fp)) T.cells 0
def atI (k:Int):Int:=if k < 0 then 0 else k

theorem zuu (a b c d:Int):(zpv a b=zpv c d)=(a=c∧b=d):=by simp [zpv]
theorem zrV {a b c d:Int}{k:Value→Prop}(hk:k (.bool (decide (a=c∧b=d)))) :
  PureC Tryz.prog (do eqGuard .eql 39 (.tmp 0) (.tmp 0) (.agg #[.int .i64 a,.int .i64 b]) (.agg #[.int .i64 c,.int .i64 d]);Go.binOp .eql 39 (.agg #[.int .i64 a,.int .i64 b]) (.agg #[.int .i64 c,.int .i64 d])) k :=
 eqS (a:=zpv a b) (b:=zpv c d) (ks:=[.int,.int]) (by kernel_rfl) (by kernel_rfl) (by kernel_rfl) rfl rfl (by simpa only [zuu] using hk)
section
variable {w : World} {b : Nat} {T : MirS}

theorem zqz (f:FlowS) (pr ia ip fa fp:Int) (p q r:Nat) (hp:w.cell? ⟨p,0,none⟩=some (.int .i64 pr)) (hq:CellsAt w q 0 [.int .i64 ia,.int .i64 ip]) (hr:CellsAt w r 0 [.int .i64 fa,.int .i64 fp]) :
  CallC Tryz.prog 290 ([Value.agg (zai f).toArray]++[Value.pointer (some ⟨p,0,none⟩),.pointer (some ⟨q,0,none⟩),.pointer (some ⟨r,0,none⟩)]).toArray w fun v w'=>v = .bool (zlt pr ia ip fa fp f)∧Ext No w w':=by
 refine zaa tabOk Tryz.func290 (by kernel_rfl) rfl Tryz.ntmps290 (lbO rfl) ?_;have hS:=St.start w No;(conv=>whnf);refine hS.new (fun b w' hb hS=>?_);repeat' ((conv=>whnf);first|apply RetC.mk|refine rgO ?_|refine ixO ?_|refine hS.ld 0 rfl rfl ?_|refine hS.ldr hp id ?_|refine hS.la 0 rfl (l:=[.int .i64 f.ia,.int .i64 f.ip]) rfl rfl ?_|refine hS.la 0 rfl (l:=[.int .i64 f.fa,.int .i64 f.fp]) rfl rfl ?_|refine hS.lar (l:=[.int .i64 ia,.int .i64 ip]) rfl hq id ?_|refine hS.lar (l:=[.int .i64 fa,.int .i64 fp]) rfl hr id ?_|refine zrV ?_|(first|apply brD|apply zad|apply brN|apply brI)<;>(intro))
 all_goals refine ⟨?_,hS.ext⟩
 all_goals simp_all [zlt]
theorem zrH (f:FlowS) (pr po fa fp:Int) (p q r:Nat) (hp:w.cell? ⟨p,0,none⟩=some (.int .i64 pr)) (hq:w.cell? ⟨q,0,none⟩=some (.int .i64 po)) (hr:CellsAt w r 0 [.int .i64 fa,.int .i64 fp]) :
  CallC Tryz.prog 299 ([Value.agg (zai f).toArray]++[Value.pointer (some ⟨p,0,none⟩),.pointer (some ⟨q,0,none⟩),.pointer (some ⟨r,0,none⟩)]).toArray w fun v w'=>v = .bool (zlx pr po fa fp f)∧Ext No w w':=by
 refine zaa tabOk Tryz.func299 (by kernel_rfl) rfl Tryz.ntmps299 (lbO rfl) ?_;have hS:=St.start w No;(conv=>whnf);refine hS.new (fun b w' hb hS=>?_);repeat' ((conv=>whnf);first|apply RetC.mk|refine rgO ?_|refine ixO ?_|refine hS.ld 0 rfl rfl ?_|refine hS.ldr hp id ?_|refine hS.ldr hq id ?_|refine hS.la 0 rfl (l:=[.int .i64 f.fa,.int .i64 f.fp]) rfl rfl ?_|refine hS.lar (l:=[.int .i64 fa,.int .i64 fp]) rfl hr id ?_|refine zrV ?_|(first|apply brD|apply zad|apply brN|apply brI)<;>(intro))
 all_goals refine ⟨?_,hS.ext⟩
 all_goals simp_all [zlx]

theorem zps (p:FlowS→Bool) (g bf:Nat) (caps:List Value) (c:CellS) (hf:w.cell? ⟨bf,0,none⟩=some (.func (.func g) #[] caps.toArray))
  (hg:∀ f w',Ext No w w'→CallC Tryz.prog g ([Value.agg (zai f).toArray]++caps).toArray w' fun v w''=>v = .bool (p f)∧Ext No w' w'') :
  CallC Tryz.prog 325 ([Value.agg (zac c).toArray]++[Value.pointer (some ⟨bf,0,none⟩)]).toArray w fun v w'=>v = .bool (za9 p c)∧Ext No w w':=by
 refine zaa tabOk Tryz.func325 (by kernel_rfl) rfl Tryz.ntmps325 (lbO rfl) ?_;have hS:=St.start w No;(conv=>whnf);refine hS.new (fun b w' hb hS=>?_);(conv=>whnf);refine hS.ld 0 rfl rfl ?_;(conv=>whnf);refine zad (fun h1=>?_) (fun h1=>?_)
 ·(conv=>whnf)
  refine hS.ldr hf id ?_;(conv=>whnf);refine hS.la 0 rfl (l:=zai c.f) rfl rfl ?_;have key:=hg c.f _ hS.ext
  have fin:∀ (K:Value→World→Prop),(∀ w'',Ext No w' w''→K (.bool (p c.f)) w'')→CallC Tryz.prog g ([Value.agg (zai c.f).toArray]++caps).toArray w' K:=by
   intro K hK;refine key.mono ?_;rintro v w' ⟨rfl,hx'⟩;exact hK w' hx'
  clear key;have e:za9 p c=p c.f:=by simp [za9,h1]
  rw [e];cases caps
  all_goals
   (conv=>whnf);refine fin _ ?_;intro w'' hx';replace hS:=hS.no hx';repeat' ((conv=>whnf);first|apply RetC.mk|refine rgO ?_|refine ixO ?_|(first|apply brD|apply zad|apply brN|apply brI)<;>(intro))
   exact ⟨rfl,hS.ext⟩
 ·repeat' ((conv=>whnf);first|apply RetC.mk|refine rgO ?_|refine ixO ?_|(first|apply brD|apply zad|apply brN|apply brI)<;>(intro))
  exact ⟨by simp [za9,h1],hS.ext⟩

theorem zlG (hb:Blk w b 330 (zaZ T)) (hm:T.cells.length=32):Slc w 10 zac (fun _=>True) (some ⟨b,1,none⟩) 32 T.cells :=
 Slc.of_blk zau hb hm (by decide) (fun _ _=>trivial) (by simp only [zaZ,List.drop_succ_cons,List.drop_zero];exact zeg _)

theorem zma (p:FlowS→Bool) (g:Nat) (caps:List Value) (hb:Blk w b 330 (zaZ T)) (hm:T.cells.length=32)
  (hg:∀ f w',Ext No w w'→CallC Tryz.prog g ([Value.agg (zai f).toArray]++caps).toArray w' fun v w''=>v = .bool (p f)∧Ext No w' w'') :
  CallC Tryz.prog 289 #[.pointer (some ⟨b,0,none⟩),.func (.func g) #[] caps.toArray] w fun v w'=>v = .int .i64 (zc3 (za9 p) T.cells 0)∧Ext No w w':=by
 refine zaa tabOk Tryz.func289 (by kernel_rfl) rfl Tryz.ntmps289 (lbO rfl) ?_;have hS:=St.start w No;(conv=>whnf);refine hS.new (fun bf w' hbf hS=>?_);(conv=>whnf);refine (zee (za9 p) _ [Value.pointer (some ⟨bf,0,none⟩)] ((zlG hb hm).no hS.ext) (fun x _ _ w2 hx2=>zps p g bf caps x (hx2.cell ((hS.blk 0 rfl).cell 0) id) fun f w3 hx3=>hg f w3 ((hS.ext.trans hx2).trans hx3))).mono ?_;rintro v w2 ⟨rfl,hx⟩;replace hS:=hS.no hx;repeat' ((conv=>whnf);first|apply RetC.mk|refine rgO ?_|refine ixO ?_|(first|apply brD|apply zad|apply brN|apply brI)<;>(intro))
 exact ⟨rfl,hS.ext⟩

theorem zmU (k:Int) (w:World):CallC Tryz.prog 288 #[.int .i64 k] w fun v w'=>v = .tuple #[.int .i64 (atI k),.bool (decide (0≤k))]∧w=w':=by
 refine zaa tabOk Tryz.func288 (by kernel_rfl) rfl Tryz.ntmps288 (lbO rfl) ?_;repeat' ((conv=>whnf);first|apply RetC.mk|refine rgO ?_|refine ixO ?_|(first|apply brD|apply zad|apply brN|apply brI)<;>(intro))
 all_goals refine ⟨?_,rfl⟩
 all_goals unfold atI
 all_goals ((repeat' split)<;>first|rfl|(exfalso;omega)|(simp_all [zaO,zam];done)|(simp_all [zaO,zam];omega)|trace_state)

theorem zje (pr ia ip fa fp:Int) (hb:Blk w b 330 (zaZ T)) (hm:T.cells.length=32) :
  CallC Tryz.prog 226 #[.pointer (some ⟨b,0,none⟩),.int .i64 pr,.agg #[.int .i64 ia,.int .i64 ip],.agg #[.int .i64 fa,.int .i64 fp]] w fun v w'=>v = .tuple #[.int .i64 (atI (T.find pr ia ip fa fp)),.bool (decide (0≤T.find pr ia ip fa fp))]∧Ext No w w':=by
 refine zaa tabOk Tryz.func226 (by kernel_rfl) rfl Tryz.ntmps226 (lbO rfl) ?_;have hS:=St.start w No;(conv=>whnf);refine hS.new (fun p w' _ hS=>?_);(conv=>whnf);refine hS.new (fun q w' _ hS=>?_);(conv=>whnf);refine hS.new (fun r w' _ hS=>?_);(conv=>whnf);refine (zma (zlt pr ia ip fa fp) _ [Value.pointer (some ⟨p,0,none⟩),.pointer (some ⟨q,0,none⟩),.pointer (some ⟨r,0,none⟩)] (hS.ext.blk hb id) hm (fun f w2 hx2=>zqz f pr ia ip fa fp p q r (hx2.cell ((hS.blk 0 rfl).cell 0) id) (hx2.cells ((hS.blk 1 rfl).cells rfl) id) (hx2.cells ((hS.blk 2 rfl).cells rfl) id))).mono ?_;rintro v w2 ⟨rfl,hx⟩;replace hS:=hS.no hx;(conv=>whnf);refine (zmU _ _).mono ?_;rintro v w3 ⟨rfl,rfl⟩;repeat' ((conv=>whnf);first|apply RetC.mk|refine rgO ?_|refine ixO ?_|(first|apply brD|apply zad|apply brN|apply brI)<;>(intro))
 exact ⟨rfl,hS.ext⟩
theorem ziS (pr po fa fp:Int) (hb:Blk w b 330 (zaZ T)) (hm:T.cells.length=32) :
  CallC Tryz.prog 230 #[.pointer (some ⟨b,0,none⟩),.int .i64 pr,.int .i64 po,.agg #[.int .i64 fa,.int .i64 fp]] w fun v w'=>v = .tuple #[.int .i64 (atI (T.back pr po fa fp)),.bool (decide (0≤T.back pr po fa fp))]∧Ext No w w':=by
 refine zaa tabOk Tryz.func230 (by kernel_rfl) rfl Tryz.ntmps230 (lbO rfl) ?_;have hS:=St.start w No;(conv=>whnf);refine hS.new (fun p w' _ hS=>?_);(conv=>whnf);refine hS.new (fun q w' _ hS=>?_);(conv=>whnf);refine hS.new (fun r w' _ hS=>?_);(conv=>whnf);refine (zma (zlx pr po fa fp) _ [Value.pointer (some ⟨p,0,none⟩),.pointer (some ⟨q,0,none⟩),.pointer (some ⟨r,0,none⟩)] (hS.ext.blk hb id) hm (fun f w2 hx2=>zrH f pr po fa fp p q r (hx2.cell ((hS.blk 0 rfl).cell 0) id) (hx2.cell ((hS.blk 1 rfl).cell 0) id) (hx2.cells ((hS.blk 2 rfl).cells rfl) id))).mono ?_;rintro v w2 ⟨rfl,hx⟩;replace hS:=hS.no hx;(conv=>whnf);refine (zmU _ _).mono ?_;rintro v w3 ⟨rfl,rfl⟩;repeat' ((conv=>whnf);first|apply RetC.mk|refine rgO ?_|refine ixO ?_|(first|apply brD|apply zad|apply brN|apply brI)<;>(intro))
 exact ⟨rfl,hS.ext⟩

end

def zbZ (c:CellS):Bool:=decide (c.f.proto=0)
def zk1 (l:List CellS) (k:Nat) (f:FlowS):List CellS:=match l[k]? with
 | some c=>l.set k ⟨c.slot,c.ver+1,f⟩
 | none=>l
theorem zeL {l:List CellS}{k:Nat}{c:CellS}(h:l[k]?=some c) (f:FlowS):zk1 l k f=l.set k ⟨c.slot,c.ver+1,f⟩:=by
 unfold zk1;rw [h]
def MirS.lay (T:MirS) (f:FlowS):(Int × Nat) × MirS :=
 if zc3 zbZ T.cells 0 < 0 then ((0,6),T) else ((zc3 zbZ T.cells 0,0),⟨T.life,zk1 T.cells (zc3 zbZ T.cells 0).toNat f⟩)
def zhF (T:MirS) (pr fa fp:Int):Nat→Nat→Option Nat
 | 0,_=>none
 | n+1,i=>if T.back pr (T.life+i) fa fp < 0 then some i else zhF T pr fa fp n (i+1)
def MirS.add (T:MirS) (pr ia ip fa fp st un:Int):(Int × Nat) × MirS :=
 if 0≤T.find pr ia ip fa fp then ((0,5),T) else match zhF T pr fa fp 24 0 with
  | some i=>T.lay ⟨pr,ia,ip,fa,fp,T.life+i,st,un⟩
  | none=>((0,6),T)
def MirS.put (T:MirS) (f:FlowS):(Int × Nat) × MirS :=
 if 0≤T.find f.proto f.ia f.ip f.fa f.fp∨0≤T.back f.proto f.port f.fa f.fp then ((0,5),T) else T.lay f
def MirS.flowErr (T:MirS) (k:Int):Nat:=if k < 0∨32≤k then 2 else match T.cells[k.toNat]? with
 | some c=>if c.f.proto=0 then 4 else 0
 | none=>2
def zaD (T:MirS) (k:Int):FlowS:=match T.cells[k.toNat]? with
 | some c=>c.f
 | none=>zay
def MirS.setS (T:MirS) (k st un:Int):Nat × MirS :=
 if T.flowErr k≠0 then (T.flowErr k,T) else (0,⟨T.life,zk1 T.cells k.toNat { zaD T k with state:=st,til:=un }⟩)
def MirS.drop (T:MirS) (k:Int):Nat × MirS :=
 if T.flowErr k≠0 then (T.flowErr k,T) else (0,⟨T.life,zk1 T.cells k.toNat zay⟩)

theorem zfH {α:Type}(p:α→Bool):∀ (xs:List α) (k:Nat),zc3 p xs k = -1∨((k:Int)≤zc3 p xs k∧zc3 p xs k < k+xs.length)
 | [],k=>.inl rfl
 | x::xs,k=>by
  unfold zc3;cases p x
  ·rcases zfH p xs (k+1) with h|h
   ·exact .inl h
   ·right
    simp only [List.length_cons];omega
  ·right
   simp only [List.length_cons];omega
def znS (T:MirS):Prop:=∀ c∈T.cells,0≤c.ver∧c.ver < 9223372036854775807

section
variable {w : World} {b : Nat} {T : MirS}
theorem zrp {E:Nat→Addr}{n:Nat}(k:Int) (hE:Errs w E n [2]) (hk:k < 0∨32≤k) :
  CallC Tryz.prog 298 #[.pointer (some ⟨b,0,none⟩),.int .i64 k] w fun v w'=>v = .tuple #[.pointer none,zc9 E 2]∧Ext No w w':=by
 refine zaa tabOk Tryz.func298 (by kernel_rfl) rfl Tryz.ntmps298 (lbO rfl) ?_;have hS:=St.start w No;repeat' ((conv=>whnf);first|apply RetC.mk|refine rgO ?_|refine ixO ?_|refine hS.ldr (hE.at_ 2 rfl) id ?_|refine hS.ldrF (hE.at_ 2 rfl) id id ?_|(refine zuC tabOk mixed [] No [0,1,2] rfl (by kernel_rfl) ?_;rintro w1 rfl;replace hS:=hS.drew)|(first|apply brD|apply zad|apply brN|apply brI)<;>(intro))
 all_goals first|(exfalso;omega)|exact ⟨rfl,hS.ext⟩
theorem zof (k:Int) (h0:0≤k) (h1:k < 32) :
  CallC Tryz.prog 298 #[.pointer (some ⟨b,0,none⟩),.int .i64 k] w fun v w'=>v = .tuple #[.pointer (some ⟨b,0+1+k.toNat * 10,none⟩),.nilIface]∧w=w':=by
 refine zaa tabOk Tryz.func298 (by kernel_rfl) rfl Tryz.ntmps298 (lbO rfl) ?_;repeat' ((conv=>whnf);first|apply RetC.mk|refine ixO ?_|refine brD (fun h=>absurd h (by omega)) (fun _=>?_))
 exact ⟨rfl,rfl⟩

theorem ztx (c:CellS) (w:World):CallC Tryz.prog 344 ([Value.agg (zac c).toArray]++[]).toArray w fun v w'=>v = .bool (zbZ c)∧Ext No w w':=by
 refine zaa tabOk Tryz.func344 (by kernel_rfl) rfl Tryz.ntmps344 (lbO rfl) ?_;have hS:=St.start w No;(conv=>whnf);refine hS.new (fun b w' hb hS=>?_);repeat' ((conv=>whnf);first|apply RetC.mk|refine rgO ?_|refine ixO ?_|refine hS.ld 0 rfl rfl ?_|(first|apply brD|apply zad|apply brN|apply brI)<;>(intro))
 exact ⟨rfl,hS.ext⟩

theorem zsi {E:Nat→Addr}{n:Nat}(f:FlowS) (hb:Blk w b 330 (zaZ T)) (hm:T.cells.length=32) (hv:znS T) (hE:Errs w E n [6]) (hq:n≤b) :
  CallC Tryz.prog 329 #[.pointer (some ⟨b,0,none⟩),.agg (zai f).toArray] w fun v w'=>v = .tuple #[.int .i64 (T.lay f).1.1,zc9 E (T.lay f).1.2]∧Ext (· = b) w w'∧Blk w' b 330 (zaZ (T.lay f).2):=by
 have hbw:=hb.lt;refine zaa tabOk Tryz.func329 (by kernel_rfl) rfl Tryz.ntmps329 (lbO rfl) ?_;have hS:=(St.start w (· = b)).add (zab b _ _) hb (by simp [blk];exact hb.lt) (by simp);(conv=>whnf);refine hS.new (fun bf w' hbf hS=>?_);(conv=>whnf);refine (zee zbZ _ [] (zlG (hS.blk 0 rfl) hm) (fun x _ _ w2 _=>ztx x w2)).mono ?_;rintro v w2 ⟨rfl,hx⟩;replace hS:=hS.no hx;clear hx;have hI:=zfH zbZ T.cells 0;unfold MirS.lay;generalize zc3 zbZ T.cells 0=k at hI;(conv=>whnf);refine brD (fun h1=>?_) (fun h1=>?_)
 ·rw [if_pos h1];repeat' ((conv=>whnf);first|apply RetC.mk|refine rgO ?_|refine ixO ?_|refine hS.ldr (hE.at_ 6 rfl) (hE.ne 6 rfl hq) ?_|refine hS.ldrF (hE.at_ 6 rfl) (hE.ne 6 rfl hq) id ?_|(refine zah tabOk mixed [] No [0,1,2] (by kernel_rfl) ?_;rintro w1 rfl;replace hS:=hS.drew)|(first|apply brD|apply zad|apply brN|apply brI)<;>(intro))
  exact ⟨rfl,hS.ext,hS.blk 0 rfl⟩
 ·rw [if_neg h1];have hk:0≤k∧k < 32:=by omega
  obtain ⟨c,hc⟩:∃ c,T.cells[k.toNat]?=some c:=⟨_,List.getElem?_eq_getElem (by omega)⟩;have hbb:bf≠b:=by omega
  have hcv:=hv c (List.mem_of_getElem? hc);(conv=>whnf)
  (refine zah tabOk mixed [] ((· = b)) [0,1,2,3,4,5,6,7] (by kernel_rfl) ?_;rintro w1 rfl;replace hS:=hS.drew)
  repeat' ((conv=>whnf);first|refine ixO ?_|refine hS.laF 1 rfl (l:=zai f) rfl rfl hbb ?_)
  refine hS.stX 0 rfl (by rw [zbf hm];simp [zam,zai];omega) rfl (fun w' hx' hS=>?_);refine KeepC.mk hx' ?_
  have ho:zaO (zaZ T) (0+1+k.toNat * 10+2) (zam (.agg (zai f).toArray))=zaZ ⟨T.life,T.cells.set k.toNat ⟨c.slot,c.ver,f⟩⟩:=by
   rw [zbX (k:=k.toNat) (j:=2) (c':=⟨c.slot,c.ver,f⟩) hc (by simp [zam,zai]) rfl (by simp<;>omega)]
  replace hS:St w (· = b) w' [blk b 330 (zaZ ⟨T.life,T.cells.set k.toNat ⟨c.slot,c.ver,f⟩⟩),blk bf 207 (zai f)]:=by rw [← ho];exact hS
  have hc2:(T.cells.set k.toNat ⟨c.slot,c.ver,f⟩)[k.toNat]?=some ⟨c.slot,c.ver,f⟩:=List.getElem?_set_self (by omega);clear ho hx';(conv=>whnf)
  (refine zah tabOk mixed [6] (· = b) [0,1,2,3,4,5,8,9,6,7,10,11,12] (by kernel_rfl) ?_;rintro w1 rfl;replace hS:=hS.drew)
  repeat' ((conv=>whnf);first|refine ixO ?_|(refine hS.ld 0 rfl (zdp (k:=k.toNat) (j:=1) hc2 rfl (by simp<;>omega)) ?_;refine KeepC.mk (Ext.refl _ _) ?_))
  refine RngC.mk (by dsimp only;omega) (by dsimp only;omega) ?_;repeat' ((conv=>whnf);first|refine ixO ?_)
  refine hS.stX 0 rfl (by rw [zbf (by simpa using hm)];simp [zam];omega) rfl (fun w' hx' hS=>?_);refine KeepC.mk hx' ?_
  have ho:zaO (zaZ ⟨T.life,T.cells.set k.toNat ⟨c.slot,c.ver,f⟩⟩) (0+1+k.toNat * 10+1) [.int .i64 (c.ver+1)]=zaZ ⟨T.life,zk1 T.cells k.toNat f⟩:=by
   rw [zbX (k:=k.toNat) (j:=1) (c':=⟨c.slot,c.ver+1,f⟩) hc2 (by simp) rfl (by simp<;>omega),zeL hc,List.set_set]
  replace hS:St w (· = b) w' [blk b 330 (zaZ ⟨T.life,zk1 T.cells k.toNat f⟩),blk bf 207 (zai f)]:=by rw [← ho];exact hS
  repeat' ((conv=>whnf);first|apply RetC.mk|refine rgO ?_|refine ixO ?_|(first|apply brD|apply zad|apply brN|apply brI)<;>(intro))
  exact ⟨rfl,hS.ext,hS.blk 0 rfl⟩

theorem zta {E:Nat→Addr}{n:Nat}(pr ia ip fa fp st un:Int) (hb:Blk w b 330 (zaZ T)) (hm:T.cells.length=32) (hv:znS T) (hl:0≤T.life∧T.life≤100000) (hE:Errs w E n [5,6]) (hq:n≤b) :
  CallC Tryz.prog 297 #[.pointer (some ⟨b,0,none⟩),.int .i64 pr,.agg #[.int .i64 ia,.int .i64 ip],.agg #[.int .i64 fa,.int .i64 fp],.int .i64 st,.int .i64 un] w fun v w'=>v = .tuple #[.int .i64 (T.add pr ia ip fa fp st un).1.1,zc9 E (T.add pr ia ip fa fp st un).1.2]∧Ext (· = b) w w'∧Blk w' b 330 (zaZ (T.add pr ia ip fa fp st un).2):=by
 have hbw:=hb.lt;unfold MirS.add;refine zaa tabOk Tryz.func297 (by kernel_rfl) rfl Tryz.ntmps297 (lbO rfl) ?_;have hS:=(St.start w (· = b)).add (zab b _ _) hb (by simp [blk];exact hb.lt) (by simp);(conv=>whnf);refine hS.new (fun b8 w' hb8 hS=>?_);(conv=>whnf);refine hS.new (fun b9 w' hb9 hS=>?_);(conv=>whnf);refine hS.la 1 rfl (l:=[.int .i64 ia,.int .i64 ip]) rfl rfl ?_;(conv=>whnf);refine hS.la 2 rfl (l:=[.int .i64 fa,.int .i64 fp]) rfl rfl ?_;(conv=>whnf);refine (zje pr ia ip fa fp (hS.blk 0 rfl) hm).mono ?_;rintro v w2 ⟨rfl,hx⟩;replace hS:=hS.no hx;clear hx;generalize T.find pr ia ip fa fp=k;(conv=>whnf);refine brD (fun h1=>?_) (fun h1=>?_)
 ·rw [if_pos h1];repeat' ((conv=>whnf);first|apply RetC.mk|refine rgO ?_|refine ixO ?_|refine hS.ldr (hE.at_ 5 rfl) (hE.ne 5 rfl hq) ?_|refine hS.ldrF (hE.at_ 5 rfl) (hE.ne 5 rfl hq) id ?_|(refine zah tabOk mixed [] No [0,1,2] (by kernel_rfl) ?_;rintro w1 rfl;replace hS:=hS.drew)|(first|apply brD|apply zad|apply brN|apply brI)<;>(intro))
  exact ⟨rfl,hS.ext,hS.blk 0 rfl⟩
 rw [if_neg h1];generalize hPP:zhF T pr fa fp 24 0=PP;(conv=>whnf);refine hS.ld 0 rfl rfl ?_;(conv=>whnf)
 refine zaL tabOk (fun σ w' q=>∃ i:Nat,σ=[(16,.int .i64 (T.life+i)),(9,.pointer (some ⟨b9,0,none⟩)),(8,.pointer (some ⟨b8,0,none⟩)),(5,.int .i64 un),(4,.int .i64 st),(1,.int .i64 pr),(0,.pointer (some ⟨b,0,none⟩))]∧q=24 - i∧i≤24 ∧
   St w (· = b) w' [blk b 330 (zaZ T),blk b8 39 [.int .i64 ia,.int .i64 ip],blk b9 39 [.int .i64 fa,.int .i64 fp]]∧PP=zhF T pr fa fp (24 - i) i)
  (σ':=[(16,.int .i64 (T.life)),(9,.pointer (some ⟨b9,0,none⟩)),(8,.pointer (some ⟨b8,0,none⟩)),(5,.int .i64 un),(4,.int .i64 st),(1,.int .i64 pr),(0,.pointer (some ⟨b,0,none⟩))]) (n:=24) ⟨rfl,rfl,rfl,rfl,rfl,rfl,rfl,trivial⟩ ⟨0,by rw [show T.life+((0:Nat):Int)=T.life by simp],rfl,Nat.zero_le _,hS,hPP.symm⟩ ?_
 clear hS hPP;rintro _ w1 q ⟨i,rfl,rfl,hi,hS,hp⟩;(conv=>whnf);refine hS.ld 0 rfl rfl ?_;(conv=>whnf);refine rgO ?_;(conv=>whnf);refine brD (fun h3=>?_) (fun h3=>?_)
 ·have hi2:24 - i=(24 - (i+1))+1:=by omega
  rw [hi2] at hp;unfold zhF at hp;(conv=>whnf);refine hS.la 2 rfl (l:=[.int .i64 fa,.int .i64 fp]) rfl rfl ?_;(conv=>whnf);refine (ziS pr (T.life+i) fa fp (hS.blk 0 rfl) hm).mono ?_;rintro v w2 ⟨rfl,hx⟩;replace hS:=hS.no hx;clear hx;generalize T.back pr (T.life+i) fa fp=j at hp;(conv=>whnf);refine zad (fun h4=>?_) (fun h4=>?_)
  ·rw [if_pos (by omega)] at hp;subst hp;(conv=>whnf);refine hS.la 1 rfl (l:=[.int .i64 ia,.int .i64 ip]) rfl rfl ?_;(conv=>whnf);refine hS.la 2 rfl (l:=[.int .i64 fa,.int .i64 fp]) rfl rfl ?_;(conv=>whnf);refine (zsi ⟨pr,ia,ip,fa,fp,T.life+i,st,un⟩ (hS.blk 0 rfl) hm hv ((hE.sub rfl).ext hS.ext fun c hc=>by subst hc;exact hq) hq).mono ?_;rintro v w' ⟨rfl,hx,hB⟩;replace hS:=hS.upd 0 rfl hx (fun c hc=>by subst hc;exact List.mem_singleton.2 rfl) (zab _ _ _) hB (fun c hc=>.inl hc);repeat' ((conv=>whnf);first|apply RetC.mk|refine rgO ?_|refine ixO ?_|(first|apply brD|apply zad|apply brN|apply brI)<;>(intro))
   exact ⟨rfl,hS.ext,hS.blk 0 rfl⟩
  ·rw [if_neg (by omega)] at hp;(conv=>whnf);refine rgO ?_;(conv=>whnf);refine LoopE.mk ⟨_,[(16,.int .i64 (T.life+((i+1:Nat):Int))),(9,_),(8,_),(5,_),(4,_),(1,_),(0,_)],?_,⟨by rw [show T.life+((i+1:Nat):Int)=T.life+i+1 by omega];rfl,rfl,rfl,rfl,rfl,rfl,rfl,trivial⟩,⟨i+1,rfl,rfl,by omega,hS,hp⟩⟩;omega
 ·obtain rfl:i=24:=by omega
  rw [show PP=none from hp];repeat' ((conv=>whnf);first|apply RetC.mk|refine rgO ?_|refine ixO ?_|refine hS.ldr (hE.at_ 6 rfl) (hE.ne 6 rfl hq) ?_|refine hS.ldrF (hE.at_ 6 rfl) (hE.ne 6 rfl hq) id ?_|(refine zah tabOk mixed [] No [0,1,2] (by kernel_rfl) ?_;rintro w1 rfl;replace hS:=hS.drew)|(first|apply brD|apply zad|apply brN|apply brI)<;>(intro))
  exact ⟨rfl,hS.ext,hS.blk 0 rfl⟩

theorem ztj {E:Nat→Addr}{n:Nat}(f:FlowS) (hb:Blk w b 330 (zaZ T)) (hm:T.cells.length=32) (hv:znS T) (hE:Errs w E n [5,6]) (hq:n≤b) :
  CallC Tryz.prog 342 #[.pointer (some ⟨b,0,none⟩),.agg (zai f).toArray] w fun v w'=>v = .tuple #[.int .i64 (T.put f).1.1,zc9 E (T.put f).1.2]∧Ext (· = b) w w'∧Blk w' b 330 (zaZ (T.put f).2):=by
 have hbw:=hb.lt;unfold MirS.put;refine zaa tabOk Tryz.func342 (by kernel_rfl) rfl Tryz.ntmps342 (lbO rfl) ?_;have hS:=(St.start w (· = b)).add (zab b _ _) hb (by simp [blk];exact hb.lt) (by simp);(conv=>whnf);refine hS.new (fun bf w' hbf hS=>?_);repeat' ((conv=>whnf);first|apply RetC.mk|refine rgO ?_|refine ixO ?_|refine hS.ld 1 rfl rfl ?_|refine hS.la 1 rfl (l:=[.int .i64 f.ia,.int .i64 f.ip]) rfl rfl ?_|refine hS.la 1 rfl (l:=[.int .i64 f.fa,.int .i64 f.fp]) rfl rfl ?_|(first|apply brD|apply zad|apply brN|apply brI)<;>(intro))
 refine (zje f.proto f.ia f.ip f.fa f.fp (hS.blk 0 rfl) hm).mono ?_;rintro v w2 ⟨rfl,hx⟩;replace hS:=hS.no hx;clear hx;repeat' ((conv=>whnf);first|apply RetC.mk|refine rgO ?_|refine ixO ?_|refine hS.ld 1 rfl rfl ?_|refine hS.la 1 rfl (l:=[.int .i64 f.fa,.int .i64 f.fp]) rfl rfl ?_|(first|apply brD|apply zad|apply brN|apply brI)<;>(intro))
 refine (ziS f.proto f.port f.fa f.fp (hS.blk 0 rfl) hm).mono ?_;rintro v w2 ⟨rfl,hx⟩;replace hS:=hS.no hx;clear hx;generalize T.find f.proto f.ia f.ip f.fa f.fp=k;generalize T.back f.proto f.port f.fa f.fp=j;repeat' ((conv=>whnf);first|apply RetC.mk|refine rgO ?_|refine ixO ?_|refine hS.ldr (hE.at_ 5 rfl) (hE.ne 5 rfl hq) ?_|refine hS.ldrF (hE.at_ 5 rfl) (hE.ne 5 rfl hq) id ?_|(refine zah tabOk mixed [] No [0,1,2] (by kernel_rfl) ?_;rintro w1 rfl;replace hS:=hS.drew)|refine hS.la 1 rfl (l:=zai f) rfl rfl ?_|(first|apply brD|apply zad|apply brN|apply brI)<;>(intro))
 ·rename_i h1;rw [if_pos (.inl h1)];exact ⟨rfl,hS.ext,hS.blk 0 rfl⟩
 ·rename_i h1 h2;rw [if_pos (.inr h2)];exact ⟨rfl,hS.ext,hS.blk 0 rfl⟩
 ·rename_i h1 h2;rw [if_neg (by rintro (h|h);exact h1 h;exact h2 h)];refine (zsi f (hS.blk 0 rfl) hm hv ((hE.sub rfl).ext hS.ext fun c hc=>by subst hc;exact hq) hq).mono ?_;rintro v w' ⟨rfl,hx,hB⟩;replace hS:=hS.upd 0 rfl hx (fun c hc=>by subst hc;exact List.mem_singleton.2 rfl) (zab _ _ _) hB (fun c hc=>.inl hc);repeat' ((conv=>whnf);first|apply RetC.mk|refine rgO ?_|refine ixO ?_|(first|apply brD|apply zad|apply brN|apply brI)<;>(intro))
  exact ⟨rfl,hS.ext,hS.blk 0 rfl⟩

theorem zp3 {E:Nat→Addr}{n:Nat}(k:Int) (hb:Blk w b 330 (zaZ T)) (hm:T.cells.length=32) (hE:Errs w E n [2,4]) :
  CallC Tryz.prog 326 #[.pointer (some ⟨b,0,none⟩),.int .i64 k] w fun v w'=>(∃ p,v = .tuple #[p,zc9 E (T.flowErr k)]∧(T.flowErr k=0→p = .pointer (some ⟨b,0+1+k.toNat * 10,none⟩)))∧Ext No w w':=by
 unfold MirS.flowErr;refine zaa tabOk Tryz.func326 (by kernel_rfl) rfl Tryz.ntmps326 (lbO rfl) ?_;have hS:=St.start w No;by_cases h:k < 0∨32≤k
 ·rw [if_pos h];(conv=>whnf);refine (zrp k (hE.sub rfl) h).mono ?_;rintro v w2 ⟨rfl,hx⟩;replace hS:=hS.no hx;repeat' ((conv=>whnf);first|apply RetC.mk|refine rgO ?_|refine ixO ?_|(first|apply brD|apply zad|apply brN|apply brI)<;>(intro))
  exact ⟨⟨_,rfl,fun h=>by cases h⟩,hS.ext⟩
 ·rw [if_neg h];obtain ⟨c,hc⟩:∃ c,T.cells[k.toNat]?=some c:=⟨_,List.getElem?_eq_getElem (by omega)⟩;rw [hc];(conv=>whnf);refine (zof k (by omega) (by omega)).mono ?_;rintro v w2 ⟨rfl,rfl⟩;repeat' ((conv=>whnf);first|apply RetC.mk|refine rgO ?_|refine ixO ?_|refine hS.ldr ((hb.cell _).trans (zdp (k:=k.toNat) (j:=2) hc rfl (by simp<;>omega))) id ?_|refine hS.ldr (hE.at_ 4 rfl) id ?_|refine hS.ldrF (hE.at_ 4 rfl) id id ?_|(first|apply brD|apply zad|apply brN|apply brI)<;>(intro))
  ·rename_i h1;dsimp only;rw [if_pos h1];exact ⟨⟨_,rfl,fun h=>by cases h⟩,hS.ext⟩
  ·rename_i h1;dsimp only;rw [if_neg h1];exact ⟨⟨_,rfl,fun _=>rfl⟩,hS.ext⟩

theorem zmO {E:Nat→Addr}{n:Nat}(k:Int) (hb:Blk w b 330 (zaZ T)) (hm:T.cells.length=32) (hv:znS T) (hE:Errs w E n [2,4]) :
  CallC Tryz.prog 292 #[.pointer (some ⟨b,0,none⟩),.int .i64 k] w fun v w'=>v=zc9 E (T.drop k).1∧Ext (· = b) w w'∧Blk w' b 330 (zaZ (T.drop k).2):=by
 have hcode:T.flowErr k≠0→∃ j,T.flowErr k=j+1:=fun h=>⟨T.flowErr k - 1,by omega⟩
 have hin:T.flowErr k=0→0≤k∧k < 32:=by
  unfold MirS.flowErr;split
  ·intro h;cases h
  ·intro _;omega
 unfold MirS.drop;refine zaa tabOk Tryz.func292 (by kernel_rfl) rfl Tryz.ntmps292 (lbO rfl) ?_;have hS:=(St.start w (· = b)).add (zab b _ _) hb (by simp [blk];exact hb.lt) (by simp);(conv=>whnf);refine (zp3 k (hS.blk 0 rfl) hm hE).mono ?_;rintro v w2 ⟨⟨p,rfl,hp⟩,hx⟩;replace hS:=hS.no hx;clear hx;by_cases h:T.flowErr k=0
 ·obtain rfl:=hp h;obtain ⟨h0,h1⟩:=hin h;rw [if_neg (by simpa using h),h];obtain ⟨c,hc⟩:∃ c,T.cells[k.toNat]?=some c:=⟨_,List.getElem?_eq_getElem (by omega)⟩;have hcv:=hv c (List.mem_of_getElem? hc);(conv=>whnf);refine hS.st 0 rfl (by rw [zbf hm];simp [zam];omega) rfl (fun w' hS=>?_)
  have ho:zaO (zaZ T) (0+1+k.toNat * 10+2) (zai zay)=zaZ ⟨T.life,T.cells.set k.toNat ⟨c.slot,c.ver,zay⟩⟩:=by
   rw [zbX (k:=k.toNat) (j:=2) (c':=⟨c.slot,c.ver,zay⟩) hc (by simp [zai]) rfl (by simp<;>omega)]
  replace hS:St w (· = b) w' [blk b 330 (zaZ ⟨T.life,T.cells.set k.toNat ⟨c.slot,c.ver,zay⟩⟩)]:=by rw [← ho];exact hS
  have hc2:(T.cells.set k.toNat ⟨c.slot,c.ver,zay⟩)[k.toNat]?=some ⟨c.slot,c.ver,zay⟩:=List.getElem?_set_self (by omega);(conv=>whnf);refine hS.ld 0 rfl (zdp (k:=k.toNat) (j:=1) hc2 rfl (by simp<;>omega)) ?_;(conv=>whnf);refine RngC.mk (by dsimp only;omega) (by dsimp only;omega) ?_;(conv=>whnf);refine hS.st 0 rfl (by rw [zbf (by simpa using hm)];simp [zam];omega) rfl (fun w' hS=>?_)
  have ho:zaO (zaZ ⟨T.life,T.cells.set k.toNat ⟨c.slot,c.ver,zay⟩⟩) (0+1+k.toNat * 10+1) [.int .i64 (c.ver+1)]=zaZ ⟨T.life,zk1 T.cells k.toNat zay⟩:=by
   rw [zbX (k:=k.toNat) (j:=1) (c':=⟨c.slot,c.ver+1,zay⟩) hc2 (by simp) rfl (by simp<;>omega),zeL hc,List.set_set]
  replace hS:St w (· = b) w' [blk b 330 (zaZ ⟨T.life,zk1 T.cells k.toNat zay⟩)]:=by rw [← ho];exact hS
  repeat' ((conv=>whnf);first|apply RetC.mk|refine rgO ?_|refine ixO ?_|(first|apply brD|apply zad|apply brN|apply brI)<;>(intro))
  exact ⟨rfl,hS.ext,hS.blk 0 rfl⟩
 ·rw [if_pos h];obtain ⟨j,hj⟩:=hcode h;rw [hj];repeat' ((conv=>whnf);first|apply RetC.mk|refine rgO ?_|refine ixO ?_|(first|apply brD|apply zad|apply brN|apply brI)<;>(intro))
  exact ⟨rfl,hS.ext,hS.blk 0 rfl⟩

theorem zqe (k:Int) (hb:Blk w b 330 (zaZ T)) {c:CellS}(h0:0≤k) (h1:k < 32) (hc:T.cells[k.toNat]?=some c) :
  CallC Tryz.prog 229 #[.pointer (some ⟨b,0,none⟩),.int .i64 k] w fun v w'=>v = .tuple #[.agg (zac c).toArray,.nilIface]∧Ext No w w':=by
 refine zaa tabOk Tryz.func229 (by kernel_rfl) rfl Tryz.ntmps229 (lbO rfl) ?_;have hS:=St.start w No;have hcc:CellsAt w b (0+1+k.toNat * 10) (zac c):=fun j v hj=>(hb.cell _).trans (zdp (k:=k.toNat) (j:=j) hc hj (by omega))
 conv=>whnf
 refine hS.new (fun b4 w' hb4 hS=>?_);(conv=>whnf);refine (zof k h0 h1).mono ?_;rintro v w2 ⟨rfl,rfl⟩;(conv=>whnf);refine hS.lar (l:=zac c) rfl hcc id ?_;(conv=>whnf);refine hS.st 0 rfl (lbO rfl) rfl (fun w' hS=>?_);(conv=>whnf);refine hS.la 0 rfl (l:=zac c) rfl rfl ?_;repeat' ((conv=>whnf);first|apply RetC.mk|refine rgO ?_|refine ixO ?_|(first|apply brD|apply zad|apply brN|apply brI)<;>(intro))
 exact ⟨rfl,hS.ext⟩

theorem zkT (hb:Blk w b 330 (zaZ T)) (hm:T.cells.length=32) :
  CallC Tryz.prog 243 #[.pointer (some ⟨b,0,none⟩)] w fun v w'=>∃ a' c',v = .slice a' 32 c'∧Ext No w w'∧(zaf 209 10 zac v T.cells).holds w'∧zc0 w w' v:=by
 refine zaa tabOk Tryz.func243 (by kernel_rfl) rfl Tryz.ntmps243 (lbO rfl) ?_;(conv=>whnf);refine (zl1 (zlG hb hm) (by decide) rfl).mono ?_;rintro v w' ⟨a',c',rfl,h⟩;repeat' ((conv=>whnf);first|apply RetC.mk|refine rgO ?_|refine ixO ?_|(first|apply brD|apply zad|apply brN|apply brI)<;>(intro))
 exact ⟨a',c',rfl,h⟩

theorem zoA (f:Int) (w:World):(Instr.build 330 #[(0,.int .i64 f)]).run Tryz.prog w = .ok (.agg (zaZ ⟨f,List.replicate 32 ⟨0,0,zay⟩⟩).toArray) w:=by kernel_rfl
theorem ztX (nd:Int) (w:World) (h:nd=0∨nd=1) :
  CallC Tryz.prog 124 #[.int .i64 nd] w fun v w'=>∃ b,v = .tuple #[.pointer (some ⟨b,0,none⟩),.nilIface]∧w.heap.size≤b∧Ext No w w'∧Blk w' b 330 (zaZ ⟨2000+nd * 24,emptyCells⟩):=by
 obtain ⟨V,hV,hl,h1,hbld⟩:∃ V:List Value,V=zaZ ⟨2000+nd * 24,zax 0⟩∧V.length=321∧V.all zcN=true∧∀ w,(Instr.build 330 #[(0,.int .i64 (2000+nd * 24))]).run Tryz.prog w = .ok (.agg V.toArray) w:=⟨_,rfl,zbf (by simp [zax]),by unfold zaZ;rw [List.all_cons,zdH zau];rfl,zoA _⟩;have hb2:∀ k:Value→Prop,k (.agg V.toArray)→PureC Tryz.prog (Instr.build 330 #[(0,.int .i64 (2000+nd * 24))]) k:=fun k hk=>PureC.of hbld hk
 have ho:zam (.agg V.toArray)=zaZ ⟨2000+nd * 24,zax 0⟩:=by simp [zam,hV]
 generalize hVV:Value.agg V.toArray=VV at hb2 ho;refine zaa tabOk Tryz.func124 (by kernel_rfl) rfl Tryz.ntmps124 (lbO rfl) ?_;have hS:=St.start w No;repeat' ((conv=>whnf);first|refine rgO ?_|refine hb2 _ ?_|refine zad ?_ ?_<;>(intro))
 all_goals first|(exfalso;omega)|skip
 all_goals
  refine hS.new (fun b w' hb hS=>?_);rw [ho] at hS;(conv=>whnf)
  refine zaL tabOk (fun σ w' q=>∃ k:Nat,σ=[(18,.int .i64 k),(4,.pointer (some ⟨b,0,none⟩))]∧q=32 - k∧k≤32∧St w No w' [blk b 330 (zaZ ⟨2000+nd * 24,zax k⟩)])
   (σ':=[(18,.int .i64 ((0:Nat):Int)),(4,.pointer (some ⟨b,0,none⟩))]) (n:=32) ⟨rfl,rfl,trivial⟩ ⟨0,rfl,rfl,Nat.zero_le _,hS⟩ ?_
  clear hS;rintro _ w1 q ⟨k,rfl,rfl,hk,hS⟩;(conv=>whnf);refine brD (fun h3=>?_) (fun h3=>?_)
  ·have hk:k < 32:=by omega
   have hc:=zgf hk;(conv=>whnf);refine ixO ?_;(conv=>whnf);refine hS.st 0 rfl (by rw [zbf (zdz (by omega))];simp [zam];omega) rfl (fun w' hS=>?_)
   have ho:zaO (zaZ ⟨2000+nd * 24,zax k⟩) (0+1+Int.toNat (k:Int) * 10+0) [.int .i64 (k:Int)]=zaZ ⟨2000+nd * 24,zax (k+1)⟩:=by
    rw [zbX (k:=k) (j:=0) (c':=⟨(k:Int),0,zay⟩) hc (by simp) rfl (by simp<;>omega)];simp only [zfB hk]
   replace hS:St w No w' [blk b 330 (zaZ ⟨2000+nd * 24,zax (k+1)⟩)]:=by rw [← ho];exact hS
   clear ho;(conv=>whnf);refine rgO ?_;(conv=>whnf);refine LoopE.mk ⟨_,[(18,.int .i64 ((k+1:Nat):Int)),(4,_)],?_,⟨rfl,rfl,trivial⟩,⟨k+1,rfl,rfl,by omega,hS⟩⟩;omega
  ·obtain rfl:k=32:=by omega
   rw [zeE] at hS;repeat' ((conv=>whnf);first|apply RetC.mk|refine rgO ?_|refine ixO ?_|(first|apply brD|apply zad|apply brN|apply brI)<;>(intro))
   exact ⟨b,rfl,hb,hS.ext,hS.blk 0 rfl⟩
end

theorem zg6 {α:Type}(p:α→Bool):∀ (xs:List α) (k:Nat),0≤zc3 p xs k→∃ (j:Nat) (x:α),xs[j]?=some x∧p x=true∧zc3 p xs k=(k:Int)+j∧∀ (i:Nat) y,i < j→xs[i]?=some y→p y=false
 | [],k,h=>by simp [zc3] at h
 | x::xs,k,h=>by
  cases hp:p x
  ·unfold zc3 at h ⊢;rw [hp] at h ⊢;obtain ⟨j,y,h1,h2,h3,h4⟩:=zg6 p xs (k+1) h;refine ⟨j+1,y,by simpa using h1,h2,?_,?_⟩
   ·show zc3 p xs (k+1)=_;omega
   ·intro i z hi hz;cases i with
    | zero=>simp at hz;subst hz;exact hp
    | succ i=>exact h4 i z (by omega) (by simpa using hz)
  ·refine ⟨0,x,rfl,hp,?_,fun i y hi=>by omega⟩;unfold zc3;rw [hp];simp


structure TOk (n:Nat) (T:MirS):Prop where
 len:T.cells.length=32
 ver:∀ c∈T.cells,0≤c.ver∧c.ver≤n
 slot:∀ (k:Nat) c,T.cells[k]?=some c→c.slot=k
theorem TOk.verOk {n:Nat}{T:MirS}(h:TOk n T) (hn:n≤100000000):znS T:=fun c hc=>by have:=h.ver c hc;omega
theorem TOk.succ {n:Nat}{T:MirS}(h:TOk n T):TOk (n+1) T:=⟨h.len,fun c hc=>by have:=h.ver c hc;omega,h.slot⟩
theorem TOk.empty (F:Int):TOk 0 ⟨F,emptyCells⟩:=by
 refine ⟨zaS,fun c hc=>?_,fun k c hk=>?_⟩
 ·simp only [emptyCells,List.mem_map] at hc;obtain ⟨i,_,rfl⟩:=hc;exact ⟨Int.le_refl _,Int.le_refl _⟩
 ·have lt:=(List.getElem?_eq_some_iff.1 hk).1;have hk:emptyCells[k]?=some c:=hk;have lt:k < emptyCells.length:=lt;rw [zaS] at lt;rw [zeZ lt] at hk;cases hk;rfl
theorem TOk.set {n:Nat}{T:MirS}(h:TOk n T) (s:Nat) (f:FlowS):TOk (n+1) ⟨T.life,zk1 T.cells s f⟩:=by
 unfold zk1;cases hs:T.cells[s]? with
 | none=>exact h.succ
 | some e =>
  have lt:=(List.getElem?_eq_some_iff.1 hs).1;have hev:=h.ver e (List.mem_of_getElem? hs);refine ⟨by simpa using h.len,fun c hc=>?_,fun k c hk=>?_⟩
  ·rcases List.mem_or_eq_of_mem_set hc with hc|rfl
   ·have:=h.ver c hc;omega
   ·dsimp only;omega
  ·simp only [List.getElem?_set] at hk;by_cases h1:s=k
   ·subst h1;rw [if_pos rfl,if_pos lt] at hk;cases hk;exact h.slot s e hs
   ·rw [if_neg h1] at hk;exact h.slot k c hk
theorem TOk.lay {n:Nat}{T:MirS}(h:TOk n T) (f:FlowS):TOk (n+1) (T.lay f).2:=by
 unfold MirS.lay;split
 ·exact h.succ
 ·exact h.set _ _
theorem TOk.add {n:Nat}{T:MirS}(h:TOk n T) (pr ia ip fa fp st un:Int):TOk (n+1) (T.add pr ia ip fa fp st un).2:=by
 unfold MirS.add;split
 ·exact h.succ
 ·split
  ·exact h.lay _
  ·exact h.succ
theorem TOk.put {n:Nat}{T:MirS}(h:TOk n T) (f:FlowS):TOk (n+1) (T.put f).2:=by
 unfold MirS.put;split
 ·exact h.succ
 ·exact h.lay _
theorem TOk.setS {n:Nat}{T:MirS}(h:TOk n T) (k st un:Int):TOk (n+1) (T.setS k st un).2:=by
 unfold MirS.setS;split
 ·exact h.succ
 ·exact h.set _ _
theorem TOk.drop {n:Nat}{T:MirS}(h:TOk n T) (k:Int):TOk (n+1) (T.drop k).2:=by
 unfold MirS.drop;split
 ·exact h.succ
 ·exact h.set _ _
def zqk (now:Int) (c:CellS):Bool:=decide (c.f.proto≠0)&&decide (c.f.til≤now)
def zf5 (now:Int) (c:CellS):CellS:=if zqk now c=true then ⟨c.slot,c.ver+1,zay⟩ else c
def zaA (now:Int) (k:Nat) (l:List CellS):List CellS:=(l.take k).map (zf5 now)++l.drop k
def zbo (now:Int) (k:Nat) (l:List CellS):List Int:=((List.range k).filter fun i=>match l[i]? with|some c=>zqk now c|none=>false).map fun (i:Nat)=>(i:Int)
theorem zgn (now:Int) (k:Nat) (l:List CellS):(zaA now k l).length=l.length:=by
 simp only [zaA,List.length_append,List.length_map,List.length_take,List.length_drop];omega
theorem zg8 {now:Int}{k:Nat}{l:List CellS}{c:CellS}(h:l[k]?=some c):(zaA now k l)[k]?=some c:=by
 have lt:=(List.getElem?_eq_some_iff.1 h).1;unfold zaA;rw [List.getElem?_append_right (by simp;omega)];simp only [List.length_map,List.length_take,Nat.min_eq_left (Nat.le_of_lt lt),Nat.sub_self,List.getElem?_drop,Nat.add_zero];exact h
theorem zfb {now:Int}{k:Nat}{l:List CellS}{c:CellS}(h:l[k]?=some c):zaA now (k+1) l=(zaA now k l).set k (zf5 now c):=by
 have lt:=(List.getElem?_eq_some_iff.1 h).1;have e:=(List.getElem?_eq_some_iff.1 h).2;unfold zaA;rw [List.set_append_right _ _ (by simp;omega),List.take_add_one,h,List.map_append,List.append_assoc];congr 1;simp only [List.length_map,List.length_take,Nat.min_eq_left (Nat.le_of_lt lt),Nat.sub_self];rw [List.drop_eq_getElem_cons lt,List.set_cons_zero];rfl
theorem zgW {now:Int}{k:Nat}{l:List CellS}{c:CellS}(h:l[k]?=some c):zbo now (k+1) l=zbo now k l++(if zqk now c=true then [(k:Int)] else []):=by
 unfold zbo;rw [List.range_succ,List.filter_append,List.map_append];congr 1;cases hc:zqk now c<;>simp [h,hc]
theorem zib (now:Int) (k:Nat) (l:List CellS):(zbo now k l).length≤k:=by
 unfold zbo;rw [List.length_map];refine Nat.le_trans (List.length_filter_le _ _) ?_;simp
def MirS.expire (T:MirS) (now:Int):MirS:=⟨T.life,zaA now 32 T.cells⟩
theorem zgm {now:Int}{k:Nat}{l:List CellS}{c:CellS}(h:c∈zaA now k l):∃ d∈l,c=d∨c=zf5 now d:=by
 unfold zaA at h;rcases List.mem_append.1 h with h|h
 ·obtain ⟨d,hd,rfl⟩:=List.mem_map.1 h;exact ⟨d,List.mem_of_mem_take hd,.inr rfl⟩
 ·exact ⟨c,List.mem_of_mem_drop h,.inl rfl⟩
theorem zoS (now:Int) (c:CellS):c.ver≤(zf5 now c).ver∧(zf5 now c).ver≤c.ver+1:=by
 unfold zf5;split
 ·dsimp only;omega
 ·omega
theorem znp (now:Int) (c:CellS):(zf5 now c).slot=c.slot:=by
 unfold zf5;split<;>rfl
theorem TOk.expire {n:Nat}{T:MirS}(h:TOk n T) (now:Int) (k:Nat):TOk (n+1) ⟨T.life,zaA now k T.cells⟩:=by
 refine ⟨(zgn _ _ _).trans h.len,fun c hc=>?_,fun j c hj=>?_⟩
 ·obtain ⟨d,hd,h1⟩:=zgm hc;have:=h.ver d hd;have:=zoS now d;rcases h1 with rfl|rfl<;>omega
 ·have lt:=(List.getElem?_eq_some_iff.1 hj).1;have hj:(zaA now k T.cells)[j]?=some c:=hj;have lt:j < (zaA now k T.cells).length:=lt;rw [zgn] at lt;unfold zaA at hj;by_cases hk:j < k
  ·rw [List.getElem?_append_left (by simp;omega)] at hj;simp only [List.getElem?_map,List.getElem?_take,if_pos hk,Option.map_eq_some_iff] at hj;obtain ⟨d,hd,rfl⟩:=hj;rw [znp];exact h.slot j d hd
  ·rw [List.getElem?_append_right (by simp;omega)] at hj;simp only [List.length_map,List.length_take,List.getElem?_drop] at hj;rcases Nat.le_total k T.cells.length with h1|h1
   ·rw [Nat.min_eq_left h1,show k+(j - k)=j by omega] at hj;exact h.slot j c hj
   ·omega

section
variable {w : World} {b : Nat} {T : MirS}
theorem ztv {E:Nat→Addr}{n:Nat}(k st un:Int) (hb:Blk w b 330 (zaZ T)) (hm:T.cells.length=32) (hv:znS T) (hE:Errs w E n [2,4]) :
  CallC Tryz.prog 293 #[.pointer (some ⟨b,0,none⟩),.int .i64 k,.int .i64 st,.int .i64 un] w fun v w'=>v=zc9 E (T.setS k st un).1∧Ext (· = b) w w'∧Blk w' b 330 (zaZ (T.setS k st un).2):=by
 have hcode:T.flowErr k≠0→∃ j,T.flowErr k=j+1:=fun h=>⟨T.flowErr k - 1,by omega⟩
 have hin:T.flowErr k=0→0≤k∧k < 32:=by
  unfold MirS.flowErr;split
  ·intro h;cases h
  ·intro _;omega
 unfold MirS.setS;refine zaa tabOk Tryz.func293 (by kernel_rfl) rfl Tryz.ntmps293 (lbO rfl) ?_;have hS:=(St.start w (· = b)).add (zab b _ _) hb (by simp [blk];exact hb.lt) (by simp);(conv=>whnf);refine (zp3 k (hS.blk 0 rfl) hm hE).mono ?_;rintro v w2 ⟨⟨p,rfl,hp⟩,hx⟩;replace hS:=hS.no hx;clear hx;by_cases h:T.flowErr k=0
 ·obtain rfl:=hp h;obtain ⟨h0,h1⟩:=hin h;rw [if_neg (by simpa using h),h];obtain ⟨c,hc⟩:∃ c,T.cells[k.toNat]?=some c:=⟨_,List.getElem?_eq_getElem (by omega)⟩;have hcv:=hv c (List.mem_of_getElem? hc);have hfa:zaD T k=c.f:=by unfold zaD;rw [hc]
  rw [hfa];(conv=>whnf);refine hS.st 0 rfl (by rw [zbf hm];simp [zam];omega) rfl (fun w' hS=>?_)
  have ho:zaO (zaZ T) (0+1+k.toNat * 10+2+6) [.int .i64 st]=zaZ ⟨T.life,T.cells.set k.toNat ⟨c.slot,c.ver,{ c.f with state:=st }⟩⟩:=by
   rw [zbX (k:=k.toNat) (j:=8) (c':=⟨c.slot,c.ver,{ c.f with state:=st }⟩) hc (by simp) rfl (by simp<;>omega)]
  replace hS:St w (· = b) w' [blk b 330 (zaZ ⟨T.life,T.cells.set k.toNat ⟨c.slot,c.ver,{ c.f with state:=st }⟩⟩)]:=by rw [← ho];exact hS
  have hc2:(T.cells.set k.toNat ⟨c.slot,c.ver,{ c.f with state:=st }⟩)[k.toNat]?=some ⟨c.slot,c.ver,{ c.f with state:=st }⟩:=List.getElem?_set_self (by omega);(conv=>whnf);refine hS.st 0 rfl (by rw [zbf (by simpa using hm)];simp [zam];omega) rfl (fun w' hS=>?_)
  have ho:zaO (zaZ ⟨T.life,T.cells.set k.toNat ⟨c.slot,c.ver,{ c.f with state:=st }⟩⟩) (0+1+k.toNat * 10+2+7) [.int .i64 un]=zaZ ⟨T.life,T.cells.set k.toNat ⟨c.slot,c.ver,{ c.f with state:=st,til:=un }⟩⟩:=by
   rw [zbX (k:=k.toNat) (j:=9) (c':=⟨c.slot,c.ver,{ c.f with state:=st,til:=un }⟩) hc2 (by simp) rfl (by simp<;>omega),List.set_set]
  replace hS:St w (· = b) w' [blk b 330 (zaZ ⟨T.life,T.cells.set k.toNat ⟨c.slot,c.ver,{ c.f with state:=st,til:=un }⟩⟩)]:=by rw [← ho];exact hS
  have hc3:(T.cells.set k.toNat ⟨c.slot,c.ver,{ c.f with state:=st,til:=un }⟩)[k.toNat]?=some ⟨c.slot,c.ver,{ c.f with state:=st,til:=un }⟩:=List.getElem?_set_self (by omega);(conv=>whnf);refine hS.ld 0 rfl (zdp (k:=k.toNat) (j:=1) hc3 rfl (by simp<;>omega)) ?_;(conv=>whnf);refine RngC.mk (by dsimp only;omega) (by dsimp only;omega) ?_;(conv=>whnf);refine hS.st 0 rfl (by rw [zbf (by simpa using hm)];simp [zam];omega) rfl (fun w' hS=>?_)
  have ho:zaO (zaZ ⟨T.life,T.cells.set k.toNat ⟨c.slot,c.ver,{ c.f with state:=st,til:=un }⟩⟩) (0+1+k.toNat * 10+1) [.int .i64 (c.ver+1)]=zaZ ⟨T.life,zk1 T.cells k.toNat { c.f with state:=st,til:=un }⟩:=by
   rw [zbX (k:=k.toNat) (j:=1) (c':=⟨c.slot,c.ver+1,{ c.f with state:=st,til:=un }⟩) hc3 (by simp) rfl (by simp<;>omega),zeL hc,List.set_set]
  replace hS:St w (· = b) w' [blk b 330 (zaZ ⟨T.life,zk1 T.cells k.toNat { c.f with state:=st,til:=un }⟩)]:=by rw [← ho];exact hS
  repeat' ((conv=>whnf);first|apply RetC.mk|refine rgO ?_|refine ixO ?_|(first|apply brD|apply zad|apply brN|apply brI)<;>(intro))
  exact ⟨rfl,hS.ext,hS.blk 0 rfl⟩
 ·rw [if_pos h];obtain ⟨j,hj⟩:=hcode h;rw [hj];repeat' ((conv=>whnf);first|apply RetC.mk|refine rgO ?_|refine ixO ?_|(first|apply brD|apply zad|apply brN|apply brI)<;>(intro))
  exact ⟨rfl,hS.ext,hS.blk 0 rfl⟩

theorem zc2:Codec 1 zcw:=⟨fun _=>rfl,fun _=>rfl,by decide⟩

theorem znA {E:Nat→Addr}{n m:Nat}(now:Int) (hb:Blk w b 330 (zaZ T)) (hT:TOk m T) (hmm:m≤50000000) (hE:Errs w E n [2,4]) (hq:n≤b) :
  CallC Tryz.prog 318 #[.pointer (some ⟨b,0,none⟩),.int .i64 now] w fun v w'=>(∃ a' c',v = .slice a' (zbo now 32 T.cells).length c')∧Ext (· = b) w w'∧Blk w' b 330 (zaZ (T.expire now))∧(zaf 3 1 zcw v (zbo now 32 T.cells)).holds w'∧zc0 w w' v:=by
 have hm:=hT.len;have hbl:=hb.lt;refine zaa tabOk Tryz.func318 (by kernel_rfl) rfl Tryz.ntmps318 (lbO rfl) ?_;have hS:=(St.start w (· = b)).add (zab b _ _) hb (by simp [blk];exact hb.lt) (by simp);have hl0:CellsAt w b 1 (T.cells.flatMap zac):=hb.cells (by rw [zas zau];simp only [zaZ,List.drop_succ_cons,List.drop_zero];exact zeg _);(conv=>whnf);refine hS.la 0 rfl (l:=T.cells.flatMap zac) (by rw [zas zau,hm]) (by rw [zas zau];simp only [zaZ,List.drop_succ_cons,List.drop_zero];exact zeg _) ?_;have hS:=hS.add (zaj (e:=3) (enc:=zcw) (sz:=1) (v:=.slice none 0 0) (xs:=[])) (zcy _ _ _) (by simp [zaf,own,Value.ownBlock]) (by simp [zaf,own,Value.ownBlock]);(conv=>whnf)
 refine zaL tabOk (fun σ w' q=>∃ (k:Nat) (v:Value),σ=[(12,.int .i64 k),(11,.agg (T.cells.flatMap zac).toArray),(5,v),(1,.int .i64 now),(0,.pointer (some ⟨b,0,none⟩))]∧q=32 - k∧k≤32∧(∃ a' c',v = .slice a' (zbo now k T.cells).length c')∧St w (· = b) w' [blk b 330 (zaZ ⟨T.life,zaA now k T.cells⟩),zaf 3 1 zcw v (zbo now k T.cells)])
  (σ':=[(12,.int .i64 ((0:Nat):Int)),(11,.agg (T.cells.flatMap zac).toArray),(5,.slice none 0 0),(1,.int .i64 now),(0,.pointer (some ⟨b,0,none⟩))]) (n:=32) ⟨rfl,rfl,rfl,rfl,rfl,trivial⟩ ⟨0,_,rfl,rfl,Nat.zero_le _,⟨none,0,rfl⟩,hS⟩ ?_
 clear hS;rintro _ w1 q ⟨k,_,rfl,rfl,hk,⟨a',c',rfl⟩,hS⟩;(conv=>whnf);refine brD (fun h3=>?_) (fun h3=>?_)
 ·obtain ⟨x,hxk⟩:∃ x,T.cells[k]?=some x:=⟨_,List.getElem?_eq_getElem (by omega)⟩;have hol:=zib now k T.cells;have hos:=zgW (now:=now) hxk;have hcs:=zfb (now:=now) hxk;have hca:=zg8 (now:=now) hxk;have hTk:=hT.expire now k;have hxv:=hT.ver x (List.mem_of_getElem? hxk);(conv=>whnf);refine PureC.of (zkO zau (k:=k) (by rw [hm];exact Tryz.underlying328) (by kernel_rfl) ⟨_,Tryz.underlying209⟩ (by kernel_rfl) (by kernel_rfl) hxk rfl) ?_;(conv=>whnf);refine hS.new (fun bc w' hbc hS=>?_);(conv=>whnf);refine hS.st 2 rfl (lbO rfl) rfl (fun w' hS=>?_);replace hS:St w (· = b) w' [blk b 330 (zaZ ⟨T.life,zaA now k T.cells⟩),zaf 3 1 zcw (.slice a' (zbo now k T.cells).length c') (zbo now k T.cells),blk bc 209 (zac x)]:=hS;by_cases hx:zqk now x=true
  ·have h1:x.f.proto≠0∧x.f.til≤now:=by simpa [zqk] using hx
   rw [if_pos hx] at hos
   have hdr:(MirS.mk T.life (zaA now k T.cells)).drop k=(0,⟨T.life,zaA now (k+1) T.cells⟩):=by
    have hfe:(MirS.mk T.life (zaA now k T.cells)).flowErr k=0:=by
     unfold MirS.flowErr;rw [if_neg (by omega)];simp only [show ((k:Int)).toNat=k by simp,hca];simp [h1.1]
    unfold MirS.drop;rw [hfe,if_neg (by simp),show ((k:Int)).toNat=k by simp];simp only [zeL hca];rw [hcs,zf5,if_pos hx]
   (conv=>whnf);refine hS.ld 2 rfl rfl ?_;(conv=>whnf);refine zad (fun _=>?_) (fun h=>absurd h h1.1);(conv=>whnf);refine hS.ld 2 rfl rfl ?_;(conv=>whnf);refine brD (fun _=>?_) (fun h=>absurd h1.2 h);(conv=>whnf);refine (zmO (k:Int) (hS.blk 0 rfl) hTk.len (hTk.verOk (by omega)) ((hE.sub rfl).ext hS.ext fun c hc=>by subst hc;exact hq)).mono ?_;rw [hdr];rintro v w' ⟨rfl,hx',hB⟩;replace hS:=hS.upd 0 rfl hx' (fun c hc=>by subst hc;exact List.mem_singleton.2 rfl) (zab _ _ _) hB (fun c hc=>.inl hc);(conv=>whnf);refine hS.lit (cs:=[.int .i64 k]) Tryz.underlying47 (sz:=1) (by kernel_rfl) (z:=.int .i64 0) (by kernel_rfl) rfl rfl (by rfl) (fun bl w' hbl hS=>?_);(conv=>whnf);refine hS.appS zc2 1 (ys:=[(k:Int)]) (G:=fun _=>True) Tryz.underlying47 (bytes:=8) (by kernel_rfl) (z:=.int .i64 0) (by kernel_rfl) rfl rfl (Slc.of_blk zc2 (hS.blk 3 rfl) rfl (by simp) (fun _ _=>trivial) rfl) (by unfold maxLen;omega) (by omega) (fun a2 c2 w' hS=>?_);replace hS:=hS.keep 2;rw [← hos] at hS;have hl2:(zbo now k T.cells).length+1=(zbo now (k+1) T.cells).length:=by rw [hos];simp
   rw [hl2] at hS ⊢;(conv=>whnf);refine rgO ?_;(conv=>whnf);refine LoopE.mk ⟨_,[(12,.int .i64 ((k+1:Nat):Int)),(11,_),(5,_),(1,_),(0,_)],?_,⟨rfl,rfl,rfl,rfl,rfl,trivial⟩,⟨k+1,_,rfl,rfl,by omega,⟨a2,c2,rfl⟩,hS⟩⟩;omega
  ·rw [if_neg hx,List.append_nil] at hos
   have hcs2:zaA now (k+1) T.cells=zaA now k T.cells:=by
    rw [hcs,zf5,if_neg hx];obtain ⟨lt,e⟩:=List.getElem?_eq_some_iff.1 hca;rw [← e];exact List.set_getElem_self lt
   have h1:x.f.proto≠0→¬ x.f.til≤now:=by
    intro a b;exact hx (by simp [zqk,a,b])
   have fin:∀ w',St w (· = b) w' [blk b 330 (zaZ ⟨T.life,zaA now k T.cells⟩),zaf 3 1 zcw (.slice a' (zbo now k T.cells).length c') (zbo now k T.cells),blk bc 209 (zac x)]→St w (· = b) w' [blk b 330 (zaZ ⟨T.life,zaA now (k+1) T.cells⟩),zaf 3 1 zcw (.slice a' (zbo now k T.cells).length c') (zbo now (k+1) T.cells)]:=by
    intro w' hS;rw [hcs2,hos];exact hS.keep 2
   (conv=>whnf);refine hS.ld 2 rfl rfl ?_;(conv=>whnf);refine zad (fun h4=>?_) (fun h4=>?_)
   ·(conv=>whnf)
    refine hS.ld 2 rfl rfl ?_;(conv=>whnf);refine brD (fun h=>absurd h (h1 h4)) (fun h=>?_);(conv=>whnf);refine rgO ?_;(conv=>whnf);refine LoopE.mk ⟨_,[(12,.int .i64 ((k+1:Nat):Int)),(11,_),(5,_),(1,_),(0,_)],?_,⟨rfl,rfl,rfl,rfl,rfl,trivial⟩,⟨k+1,_,rfl,rfl,by omega,⟨a',c',by rw [hos]⟩,fin _ hS⟩⟩;omega
   ·(conv=>whnf)
    refine rgO ?_;(conv=>whnf);refine LoopE.mk ⟨_,[(12,.int .i64 ((k+1:Nat):Int)),(11,_),(5,_),(1,_),(0,_)],?_,⟨rfl,rfl,rfl,rfl,rfl,trivial⟩,⟨k+1,_,rfl,rfl,by omega,⟨a',c',by rw [hos]⟩,fin _ hS⟩⟩;omega
 ·obtain rfl:k=32:=by omega
  repeat' ((conv=>whnf);first|apply RetC.mk|refine rgO ?_|refine ixO ?_|(first|apply brD|apply zad|apply brN|apply brI)<;>(intro))
  refine ⟨⟨a',c',rfl⟩,hS.ext,hS.blk 0 rfl,hS.get 1 rfl,fun g hg=>?_⟩;obtain ⟨h1,h2⟩:=hS.may _ (List.mem_of_getElem? (i:=1) rfl) g (by simpa [zaf,own] using hg);refine ⟨h1.resolve_left ?_,h2⟩;rintro rfl;have:=zaG zaX hS.apart (i:=0) (j:=1) rfl rfl (by decide) g (by simp [blk]);exact this (by simpa [zaf,own] using hg)
end

def zfh (l:List CellS) (k:Nat):Int:=match l[k]? with
 | some c=>c.ver
 | none=>0
def zmp (l:List CellS) (k:Nat):CellS:=match l[k]? with
 | some c=>c
 | none=>⟨0,0,zay⟩
def zj4 (t:List Int) (k:Nat):Int:=match t[k]? with
 | some v=>v
 | none=>0
def zs8 (l:List CellS) (t:List Int) (k:Nat):Bool:=decide (zfh l k≠zj4 t k)
def za6 (l:List CellS) (t:List Int) (n:Nat):List Nat:=((List.range n).filter (zs8 l t)).take 8
def zaz (l:List CellS) (t:List Int) (p:List Nat):List Int:=p.foldl (fun t k=>t.set k (zfh l k)) t
def zct:Nat→Nat→List Nat→Nat × List Nat
 | 0,c,p=>(c,p)
 | n+1,c,p=>if p.length < 8 then zct n ((c+1) % 32) (if c∈p then p else p++[c]) else (c,p)
structure TelS where
 told:List Int
 cursor:Nat
def TelS.picks (X:TelS) (l:List CellS):List Nat:=(zct 32 X.cursor (za6 l X.told 32)).2
def TelS.next (X:TelS) (l:List CellS):TelS:=⟨zaz l X.told (X.picks l),(zct 32 X.cursor (za6 l X.told 32)).1⟩
def zcj (l:List CellS) (p:List Nat):List CellS:=p.map (zmp l)
theorem zgG {l:List CellS}{k:Nat}{c:CellS}(h:l[k]?=some c):zfh l k=c.ver:=by unfold zfh;rw [h]
theorem zd2 {l:List CellS}{k:Nat}{c:CellS}(h:l[k]?=some c):zmp l k=c:=by unfold zmp;rw [h]
theorem zhq {t:List Int}{k:Nat}{v:Int}(h:t[k]?=some v):zj4 t k=v:=by unfold zj4;rw [h]
theorem zeb (l:List CellS) (t:List Int) (n:Nat):(za6 l t n).length≤8:=by
 unfold za6;rw [List.length_take];omega
theorem zmo {l:List CellS}{t:List Int}{n k:Nat}(h:k∈za6 l t n):k < n:=by
 have:=List.mem_of_mem_take h;simp at this;exact this.1
theorem zfI (l:List CellS) (t:List Int) (n:Nat):za6 l t (n+1)=if zs8 l t n=true∧(za6 l t n).length < 8 then za6 l t n++[n] else za6 l t n:=by
 unfold za6;rw [List.range_succ,List.filter_append];generalize (List.range n).filter (zs8 l t)=xs;cases h:zs8 l t n
 ·simp [h]
 ·simp only [List.filter_cons,h,List.filter_nil,if_true,true_and,List.length_take];rw [List.take_append];by_cases h8:xs.length < 8
  ·rw [if_pos (by omega),List.take_of_length_le (by omega),List.take_of_length_le (by simp;omega)]
  ·rw [if_neg (by omega),show 8 - xs.length=0 by omega];simp
theorem zhx (l:List CellS) (t:List Int) (n:Nat):(za6 l t n).Nodup:=by
 unfold za6;exact (List.take_sublist _ _).nodup ((List.filter_sublist).nodup List.nodup_range)
theorem zbP (l:List CellS):∀ (p:List Nat) (t:List Int),(zaz l t p).length=t.length
 | [],t=>rfl
 | k::p,t=>by
  show (zaz l (t.set k (zfh l k)) p).length=_;rw [zbP l p];exact List.length_set
theorem zdm (l:List CellS) (t:List Int) (p:List Nat) (k:Nat):zaz l t (p++[k])=(zaz l t p).set k (zfh l k):=by
 unfold zaz;rw [List.foldl_append];rfl
theorem zit (l:List CellS):∀ (p:List Nat) (t:List Int) (k:Nat),k < t.length→(zaz l t p)[k]?=some (if k∈p then zfh l k else zj4 t k)
 | [],t,k,h=>by
  show t[k]?=_;rw [List.getElem?_eq_getElem h,if_neg (by simp),zhq (List.getElem?_eq_getElem h)]
 | j::p,t,k,h=>by
  show (zaz l (t.set j (zfh l j)) p)[k]?=_;rw [zit l p _ k (by simpa using h)];by_cases hk:k∈p
  ·rw [if_pos hk,if_pos (by simp [hk])]
  ·rw [if_neg hk];by_cases hj:k=j
   ·subst hj;rw [if_pos (by simp),zhq (List.getElem?_set_self h)]
   ·rw [if_neg (by simp [hk,hj])];unfold zj4;rw [List.getElem?_set_ne (fun e=>hj e.symm)]
theorem zmg:∀ {l p:List Nat},l.Nodup→(∀ x∈l,x∈p)→l.length≤p.length
 | [],p,_,_=>Nat.zero_le _
 | x::l,p,hn,hs=>by
  have hx:=hs x (by simp);obtain ⟨h1,h2⟩:=List.nodup_cons.1 hn;have:=zmg (l:=l) (p:=p.erase x) h2 fun y hy=>(List.mem_erase_of_ne (by rintro rfl;exact h1 hy)).2 (hs y (by simp [hy]))
  rw [List.length_erase_of_mem hx] at this;have:0 < p.length:=List.length_pos_of_mem hx;simp only [List.length_cons];omega
structure Swept (c0 j c:Nat) (p:List Nat):Prop where
 cur:c=(c0+j) % 32
 all:∀ i,i < j→(c0+i) % 32∈p
theorem Swept.few {c0 j c:Nat}{p:List Nat}(h:Swept c0 j c p) (hc:c0 < 32) (hp:p.length < 8):j < 32:=by
 by_cases hj:j < 32
 ·exact hj
 ·have:(List.range 32).length≤p.length:=zmg List.nodup_range fun x hx=>by
   have hx:x < 32:=List.mem_range.1 hx;by_cases hle:c0≤x
   ·have:=h.all (x - c0) (by omega)
    rwa [show (c0+(x - c0)) % 32=x by omega] at this
   ·have:=h.all (x+32 - c0) (by omega)
    rwa [show (c0+(x+32 - c0)) % 32=x by omega] at this
  simp at this;omega
theorem Swept.step {c0 j c:Nat}{p:List Nat}(h:Swept c0 j c p):Swept c0 (j+1) ((c+1) % 32) (if c∈p then p else p++[c]):=by
 have hc:=h.cur;refine ⟨by omega,fun i hi=>?_⟩
 have hsub:∀ x,x∈p→x∈(if c∈p then p else p++[c]):=fun x hx=>by
  split
  ·exact hx
  ·exact List.mem_append_left _ hx
 rcases Nat.lt_or_eq_of_le (Nat.le_of_lt_succ hi) with hi|rfl
 ·exact hsub _ (h.all i hi)
 ·rw [← hc];split
  ·assumption
  ·simp
theorem zdo {n c:Nat}{p:List Nat}(h:¬ p.length < 8):zct n c p=(c,p):=by
 cases n with
 | zero=>rfl
 | succ n=>unfold zct;rw [if_neg h]
theorem zdt {n c:Nat}{p:List Nat}(h:p.length < 8):zct (n+1) c p=zct n ((c+1) % 32) (if c∈p then p else p++[c]):=by
 conv=>lhs;unfold zct
 rw [if_pos h]

def zb4 (bt g c:Nat) (T:MirS):Ent:=⟨[bt,g],fun w=>bt≠g∧Blk w bt 133 [.int .i64 T.life,.slice (some ⟨g,0,none⟩) 32 c]∧(zaf 209 10 zac (.slice (some ⟨g,0,none⟩) 32 c) T.cells).holds w⟩
theorem zbz {bt g c:Nat}{T:MirS}:(zb4 bt g c T).Local:=fun w w' h ⟨h1,h2,h3⟩ =>
 ⟨h1,zab bt _ _ w w' (fun b hb=>h b (by simp [blk] at hb;simp [zb4,hb])) h2,zaj w w' (fun b hb=>h b (by simp [zaf,own,Value.ownBlock] at hb;simp [zb4,hb])) h3⟩

section
variable {w : World} {bt g c : Nat} {T : MirS}
theorem zik (h:(zb4 bt g c T).holds w):w.cell? ⟨bt,0,none⟩=some (.int .i64 T.life):=h.2.1.cell 0
theorem zbQ (h:(zb4 bt g c T).holds w):w.cell? ⟨bt,1,none⟩=some (.slice (some ⟨g,0,none⟩) 32 c):=h.2.1.cell 1
theorem zeh (h:(zb4 bt g c T).holds w):Slc w 10 zac (fun _=>True) (some ⟨g,0,none⟩) 32 T.cells:=by
 obtain ⟨_,_,h3⟩:=h
 have hl:T.cells.length=32:=by
  obtain ⟨_,⟨h4,_⟩ | ⟨g',cap,cur,h4,_⟩⟩:=h3
  ·cases h4
  ·simp only [Value.slice.injEq] at h4;exact h4.2.1.symm
 have:=zap (G:=fun _=>True) zau h3 fun _ _=>trivial
 exact this
theorem zcA (h:(zb4 bt g c T).holds w) {k:Nat}{x:CellS}(hx:T.cells[k]?=some x):CellsAt w g (k * 10) (zac x):=by
 obtain ⟨b,o,h1,_,h2⟩:=(zeh h).cells k x hx;cases h1;rw [Nat.zero_add] at h2;exact h2
theorem zbA {w':World}(h:(zb4 bt g c T).holds w) (hx:Ext No w w'):(zb4 bt g c T).holds w' :=
 zbz w w' (fun b hb=>hx.block b (by
  simp only [zb4,List.mem_cons,List.not_mem_nil,or_false] at hb;rcases hb with rfl|rfl
  ·exact h.2.1.lt
  ·exact zmC h.2.2) id) h

theorem ziV (pr ia ip fa fp:Int) (hT:(zb4 bt g c T).holds w) :
  CallC Tryz.prog 191 #[.pointer (some ⟨bt,0,none⟩),.int .i64 pr,.agg #[.int .i64 ia,.int .i64 ip],.agg #[.int .i64 fa,.int .i64 fp]] w fun v w'=>v = .int .i64 (T.find pr ia ip fa fp)∧Ext No w w':=by
 have hl:=(zeh hT).len;unfold MirS.find;refine zaa tabOk Tryz.func191 (by kernel_rfl) rfl Tryz.ntmps191 (lbO rfl) ?_;have hS:=St.start w No;(conv=>whnf);refine hS.new (fun b6 w' _ hS=>?_);(conv=>whnf);refine hS.new (fun b7 w' _ hS=>?_);(conv=>whnf)
 refine zaL tabOk (fun σ w' q=>∃ k:Nat,σ=[(9,.int .i64 k),(7,.pointer (some ⟨b7,0,none⟩)),(6,.pointer (some ⟨b6,0,none⟩)),(1,.int .i64 pr),(0,.pointer (some ⟨bt,0,none⟩))]∧q=32 - k∧k≤32∧St w No w' [blk b6 39 [.int .i64 ia,.int .i64 ip],blk b7 39 [.int .i64 fa,.int .i64 fp]] ∧
   zc3 (za9 (zlt pr ia ip fa fp)) T.cells 0=zc3 (za9 (zlt pr ia ip fa fp)) (T.cells.drop k) k)
  (σ':=[(9,.int .i64 ((0:Nat):Int)),(7,.pointer (some ⟨b7,0,none⟩)),(6,.pointer (some ⟨b6,0,none⟩)),(1,.int .i64 pr),(0,.pointer (some ⟨bt,0,none⟩))]) (n:=32) ⟨rfl,rfl,rfl,rfl,rfl,trivial⟩ ⟨0,rfl,rfl,Nat.zero_le _,hS,by simp⟩ ?_
 clear hS;rintro _ w1 q ⟨k,rfl,rfl,hk,hS,hi⟩;(conv=>whnf);refine hS.ldr (zbQ hT) id ?_;(conv=>whnf);refine brD (fun h3=>?_) (fun h3=>?_)
 ·obtain ⟨x,hxk⟩:∃ x,T.cells[k]?=some x:=⟨_,List.getElem?_eq_getElem (by omega)⟩;have hst:=zeW (za9 (zlt pr ia ip fa fp)) hxk;(conv=>whnf);refine hS.ldr (zbQ hT) id ?_;(conv=>whnf);refine ixO ?_;(conv=>whnf);refine hS.lar (l:=zai x.f) rfl (show CellsAt w g (0+Int.toNat (k:Int) * 10+2) (zai x.f) by rw [Nat.zero_add];exact (zcA hT hxk).sub 2 (l':=zai x.f) rfl) id ?_;(conv=>whnf);refine hS.new (fun b10 w' _ hS=>?_);(conv=>whnf);refine hS.st 2 rfl (lbO rfl) rfl (fun w' hS=>?_);replace hS:St w No w' [blk b6 39 [.int .i64 ia,.int .i64 ip],blk b7 39 [.int .i64 fa,.int .i64 fp],blk b10 207 (zai x.f)]:=hS;have next:za9 (zlt pr ia ip fa fp) x=false→zc3 (za9 (zlt pr ia ip fa fp)) T.cells 0=zc3 (za9 (zlt pr ia ip fa fp)) (T.cells.drop (k+1)) (k+1):=fun h=>by rw [hi,hst,h]
  repeat' ((conv=>whnf);first|apply RetC.mk|refine rgO ?_|refine ixO ?_|refine hS.ld 2 rfl rfl ?_|refine hS.la 2 rfl (l:=[.int .i64 x.f.ia,.int .i64 x.f.ip]) rfl rfl ?_|refine hS.la 2 rfl (l:=[.int .i64 x.f.fa,.int .i64 x.f.fp]) rfl rfl ?_|refine hS.la 0 rfl (l:=[.int .i64 ia,.int .i64 ip]) rfl rfl ?_|refine hS.la 1 rfl (l:=[.int .i64 fa,.int .i64 fp]) rfl rfl ?_|refine zrV ?_|(first|apply brD|apply zad|apply brN|apply brI)<;>(intro))
  all_goals first
   | exact LoopE.mk ⟨_,[(9,.int .i64 ((k+1:Nat):Int)),(7,_),(6,_),(1,_),(0,_)],by omega,⟨rfl,rfl,rfl,rfl,rfl,trivial⟩,⟨k+1,rfl,rfl,by omega,hS.keep 2,next (by simp_all [za9,zlt])⟩⟩
   | exact ⟨by rw [hi,hst,show za9 (zlt pr ia ip fa fp) x=true by simp_all [za9,zlt]],hS.ext⟩
   | trace_state
 ·obtain rfl:k=32:=by omega
  repeat' ((conv=>whnf);first|apply RetC.mk|refine rgO ?_|refine ixO ?_|(first|apply brD|apply zad|apply brN|apply brI)<;>(intro))
  rw [hi,List.drop_of_length_le (by omega)];exact ⟨rfl,hS.ext⟩

theorem ziJ (pr po fa fp:Int) (hT:(zb4 bt g c T).holds w) :
  CallC Tryz.prog 197 #[.pointer (some ⟨bt,0,none⟩),.int .i64 pr,.int .i64 po,.agg #[.int .i64 fa,.int .i64 fp]] w fun v w'=>v = .int .i64 (T.back pr po fa fp)∧Ext No w w':=by
 have hl:=(zeh hT).len;unfold MirS.back;refine zaa tabOk Tryz.func197 (by kernel_rfl) rfl Tryz.ntmps197 (lbO rfl) ?_;have hS:=St.start w No;(conv=>whnf);refine hS.new (fun b7 w' _ hS=>?_);(conv=>whnf)
 refine zaL tabOk (fun σ w' q=>∃ k:Nat,σ=[(9,.int .i64 k),(7,.pointer (some ⟨b7,0,none⟩)),(2,.int .i64 po),(1,.int .i64 pr),(0,.pointer (some ⟨bt,0,none⟩))]∧q=32 - k∧k≤32∧St w No w' [blk b7 39 [.int .i64 fa,.int .i64 fp]] ∧
   zc3 (za9 (zlx pr po fa fp)) T.cells 0=zc3 (za9 (zlx pr po fa fp)) (T.cells.drop k) k)
  (σ':=[(9,.int .i64 ((0:Nat):Int)),(7,.pointer (some ⟨b7,0,none⟩)),(2,.int .i64 po),(1,.int .i64 pr),(0,.pointer (some ⟨bt,0,none⟩))]) (n:=32) ⟨rfl,rfl,rfl,rfl,rfl,trivial⟩ ⟨0,rfl,rfl,Nat.zero_le _,hS,by simp⟩ ?_
 clear hS;rintro _ w1 q ⟨k,rfl,rfl,hk,hS,hi⟩;(conv=>whnf);refine hS.ldr (zbQ hT) id ?_;(conv=>whnf);refine brD (fun h3=>?_) (fun h3=>?_)
 ·obtain ⟨x,hxk⟩:∃ x,T.cells[k]?=some x:=⟨_,List.getElem?_eq_getElem (by omega)⟩;have hst:=zeW (za9 (zlx pr po fa fp)) hxk;(conv=>whnf);refine hS.ldr (zbQ hT) id ?_;(conv=>whnf);refine ixO ?_;(conv=>whnf);refine hS.lar (l:=zai x.f) rfl (show CellsAt w g (0+Int.toNat (k:Int) * 10+2) (zai x.f) by rw [Nat.zero_add];exact (zcA hT hxk).sub 2 (l':=zai x.f) rfl) id ?_;(conv=>whnf);refine hS.new (fun b10 w' _ hS=>?_);(conv=>whnf);refine hS.st 1 rfl (lbO rfl) rfl (fun w' hS=>?_);replace hS:St w No w' [blk b7 39 [.int .i64 fa,.int .i64 fp],blk b10 207 (zai x.f)]:=hS;have next:za9 (zlx pr po fa fp) x=false→zc3 (za9 (zlx pr po fa fp)) T.cells 0=zc3 (za9 (zlx pr po fa fp)) (T.cells.drop (k+1)) (k+1):=fun h=>by rw [hi,hst,h]
  repeat' ((conv=>whnf);first|apply RetC.mk|refine rgO ?_|refine ixO ?_|refine hS.ld 1 rfl rfl ?_|refine hS.la 1 rfl (l:=[.int .i64 x.f.fa,.int .i64 x.f.fp]) rfl rfl ?_|refine hS.la 0 rfl (l:=[.int .i64 fa,.int .i64 fp]) rfl rfl ?_|refine zrV ?_|(first|apply brD|apply zad|apply brN|apply brI)<;>(intro))
  all_goals first
   | exact LoopE.mk ⟨_,[(9,.int .i64 ((k+1:Nat):Int)),(7,_),(2,_),(1,_),(0,_)],by omega,⟨rfl,rfl,rfl,rfl,rfl,trivial⟩,⟨k+1,rfl,rfl,by omega,hS.keep 1,next (by simp_all [za9,zlx])⟩⟩
   | exact ⟨by rw [hi,hst,show za9 (zlx pr po fa fp) x=true by simp_all [za9,zlx]],hS.ext⟩
   | trace_state
 ·obtain rfl:k=32:=by omega
  repeat' ((conv=>whnf);first|apply RetC.mk|refine rgO ?_|refine ixO ?_|(first|apply brD|apply zad|apply brN|apply brI)<;>(intro))
  rw [hi,List.drop_of_length_le (by omega)];exact ⟨rfl,hS.ext⟩

theorem zlN (hT:(zb4 bt g c T).holds w):bt < w.heap.size∧g < w.heap.size:=⟨hT.2.1.lt,zmC hT.2.2⟩
theorem zrX {w':World}{L:List CellS}(hT:(zb4 bt g c T).holds w) (hx:Ext (· = g) w w') (hO:(zaf 209 10 zac (.slice (some ⟨g,0,none⟩) 32 c) L).holds w'):(zb4 bt g c ⟨T.life,L⟩).holds w' :=
 ⟨hT.1,hx.blk hT.2.1 hT.1,hO⟩

theorem zhz (k:Nat) (f:FlowS) {x:CellS}(hT:(zb4 bt g c T).holds w) (hx:T.cells[k]?=some x) (hs:x.slot=k) (hv:0≤x.ver∧x.ver < 9223372036854775807) :
  CallC Tryz.prog 314 #[.pointer (some ⟨bt,0,none⟩),.int .i64 k,.agg (zai f).toArray] w fun v w'=>Ext (· = g) w w'∧(zb4 bt g c ⟨T.life,zk1 T.cells k f⟩).holds w':=by
 have hl:=(zeh hT).len;have hlt:=(List.getElem?_eq_some_iff.1 hx).1;obtain ⟨l1,l2⟩:=zlN hT;have hne:=hT.1;refine zaa tabOk Tryz.func314 (by kernel_rfl) rfl Tryz.ntmps314 (lbO rfl) ?_;have hS:=(St.start w (· = g)).add zaj hT.2.2 (by simp [zaf,own,Value.ownBlock];exact l2) (by simp);(conv=>whnf);refine hS.new (fun b5 w' hb5 hS=>?_);have h5:¬ b5=g:=by omega
 have hcx:CellsAt w' g (0+Int.toNat (k:Int) * 10) (zac x):=by
  obtain ⟨b,o,h1,_,h2⟩:=(zap (G:=fun _=>True) zau (hS.get 0 rfl) fun _ _=>trivial).cells k x hx;cases h1;exact h2
 conv=>whnf
 (refine zah tabOk mixed [13] (· = g) [0,1,2,3,4,5,6,7,8,9,10,11,12,15,13,14,16,17,18] (by kernel_rfl) ?_;rintro w1 rfl;replace hS:=hS.drew)
 repeat' ((conv=>whnf);first|refine ixO ?_|refine hS.ldrF (zbQ hT) hne hne ?_|refine hS.laF 1 rfl (l:=zai f) rfl rfl h5 ?_|(refine ldc (hcx.one 1 rfl) ?_;refine KeepC.mk (Ext.refl _ _) ?_)|refine rgO ?_)
 refine hS.putCell (k:=k) (x:=⟨(k:Int),x.ver+1,f⟩) 0 rfl hx (by simp) (fun w' hx' hS=>?_);refine KeepC.mk hx' ?_;repeat' ((conv=>whnf);first|apply RetC.mk|refine rgO ?_|refine ixO ?_|(first|apply brD|apply zad|apply brN|apply brI)<;>(intro))
 refine ⟨hS.ext,zrX hT hS.ext ?_⟩;rw [zeL hx,hs];exact hS.get 0 rfl

theorem zoQ (f:FlowS) (hT:(zb4 bt g c T).holds w) {n:Nat}(hO:TOk n T) (hn:n≤50000000) :
  CallC Tryz.prog 266 #[.pointer (some ⟨bt,0,none⟩),.agg (zai f).toArray] w fun v w'=>v = .tuple #[.int .i64 (atI (T.lay f).1.1),.int .i64 (T.lay f).1.2]∧Ext (· = g) w w'∧(zb4 bt g c (T.lay f).2).holds w':=by
 have hl:=hO.len;unfold MirS.lay;refine zaa tabOk Tryz.func266 (by kernel_rfl) rfl Tryz.ntmps266 (lbO rfl) ?_;have hS:=St.start w No;(conv=>whnf);refine hS.new (fun b3 w' hb3 hS=>?_);(conv=>whnf)
 refine zaL tabOk (fun σ w' q=>∃ k:Nat,σ=[(6,.int .i64 k),(3,.pointer (some ⟨b3,0,none⟩)),(0,.pointer (some ⟨bt,0,none⟩))]∧q=32 - k∧k≤32∧St w No w' [blk b3 207 (zai f)] ∧
   zc3 zbZ T.cells 0=zc3 zbZ (T.cells.drop k) k)
  (σ':=[(6,.int .i64 ((0:Nat):Int)),(3,.pointer (some ⟨b3,0,none⟩)),(0,.pointer (some ⟨bt,0,none⟩))]) (n:=32) ⟨rfl,rfl,rfl,trivial⟩ ⟨0,rfl,rfl,Nat.zero_le _,hS,by simp⟩ ?_
 clear hS;rintro _ w1 q ⟨k,rfl,rfl,hk,hS,hi⟩;(conv=>whnf);refine hS.ldr (zbQ hT) id ?_;(conv=>whnf);refine brD (fun h3=>?_) (fun h3=>?_)
 ·obtain ⟨x,hxk⟩:∃ x,T.cells[k]?=some x:=⟨_,List.getElem?_eq_getElem (by omega)⟩;have hst:=zeW zbZ hxk;have hcx:=zcA hT hxk;have hp:=hcx.one 2 rfl;(conv=>whnf);refine hS.ldr (zbQ hT) id ?_;(conv=>whnf);refine ixO ?_;(conv=>whnf);refine hS.ldr (show w.cell? ⟨g,0+Int.toNat (k:Int) * 10+2+0,none⟩=_ by rw [Nat.zero_add];exact hp) id ?_;(conv=>whnf);refine brD (fun h4=>?_) (fun h4=>?_)
  ·have hidx:zc3 zbZ T.cells 0=k:=by rw [hi,hst,show zbZ x=true by simp [zbZ,h4]]
   have hxv:=hO.ver x (List.mem_of_getElem? hxk);(conv=>whnf);refine hS.la 0 rfl (l:=zai f) rfl rfl ?_;(conv=>whnf);refine (zhz k f (zbA hT hS.ext) hxk (hO.slot k x hxk) (by omega)).mono ?_;rintro v w' ⟨hx,hT'⟩;repeat' ((conv=>whnf);first|apply RetC.mk|refine rgO ?_|refine ixO ?_|(first|apply brD|apply zad|apply brN|apply brI)<;>(intro))
   rw [hidx,if_neg (by omega)];exact ⟨by simp [atI];omega,(hS.ext.of_no).trans hx,by simpa using hT'⟩
  ·(conv=>whnf)
   refine rgO ?_;(conv=>whnf);exact LoopE.mk ⟨_,[(6,.int .i64 ((k+1:Nat):Int)),(3,_),(0,_)],by omega,⟨rfl,rfl,rfl,trivial⟩,⟨k+1,rfl,rfl,by omega,hS,by rw [hi,hst,show zbZ x=false by simp [zbZ,h4]]⟩⟩
 ·obtain rfl:k=32:=by omega
  repeat' ((conv=>whnf);first|apply RetC.mk|refine rgO ?_|refine ixO ?_|(first|apply brD|apply zad|apply brN|apply brI)<;>(intro))
  have hidx:zc3 zbZ T.cells 0 = -1:=by rw [hi,List.drop_of_length_le (by omega)];rfl
  rw [hidx,if_pos (by omega)];exact ⟨rfl,hS.ext.of_no,zbA hT hS.ext⟩

theorem zsf (T:MirS) (f:FlowS):atI (T.lay f).1.1=(T.lay f).1.1:=by
 unfold MirS.lay;split
 ·rfl
 ·unfold atI;rw [if_neg (by assumption)]
theorem zsF (pr ia ip fa fp st un:Int) (hT:(zb4 bt g c T).holds w) {n:Nat}(hO:TOk n T) (hn:n≤50000000) (hF:0≤T.life∧T.life≤100000) :
  CallC Tryz.prog 195 #[.pointer (some ⟨bt,0,none⟩),.int .i64 pr,.agg #[.int .i64 ia,.int .i64 ip],.agg #[.int .i64 fa,.int .i64 fp],.int .i64 st,.int .i64 un] w fun v w'=>v = .tuple #[.int .i64 (T.add pr ia ip fa fp st un).1.1,.int .i64 (T.add pr ia ip fa fp st un).1.2]∧Ext (· = g) w w'∧(zb4 bt g c (T.add pr ia ip fa fp st un).2).holds w':=by
 unfold MirS.add;refine zaa tabOk Tryz.func195 (by kernel_rfl) rfl Tryz.ntmps195 (lbO rfl) ?_;have hS:=St.start w No;(conv=>whnf);refine hS.new (fun b8 w' hb8 hS=>?_);(conv=>whnf);refine hS.new (fun b9 w' hb9 hS=>?_);(conv=>whnf);refine hS.la 0 rfl (l:=[.int .i64 ia,.int .i64 ip]) rfl rfl ?_;(conv=>whnf);refine hS.la 1 rfl (l:=[.int .i64 fa,.int .i64 fp]) rfl rfl ?_;(conv=>whnf);refine (ziV pr ia ip fa fp (zbA hT hS.ext)).mono ?_;rintro v w2 ⟨rfl,hx⟩;replace hS:=hS.no hx;clear hx;generalize T.find pr ia ip fa fp=k;(conv=>whnf);refine brD (fun h1=>?_) (fun h1=>?_)
 ·rw [if_pos h1];repeat' ((conv=>whnf);first|apply RetC.mk|refine rgO ?_|refine ixO ?_|(first|apply brD|apply zad|apply brN|apply brI)<;>(intro))
  exact ⟨rfl,hS.ext.of_no,zbA hT hS.ext⟩
 rw [if_neg h1];generalize hPP:zhF T pr fa fp 24 0=PP;(conv=>whnf)
 refine zaL tabOk (fun σ w' q=>∃ i:Nat,σ=[(14,.int .i64 i),(9,.pointer (some ⟨b9,0,none⟩)),(8,.pointer (some ⟨b8,0,none⟩)),(5,.int .i64 un),(4,.int .i64 st),(1,.int .i64 pr),(0,.pointer (some ⟨bt,0,none⟩))]∧q=24 - i∧i≤24 ∧
   St w No w' [blk b8 39 [.int .i64 ia,.int .i64 ip],blk b9 39 [.int .i64 fa,.int .i64 fp]]∧PP=zhF T pr fa fp (24 - i) i)
  (σ':=[(14,.int .i64 ((0:Nat):Int)),(9,.pointer (some ⟨b9,0,none⟩)),(8,.pointer (some ⟨b8,0,none⟩)),(5,.int .i64 un),(4,.int .i64 st),(1,.int .i64 pr),(0,.pointer (some ⟨bt,0,none⟩))]) (n:=24) ⟨rfl,rfl,rfl,rfl,rfl,rfl,rfl,trivial⟩ ⟨0,rfl,rfl,Nat.zero_le _,hS,hPP.symm⟩ ?_
 clear hS hPP;rintro _ w1 q ⟨i,rfl,rfl,hi,hS,hp⟩;(conv=>whnf);refine brD (fun h3=>?_) (fun h3=>?_)
 ·have hi2:24 - i=(24 - (i+1))+1:=by omega
  rw [hi2] at hp;unfold zhF at hp;(conv=>whnf)
  (refine zah tabOk mixed [] No [0,1,2,3,4,5,6,7,8,9,10] (by kernel_rfl) ?_;rintro w1 rfl;replace hS:=hS.drew)
  repeat' ((conv=>whnf);first|apply RetC.mk|refine rgO ?_|refine ixO ?_|refine hS.ldrF (zik hT) id id ?_|refine hS.laF 1 rfl (l:=[.int .i64 fa,.int .i64 fp]) rfl rfl id ?_|(first|apply brD|apply zad|apply brN|apply brI)<;>(intro))
  refine (ziJ pr (T.life+i) fa fp (zbA hT hS.ext)).mono ?_;rintro v w2 ⟨rfl,hx⟩;replace hS:=hS.no hx;refine KeepC.mk hx ?_;clear hx;generalize T.back pr (T.life+i) fa fp=j at hp;(conv=>whnf);refine brD (fun h4=>?_) (fun h4=>?_)
  ·rw [if_pos h4] at hp;subst hp;have hne:=hT.1;have hlt:=zlN hT;(conv=>whnf)
   (refine zah tabOk mixed [] (fun b=>b=g) [0,1,2,3,4,5,6,7,8,9,10,11,12,13,14,15,16,17] (by kernel_rfl) ?_;rintro w1 rfl;replace hS:=hS.drew)
   repeat' ((conv=>whnf);first|apply RetC.mk|refine rgO ?_|refine ixO ?_|refine hS.ldrF (zik hT) id hne ?_|refine hS.laF 0 rfl (l:=[.int .i64 ia,.int .i64 ip]) rfl rfl (show ¬ b8=g by omega) ?_|refine hS.laF 1 rfl (l:=[.int .i64 fa,.int .i64 fp]) rfl rfl (show ¬ b9=g by omega) ?_|(first|apply brD|apply zad|apply brN|apply brI)<;>(intro))
   refine (zoQ ⟨pr,ia,ip,fa,fp,T.life+i,st,un⟩ (zbA hT hS.ext) hO hn).mono ?_;rintro v w' ⟨rfl,hx,hT'⟩;refine KeepC.mk hx ?_;repeat' ((conv=>whnf);first|apply RetC.mk|refine rgO ?_|refine ixO ?_|(first|apply brD|apply zad|apply brN|apply brI)<;>(intro))
   rw [zsf];exact ⟨rfl,hS.ext.of_no.trans hx,hT'⟩
  ·rw [if_neg h4] at hp;(conv=>whnf);refine rgO ?_;(conv=>whnf);exact LoopE.mk ⟨_,[(14,.int .i64 ((i+1:Nat):Int)),(9,_),(8,_),(5,_),(4,_),(1,_),(0,_)],by omega,⟨rfl,rfl,rfl,rfl,rfl,rfl,rfl,trivial⟩,⟨i+1,rfl,rfl,by omega,hS,hp⟩⟩
 ·obtain rfl:i=24:=by omega
  rw [show PP=none from hp];repeat' ((conv=>whnf);first|apply RetC.mk|refine rgO ?_|refine ixO ?_|(first|apply brD|apply zad|apply brN|apply brI)<;>(intro))
  exact ⟨rfl,hS.ext.of_no,zbA hT hS.ext⟩

theorem ztT (f:FlowS) (hT:(zb4 bt g c T).holds w) {n:Nat}(hO:TOk n T) (hn:n≤50000000) :
  CallC Tryz.prog 261 #[.pointer (some ⟨bt,0,none⟩),.agg (zai f).toArray] w fun v w'=>v = .tuple #[.int .i64 (T.put f).1.1,.int .i64 (T.put f).1.2]∧Ext (· = g) w w'∧(zb4 bt g c (T.put f).2).holds w':=by
 unfold MirS.put;refine zaa tabOk Tryz.func261 (by kernel_rfl) rfl Tryz.ntmps261 (lbO rfl) ?_;have hS:=St.start w No;(conv=>whnf);refine hS.new (fun bf w' hbf hS=>?_);repeat' ((conv=>whnf);first|apply RetC.mk|refine rgO ?_|refine ixO ?_|refine hS.ld 0 rfl rfl ?_|refine hS.la 0 rfl (l:=[.int .i64 f.ia,.int .i64 f.ip]) rfl rfl ?_|refine hS.la 0 rfl (l:=[.int .i64 f.fa,.int .i64 f.fp]) rfl rfl ?_|(first|apply brD|apply zad|apply brN|apply brI)<;>(intro))
 refine (ziV f.proto f.ia f.ip f.fa f.fp (zbA hT hS.ext)).mono ?_;rintro v w2 ⟨rfl,hx⟩;replace hS:=hS.no hx;clear hx;generalize T.find f.proto f.ia f.ip f.fa f.fp=k
 have lay:∀ (w3:World) (K:Value→World→Prop),Ext No w w3→(∀ w',Ext (· = g) w w'→(zb4 bt g c (T.lay f).2).holds w'→K (.tuple #[.int .i64 (T.lay f).1.1,.int .i64 (T.lay f).1.2]) w')→CallC Tryz.prog 266 #[.pointer (some ⟨bt,0,none⟩),.agg (zai f).toArray] w3 K:=by
  intro w3 K hx hK;refine (zoQ f (zbA hT hx) hO hn).mono ?_;rintro v w' ⟨rfl,hx',hT'⟩;rw [zsf];exact hK w' (hx.of_no.trans hx') hT'
 conv=>whnf
 refine brD (fun h1=>?_) (fun h1=>?_)
 ·rw [if_pos (.inl h1)];repeat' ((conv=>whnf);first|apply RetC.mk|refine rgO ?_|refine ixO ?_|(first|apply brD|apply zad|apply brN|apply brI)<;>(intro))
  exact ⟨rfl,hS.ext.of_no,zbA hT hS.ext⟩
 repeat' ((conv=>whnf);first|apply RetC.mk|refine rgO ?_|refine ixO ?_|refine hS.ld 0 rfl rfl ?_|refine hS.la 0 rfl (l:=[.int .i64 f.fa,.int .i64 f.fp]) rfl rfl ?_|(first|apply brD|apply zad|apply brN|apply brI)<;>(intro))
 refine (ziJ f.proto f.port f.fa f.fp (zbA hT hS.ext)).mono ?_;rintro v w2 ⟨rfl,hx⟩;replace hS:=hS.no hx;clear hx;generalize T.back f.proto f.port f.fa f.fp=j;(conv=>whnf);refine brD (fun h2=>?_) (fun h2=>?_)
 ·rw [if_pos (.inr h2)];repeat' ((conv=>whnf);first|apply RetC.mk|refine rgO ?_|refine ixO ?_|(first|apply brD|apply zad|apply brN|apply brI)<;>(intro))
  exact ⟨rfl,hS.ext.of_no,zbA hT hS.ext⟩
 rw [if_neg (by rintro (h|h);exact h1 h;exact h2 h)];(conv=>whnf);refine hS.la 0 rfl (l:=zai f) rfl rfl ?_;(conv=>whnf);refine lay _ _ hS.ext fun w' hx hT'=>?_
 repeat' ((conv=>whnf);first|apply RetC.mk|refine rgO ?_|refine ixO ?_|(first|apply brD|apply zad|apply brN|apply brI)<;>(intro))
 exact ⟨rfl,hx,hT'⟩

theorem zga (k:Int) (hT:(zb4 bt g c T).holds w):CallC Tryz.prog 313 #[.pointer (some ⟨bt,0,none⟩),.int .i64 k] w fun v w'=>v = .int .i64 (T.flowErr k)∧w=w':=by
 have hl:=(zeh hT).len;unfold MirS.flowErr;refine zaa tabOk Tryz.func313 (by kernel_rfl) rfl Tryz.ntmps313 (lbO rfl) ?_;by_cases h:k < 0∨32≤k
 ·rw [if_pos h];repeat' ((conv=>whnf);first|apply RetC.mk|refine rgO ?_|refine ixO ?_|refine ldc (zbQ hT) ?_|(first|apply brD|apply zad|apply brN|apply brI)<;>(intro))
  all_goals first|exact ⟨rfl,rfl⟩|(exfalso;omega)
 ·rw [if_neg h];obtain ⟨x,hx⟩:∃ x,T.cells[k.toNat]?=some x:=⟨_,List.getElem?_eq_getElem (by omega)⟩;have hp:=(zcA hT hx).one 2 rfl;rw [hx];repeat' ((conv=>whnf);first|apply RetC.mk|refine rgO ?_|refine ixO ?_|refine ldc (zbQ hT) ?_|refine ldc (show w.cell? ⟨g,0+k.toNat * 10+2+0,none⟩=_ by rw [Nat.zero_add];exact hp) ?_|(first|apply brD|apply zad|apply brN|apply brI)<;>(intro))
  all_goals first|(exfalso;omega)|skip
  all_goals refine ⟨?_,rfl⟩
  all_goals simp_all

theorem ztK (k st un:Int) (hT:(zb4 bt g c T).holds w) {n:Nat}(hO:TOk n T) (hn:n≤50000000) :
  CallC Tryz.prog 265 #[.pointer (some ⟨bt,0,none⟩),.int .i64 k,.int .i64 st,.int .i64 un] w fun v w'=>v = .int .i64 (T.setS k st un).1∧Ext (· = g) w w'∧(zb4 bt g c (T.setS k st un).2).holds w':=by
 have hl:=hO.len
 have hin:T.flowErr k=0→0≤k∧k < 32:=by
  unfold MirS.flowErr;split
  ·intro h;cases h
  ·intro _;omega
 unfold MirS.setS;refine zaa tabOk Tryz.func265 (by kernel_rfl) rfl Tryz.ntmps265 (lbO rfl) ?_;have hS:=St.start w No;(conv=>whnf);refine (zga k hT).mono ?_;rintro v w2 ⟨rfl,rfl⟩;by_cases h:T.flowErr k=0
 ·obtain ⟨h0,h1⟩:=hin h;rw [if_neg (by simpa using h),h];obtain ⟨x,hx⟩:∃ x,T.cells[k.toNat]?=some x:=⟨_,List.getElem?_eq_getElem (by omega)⟩;have hxv:=hO.ver x (List.mem_of_getElem? hx);have hfa:zaD T k=x.f:=by unfold zaD;rw [hx]
  rw [hfa];(conv=>whnf);refine hS.ldr (zbQ hT) id ?_;(conv=>whnf);refine ixO ?_;(conv=>whnf);refine hS.lar (l:=zai x.f) rfl (show CellsAt w g (0+k.toNat * 10+2) (zai x.f) by rw [Nat.zero_add];exact (zcA hT hx).sub 2 (l':=zai x.f) rfl) id ?_;(conv=>whnf);refine hS.new (fun b10 w' _ hS=>?_);(conv=>whnf);refine hS.st 0 rfl (lbO rfl) rfl (fun w' hS=>?_);(conv=>whnf);refine hS.st 0 rfl (lbO rfl) rfl (fun w' hS=>?_);(conv=>whnf);refine hS.st 0 rfl (lbO rfl) rfl (fun w' hS=>?_);replace hS:St w No w' [blk b10 207 (zai { x.f with state:=st,til:=un })]:=hS;(conv=>whnf);refine hS.la 0 rfl (l:=zai { x.f with state:=st,til:=un }) rfl rfl ?_;(conv=>whnf);have hkk:k=(k.toNat:Int):=by omega
  have hc:=zhz k.toNat { x.f with state:=st,til:=un } (zbA hT hS.ext) hx (hO.slot _ x hx) (by omega);rw [← hkk] at hc;refine hc.mono ?_;rintro v w' ⟨hx',hT'⟩;repeat' ((conv=>whnf);first|apply RetC.mk|refine rgO ?_|refine ixO ?_|(first|apply brD|apply zad|apply brN|apply brI)<;>(intro))
  exact ⟨rfl,hS.ext.of_no.trans hx',hT'⟩
 ·rw [if_pos h];(conv=>whnf);refine brD (fun h2=>?_) (fun _=>?_)
  ·exact absurd h2 (by omega)
  repeat' ((conv=>whnf);first|apply RetC.mk|refine rgO ?_|refine ixO ?_|(first|apply brD|apply zad|apply brN|apply brI)<;>(intro))
  exact ⟨rfl,Ext.refl _ _,hT⟩

theorem zmK (k:Int) (hT:(zb4 bt g c T).holds w) {n:Nat}(hO:TOk n T) (hn:n≤50000000) :
  CallC Tryz.prog 264 #[.pointer (some ⟨bt,0,none⟩),.int .i64 k] w fun v w'=>v = .int .i64 (T.drop k).1∧Ext (· = g) w w'∧(zb4 bt g c (T.drop k).2).holds w':=by
 have hl:=hO.len
 have hin:T.flowErr k=0→0≤k∧k < 32:=by
  unfold MirS.flowErr;split
  ·intro h;cases h
  ·intro _;omega
 unfold MirS.drop;refine zaa tabOk Tryz.func264 (by kernel_rfl) rfl Tryz.ntmps264 (lbO rfl) ?_;(conv=>whnf);refine (zga k hT).mono ?_;rintro v w2 ⟨rfl,rfl⟩;by_cases h:T.flowErr k=0
 ·obtain ⟨h0,h1⟩:=hin h;rw [if_neg (by simpa using h),h];obtain ⟨x,hx⟩:∃ x,T.cells[k.toNat]?=some x:=⟨_,List.getElem?_eq_getElem (by omega)⟩;have hxv:=hO.ver x (List.mem_of_getElem? hx);(conv=>whnf);have hkk:k=(k.toNat:Int):=by omega
  have hc:=zhz k.toNat zay hT hx (hO.slot _ x hx) (by omega);rw [← hkk] at hc;refine hc.mono ?_;rintro v w' ⟨hx',hT'⟩;repeat' ((conv=>whnf);first|apply RetC.mk|refine rgO ?_|refine ixO ?_|(first|apply brD|apply zad|apply brN|apply brI)<;>(intro))
  exact ⟨rfl,hx',hT'⟩
 ·rw [if_pos h];(conv=>whnf);refine brD (fun h2=>?_) (fun _=>?_)
  ·exact absurd h2 (by omega)
  repeat' ((conv=>whnf);first|apply RetC.mk|refine rgO ?_|refine ixO ?_|(first|apply brD|apply zad|apply brN|apply brI)<;>(intro))
  exact ⟨rfl,Ext.refl _ _,hT⟩

theorem znr (now:Int) (hT:(zb4 bt g c T).holds w) {m:Nat}(hO:TOk m T) (hmm:m≤40000000) :
  CallC Tryz.prog 257 #[.pointer (some ⟨bt,0,none⟩),.int .i64 now] w fun v w'=>(∃ a' c',v = .slice a' (zbo now 32 T.cells).length c')∧Ext (fun b=>b=bt∨b=g) w w'∧(zb4 bt g c (T.expire now)).holds w'∧(zaf 3 1 zcw v (zbo now 32 T.cells)).holds w'∧zc0 w w' v:=by
 have hl:=hO.len;obtain ⟨l1,l2⟩:=zlN hT;refine zaa tabOk Tryz.func257 (by kernel_rfl) rfl Tryz.ntmps257 (lbO rfl) ?_;have hS:=(St.start w (fun b=>b=bt∨b=g)).add zbz hT (by intro b hb;simp only [zb4,List.mem_cons,List.not_mem_nil,or_false] at hb;rcases hb with rfl|rfl;exact ⟨.inl (.inl rfl),l1⟩;exact ⟨.inl (.inr rfl),l2⟩) (by simp);have hS:=hS.add (zaj (e:=3) (enc:=zcw) (sz:=1) (v:=.slice none 0 0) (xs:=[])) (zcy _ _ _) (by simp [zaf,own,Value.ownBlock]) (by simp [zaf,own,Value.ownBlock]);(conv=>whnf)
 refine zaL tabOk (fun σ w' q=>∃ (k:Nat) (v:Value),σ=[(6,.int .i64 k),(5,v),(1,.int .i64 now),(0,.pointer (some ⟨bt,0,none⟩))]∧q=32 - k∧k≤32∧(∃ a' c',v = .slice a' (zbo now k T.cells).length c')∧St w (fun b=>b=bt∨b=g) w' [zb4 bt g c ⟨T.life,zaA now k T.cells⟩,zaf 3 1 zcw v (zbo now k T.cells)])
  (σ':=[(6,.int .i64 ((0:Nat):Int)),(5,.slice none 0 0),(1,.int .i64 now),(0,.pointer (some ⟨bt,0,none⟩))]) (n:=32) ⟨rfl,rfl,rfl,rfl,trivial⟩ ⟨0,_,rfl,rfl,Nat.zero_le _,⟨none,0,rfl⟩,hS⟩ ?_
 clear hS;rintro _ w1 q ⟨k,_,rfl,rfl,hk,⟨a',c',rfl⟩,hS⟩;(conv=>whnf);refine ldc (zbQ (hS.get 0 rfl)) ?_;(conv=>whnf);refine brD (fun h3=>?_) (fun h3=>?_)
 ·obtain ⟨x,hxk⟩:∃ x,T.cells[k]?=some x:=⟨_,List.getElem?_eq_getElem (by omega)⟩;have hol:=zib now k T.cells;have hos:=zgW (now:=now) hxk;have hcs:=zfb (now:=now) hxk;have hca:=zg8 (now:=now) hxk;have hTk:=hO.expire now k;have hcx:=zcA (hS.get 0 rfl) hca;have c2:w1.cell? ⟨g,0+Int.toNat (k:Int) * 10+2+0,none⟩=some (.int .i64 x.f.proto):=by rw [Nat.zero_add];exact hcx.one 2 rfl
  have c9:w1.cell? ⟨g,0+Int.toNat (k:Int) * 10+2+7,none⟩=some (.int .i64 x.f.til):=by rw [Nat.zero_add];exact hcx.one 9 rfl
  by_cases hx:zqk now x=true
  ·have h1:x.f.proto≠0∧x.f.til≤now:=by simpa [zqk] using hx
   rw [if_pos hx] at hos
   have hdr:(MirS.mk T.life (zaA now k T.cells)).drop k=(0,⟨T.life,zaA now (k+1) T.cells⟩):=by
    have hfe:(MirS.mk T.life (zaA now k T.cells)).flowErr k=0:=by
     unfold MirS.flowErr;rw [if_neg (by omega)];simp only [show ((k:Int)).toNat=k by simp,hca];simp [h1.1]
    unfold MirS.drop;rw [hfe,if_neg (by simp),show ((k:Int)).toNat=k by simp];simp only [zeL hca];rw [hcs,zf5,if_pos hx]
   repeat' ((conv=>whnf);first|refine ixO ?_|refine ldc (zbQ (hS.get 0 rfl)) ?_|refine ldc c2 ?_|refine ldc c9 ?_|refine zad (fun _=>?_) (fun h=>absurd h h1.1)|refine brD (fun _=>?_) (fun h=>absurd h1.2 h))
   refine (zmK (k:Int) (hS.get 0 rfl) hTk (by omega)).mono ?_;rw [hdr];rintro v w' ⟨rfl,hx',hT'⟩;replace hS:=hS.upd 0 rfl hx' (fun d hd=>by subst hd;simp [zb4]) zbz hT' (fun d hd=>.inl hd);(conv=>whnf);refine hS.lit (cs:=[.int .i64 k]) Tryz.underlying47 (sz:=1) (by kernel_rfl) (z:=.int .i64 0) (by kernel_rfl) rfl rfl (by rfl) (fun bl w' hbl hS=>?_);(conv=>whnf);refine hS.appS zc2 1 (ys:=[(k:Int)]) (G:=fun _=>True) Tryz.underlying47 (bytes:=8) (by kernel_rfl) (z:=.int .i64 0) (by kernel_rfl) rfl rfl (Slc.of_blk zc2 (hS.blk 2 rfl) rfl (by simp) (fun _ _=>trivial) rfl) (by unfold maxLen;omega) (by omega) (fun a2 c2 w' hS=>?_);replace hS:=hS.keep 2;rw [← hos] at hS;have hl2:(zbo now k T.cells).length+1=(zbo now (k+1) T.cells).length:=by rw [hos];simp
   rw [hl2] at hS ⊢;(conv=>whnf);refine rgO ?_;(conv=>whnf);refine LoopE.mk ⟨_,[(6,.int .i64 ((k+1:Nat):Int)),(5,_),(1,_),(0,_)],?_,⟨rfl,rfl,rfl,rfl,trivial⟩,⟨k+1,_,rfl,rfl,by omega,⟨a2,c2,rfl⟩,hS⟩⟩;omega
  ·rw [if_neg hx,List.append_nil] at hos
   have hcs2:zaA now (k+1) T.cells=zaA now k T.cells:=by
    rw [hcs,zf5,if_neg hx];obtain ⟨lt,e⟩:=List.getElem?_eq_some_iff.1 hca;rw [← e];exact List.set_getElem_self lt
   have h1:x.f.proto≠0→¬ x.f.til≤now:=by
    intro a b;exact hx (by simp [zqk,a,b])
   have hS2:St w (fun b=>b=bt∨b=g) w1 [zb4 bt g c ⟨T.life,zaA now (k+1) T.cells⟩,zaf 3 1 zcw (.slice a' (zbo now k T.cells).length c') (zbo now (k+1) T.cells)]:=by
    rw [hcs2,hos];exact hS
   repeat' ((conv=>whnf);first|refine ixO ?_|refine rgO ?_|refine ldc (zbQ (hS.get 0 rfl)) ?_|refine ldc c2 ?_|refine ldc c9 ?_|refine zad (fun h4=>?_) (fun _=>?_)|refine brD (fun h=>absurd h (h1 h4)) (fun _=>?_))
   all_goals exact LoopE.mk ⟨_,[(6,.int .i64 ((k+1:Nat):Int)),(5,_),(1,_),(0,_)],by omega,⟨rfl,rfl,rfl,rfl,trivial⟩,⟨k+1,_,rfl,rfl,by omega,⟨a',c',by rw [hos]⟩,hS2⟩⟩
 ·obtain rfl:k=32:=by omega
  repeat' ((conv=>whnf);first|apply RetC.mk|refine rgO ?_|refine ixO ?_|(first|apply brD|apply zad|apply brN|apply brI)<;>(intro))
  refine ⟨⟨a',c',rfl⟩,hS.ext,hS.get 0 rfl,hS.get 1 rfl,fun q hq=>?_⟩;obtain ⟨h1,h2⟩:=hS.may _ (List.mem_of_getElem? (i:=1) rfl) q (by simpa [zaf,own] using hq);refine ⟨h1.resolve_left ?_,h2⟩;intro h;have:=zaG zaX hS.apart (i:=0) (j:=1) rfl rfl (by decide) q (by simp only [zb4,List.mem_cons,List.not_mem_nil,or_false];exact h);exact this (by simpa [zaf,own] using hq)

theorem zlQ (nd:Int) (h:nd=0∨nd=1) (w:World) :
  CallC Tryz.prog 94 #[.int .i64 nd] w fun v w'=>∃ bt g c,v = .pointer (some ⟨bt,0,none⟩)∧Ext No w w'∧(zb4 bt g c ⟨2000+nd * 24,emptyCells⟩).holds w'∧(∀ b∈(zb4 bt g c ⟨2000+nd * 24,emptyCells⟩).foot,w.heap.size≤b∧b < w'.heap.size):=by
 refine zaa tabOk Tryz.func94 (by kernel_rfl) rfl Tryz.ntmps94 (lbO rfl) ?_;have hS:=St.start w No;(conv=>whnf);refine rgO ?_;(conv=>whnf);refine rgO ?_;(conv=>whnf);refine (zjx _).mono ?_;rintro v w' ⟨g,c,rfl,hx,hO,hF⟩;replace hS:=hS.madeL hx hO hF;(conv=>whnf);refine hS.new (fun bt w' hbt hS=>?_);repeat' ((conv=>whnf);first|apply RetC.mk|refine rgO ?_|refine ixO ?_|(first|apply brD|apply zad|apply brN|apply brI)<;>(intro))
 refine ⟨bt,g,c,rfl,hS.ext,⟨?_,hS.get 1 rfl,hS.get 0 rfl⟩,?_⟩
 ·have:=zaG zaX hS.apart (i:=1) (j:=0) rfl rfl (by decide) bt (by simp [blk]);simpa [zaf,own,Value.ownBlock] using this
 ·intro b hb;simp only [zb4,List.mem_cons,List.not_mem_nil,or_false] at hb;rcases hb with rfl|rfl
  ·have:=hS.may _ (List.mem_of_getElem? (i:=1) rfl) b (by simp [blk]);exact ⟨this.1.resolve_left id,this.2⟩
  ·have:=hS.may _ (List.mem_of_getElem? (i:=0) rfl) b (by simp [zaf,own,Value.ownBlock]);exact ⟨this.1.resolve_left id,this.2⟩

end
end Go.Proofs.YtogjajjdaoihdaaGreatDoor

namespace Go.Proofs.YtogjajjdaoihdaaGreatDoor
set_option maxRecDepth 20000
open Go Ev Go.Instr

def zmz (k:Nat × Nat):MapEntry:=⟨.int .i64 (k.1:Int),.bool true,k.2⟩
def zkP (p:Nat):List (Nat × Nat)→Nat→Option (Nat × Value)
 | [],_=>none
 | (a,_)::r,n=>if p=a then some (n,.bool true) else zkP p r (n+1)
theorem ziH {p:Nat}:∀ {l:List (Nat × Nat)}{n:Nat},p ∉ l.map Prod.fst→zkP p l n=none
 | [],_,_=>rfl
 | (a,_)::r,n,h=>by
  simp only [List.map_cons,List.mem_cons,not_or] at h;unfold zkP;rw [if_neg h.1];exact ziH h.2
theorem zkr {p:Nat}:∀ {l:List (Nat × Nat)}{n:Nat},p∈l.map Prod.fst→∃ i,zkP p l n=some (i,.bool true)
 | [],_,h=>by simp at h
 | (a,_)::r,n,h=>by
  unfold zkP;by_cases hp:p=a
  ·exact ⟨n,if_pos hp⟩
  ·rw [if_neg hp];refine zkr ?_;simpa [hp] using h
theorem zjO (p:Nat):∀ (l:List (Nat × Nat)) (n:Nat),findNow (.int .i64) (.int .i64 (p:Int)) (l.map zmz) n=some (zkP p l n)
 | [],_=>rfl
 | (a,c)::r,n=>by
  have ih:=zjO p r (n+1);rw [List.map_cons];unfold findNow zkP;by_cases hp:p=a
  ·subst hp;simp [sameNow,zmz]
  ·have:¬ (p:Int)=(a:Int):=by omega
   have h2:sameNow (.int .i64) (.int .i64 (p:Int)) (zmz (a,c)).key=some false:=by
    simp [sameNow,zmz,this]
   rw [h2,if_neg hp];exact ih
theorem zkm (p:Nat) (w:World) (l:List (Nat × Nat)):(findKey 3 (.int .i64 (p:Int)) (l.map zmz)).run Tryz.prog w = .ok (zkP p l 0) w:=by
 have hu:=Tryz.underlying3;have h0:(findKey 3 (.int .i64 (p:Int)) (l.map zmz))=(do match findNow (← underlying 3) (.int .i64 (p:Int)) (l.map zmz) 0 with|some r=>pure r|none=>findAsking 3 (.int .i64 (p:Int)) (l.map zmz)):=rfl;rw [h0,Sem.run_bind,run_underlying hu,Result.andThen_ok,zjO];rfl
theorem zt6 (e:Bool) (a:Int) (w:World):(checkKey e 10000 3 (.int .i64 a)).run Tryz.prog w = .ok () w:=by cases e<;>kernel_rfl
def zng (r:Nat) (ks:List Nat):Ent:=⟨[r],fun w=>∃ (l:List (Nat × Nat)) (c:Nat),l.map Prod.fst=ks∧w.heap[r]?=some (.map (l.map zmz).toArray c)⟩
theorem zif (r:Nat) (ks:List Nat):(zng r ks).Local:=fun w w' h hb=>by
 have:=h r (by simp [zng]);simpa [zng,this] using hb
theorem zvk {w:World}{r:Nat}{ks:List Nat}(p:Nat) (h:(zng r ks).holds w):(Instr.lookup 443 (.map (some r)) (.int .i64 (p:Int)) false).run Tryz.prog w = .ok (.bool (decide (p∈ks))) w:=by
 obtain ⟨l,c,rfl,hb⟩:=h;have hm:=Tryz.underlying443;have hg:(getObj r).run Tryz.prog w = .ok (.map (l.map zmz).toArray c) w:=by simp [getObj,Sem.run,hb]
 have hz:(zeroValue 4).run Tryz.prog w = .ok (.bool false) w:=by kernel_rfl
 have hk:=zkm p w l;simp only [Instr.lookup,Sem.run_bind,run_underlying hm,Result.andThen_ok,hg,Sem.run_pure,zt6,hk];by_cases hp:p∈l.map Prod.fst
 ·obtain ⟨i,h1⟩:=zkr (n:=0) hp;rw [decide_eq_true hp];simp [h1]
 ·rw [decide_eq_false hp];simp [ziH hp,hz]
theorem Ev.St.lookB {w0 w:World}{S:Nat→Prop}{H:List Ent}(h:St w0 S w H) (i:Nat) {r:Nat}{ks:List Nat}{p:Nat}{k:Value→World→Prop}(hi:H[i]?=some (zng r ks)) (hk:k (.bool (decide (p∈ks))) w) :
  RunC Tryz.prog (Instr.lookup 443 (.map (some r)) (.int .i64 (p:Int)) false) w k:=⟨_,_,zvk p (h.get i hi),hk⟩
theorem Ev.St.mkMapB {w0 w:World}{S:Nat→Prop}{H:List Ent}{k:Value→World→Prop}(h:St w0 S w H) (hk:∀ r w',w0.heap.size≤r→St w0 S w' (H++[zng r []])→k (.map (some r)) w'):RunC Tryz.prog (Instr.makeMap 443 none) w k:=by
 refine ⟨.map (some w.heap.size),{ w with heap:=w.heap.push (.map #[] 0) },rfl,hk _ _ h.ext.size (h.made ⟨rfl,rfl,rfl,by simp,fun i hi _=>?_⟩ (zif _ _) ?_ ?_)⟩
 ·show (w.heap.push _)[i]?=_;rw [Array.getElem?_push,if_neg (by omega)]
 ·refine ⟨[],0,rfl,?_⟩;show (w.heap.push _)[w.heap.size]?=_;rw [Array.getElem?_push,if_pos rfl];rfl
 ·intro b hb;obtain rfl:b=w.heap.size:=by simpa [zng] using hb
  simp
theorem Ev.St.insB {w0 w:World}{S:Nat→Prop}{H:List Ent}(h:St w0 S w H) (i:Nat) {r:Nat}{ks:List Nat}{p:Nat}{k:World→Prop}(hi:H[i]?=some (zng r ks)) (hn:p ∉ ks)
  (hk:∀ w',St w0 S w' (H.set i (zng r (ks++[p])))→k w'):RunU Tryz.prog (Instr.mapUpdate 443 (.map (some r)) (.int .i64 (p:Int)) (.bool true)) w k:=by
 obtain ⟨l,c,rfl,hb⟩:=h.get i hi;have hm:=Tryz.underlying443;have hg:(getObj r).run Tryz.prog w = .ok (.map (l.map zmz).toArray c) w:=by simp [getObj,Sem.run,hb]
 have hkk:=zkm p w l;rw [ziH hn] at hkk
 have hrun:(Instr.mapUpdate 443 (.map (some r)) (.int .i64 (p:Int)) (.bool true)).run Tryz.prog w = .ok () { w with heap:=w.heap.setIfInBounds r (.map ((l++[(p,c)]).map zmz).toArray (c+1)) }:=by
  simp only [Instr.mapUpdate,Sem.run_bind,run_underlying hm,Result.andThen_ok,hg,zt6,hkk];simp [setObj,Sem.run,hb,zmz]
 have hx:Ext (· = r) w { w with heap:=w.heap.setIfInBounds r (.map ((l++[(p,c)]).map zmz).toArray (c+1)) }:=⟨rfl,rfl,rfl,by simp,fun j hj hs=>by
  have:r≠j:=fun e=>hs e.symm
  simp [this]⟩
 refine ⟨_,hrun,hk _ (h.upd i hi hx (fun d hd=>by simp [zng,hd]) (zif _ _) ⟨l++[(p,c)],c+1,by simp,?_⟩ fun d hd=>.inl hd)⟩;have:=(Array.getElem?_eq_some_iff.1 hb).1;show (w.heap.setIfInBounds r _)[r]?=_;simp [this]

def zaW (bT:Nat) (X:TelS):List Value:=.pointer (some ⟨bT,0,none⟩)::(X.told.flatMap zcw++[.int .i64 (X.cursor:Int)])
theorem zlD {bT:Nat}{X:TelS}(h:X.told.length=32):(zaW bT X).length=34:=by
 simp only [zaW,List.length_cons,List.length_append,zas zc2,h,List.length_nil]
theorem zrU {bT:Nat}{X:TelS}{k:Nat}{v:Int}(h:X.told[k]?=some v):(zaW bT X)[1+k]?=some (.int .i64 v):=by
 have:=zdG zc2 (j:=0) h rfl;have lt:=(List.getElem?_eq_some_iff.1 h).1;rw [Nat.add_comm 1];unfold zaW;rw [List.getElem?_cons_succ,List.getElem?_append_left (by rw [zas zc2];omega)];simpa using this
theorem zk7 {bT:Nat}{X:TelS}(h:X.told.length=32):(zaW bT X)[33]?=some (.int .i64 (X.cursor:Int)):=by
 unfold zaW;rw [List.getElem?_cons_succ,List.getElem?_append_right (by rw [zas zc2];omega),zas zc2,h];rfl
theorem zsK {bT:Nat}{X:TelS}{k o:Nat}{v u:Int}(h:X.told[k]?=some u) (ho:o=1+k):zaO (zaW bT X) o [.int .i64 v]=zaW bT ⟨X.told.set k v,X.cursor⟩:=by
 subst ho;have lt:=(List.getElem?_eq_some_iff.1 h).1;rw [Nat.add_comm 1];unfold zaW;rw [zgN];have:=zdE [] (X.told.flatMap zcw) [.int .i64 (X.cursor:Int)] [.int .i64 v] k (by rw [zas zc2];simp;omega);simp only [List.nil_append,List.length_nil,Nat.zero_add] at this;have h2:=zdR zc2 (j:=0) (y:=v) (vs:=[.int .i64 v]) h (by simp) rfl;rw [Nat.mul_one,Nat.add_zero] at h2;rw [this,h2]
theorem zmJ {bT:Nat}{X:TelS}{c:Nat}{i:Int}(h:X.told.length=32) (hi:i=(c:Int)):zaO (zaW bT X) 33 [.int .i64 i]=zaW bT ⟨X.told,c⟩:=by
 subst hi;unfold zaW;rw [zgN];have:=zdE (X.told.flatMap zcw) [.int .i64 (X.cursor:Int)] [] [.int .i64 (c:Int)] 0 (by simp);simp only [zas zc2,h,List.append_nil,Nat.mul_one,Nat.add_zero] at this;rw [this];rfl

def zoa:TelS:=⟨List.replicate 32 0,0⟩
theorem zp6 (bT:Nat) (w:World):(Instr.build 338 #[(0,.pointer (some ⟨bT,0,none⟩))]).run Tryz.prog w = .ok (.agg (zaW bT zoa).toArray) w:=by kernel_rfl
theorem zqs (bT:Nat) (w:World):CallC Tryz.prog 130 #[.pointer (some ⟨bT,0,none⟩)] w fun v w'=>∃ b,v = .pointer (some ⟨b,0,none⟩)∧w.heap.size≤b∧Ext No w w'∧Blk w' b 338 (zaW bT zoa):=by
 have hb2:∀ k:Value→Prop,k (.agg (zaW bT zoa).toArray)→PureC Tryz.prog (Instr.build 338 #[(0,.pointer (some ⟨bT,0,none⟩))]) k:=fun k hk=>PureC.of (zp6 bT) hk
 have ho:zam (.agg (zaW bT zoa).toArray)=zaW bT zoa:=by simp [zam]
 generalize Value.agg (zaW bT zoa).toArray=VV at hb2 ho;refine zaa tabOk Tryz.func130 (by kernel_rfl) rfl Tryz.ntmps130 (lbO rfl) ?_;have hS:=St.start w No;repeat' ((conv=>whnf);first|apply RetC.mk|refine hb2 _ ?_)
 refine hS.new (fun b w' hb hS=>?_);rw [ho] at hS;repeat' ((conv=>whnf);first|apply RetC.mk|refine rgO ?_|refine ixO ?_|(first|apply brD|apply zad|apply brN|apply brI)<;>(intro))
 exact ⟨b,rfl,hb,hS.ext,hS.blk 0 rfl⟩

def znu (bT bx b1 b3 b4 b5 r:Nat) (X:TelS) (lv ov:Value) (l:List CellS) (p:List Nat):List Ent :=
 [blk bx 338 (zaW bT X),blk b1 263 [.pointer (some ⟨bx,0,none⟩)],zaf 209 10 zac lv l,blk b3 131 [lv],zng r p,blk b4 443 [.map (some r)],blk b5 131 [ov],zaf 209 10 zac ov (zcj l p)]
theorem zaF (l:List CellS) (p:List Nat):(zcj l p).length=p.length:=by simp [zcj]

section
variable {w0 w : World} {S : Nat → Prop} {bT bx b1 b3 b4 b5 r cl : Nat} {al : Option Addr} {ov : Value} {X : TelS} {l : List CellS} {p : List Nat}
theorem Ev.St.ownBNe {w0 w:World}{S:Nat→Prop}{H:List Ent}(h:St w0 S w H) (i j:Nat) {α:Type}{b:Nat}{t e:TypeId}{cs:List Value}{sz:Nat}{enc:α→List Value}{v:Value}{xs:List α}(hi:H[i]?=some (Ev.blk b t cs)) (hj:H[j]?=some (zaf e sz enc v xs)) (hne:i≠j):¬ v.ownBlock=some b:=by
 intro hv;have:=zaG zaX h.apart hi hj hne b (by simp [Ev.blk]);simp [zaf,own,hv] at this
theorem zpz (k:Nat) (hk:k < 32) (hl:l.length=32) (ht:X.told.length=32) (hn:k ∉ p) (h8:p.length < 8) (hS:St w0 S w (znu bT bx b1 b3 b4 b5 r X (.slice al 32 cl) ov l p)) :
  CallC Tryz.prog 343 #[.int .i64 (k:Int),.pointer (some ⟨b4,0,none⟩),.pointer (some ⟨b3,0,none⟩),.pointer (some ⟨b1,0,none⟩),.pointer (some ⟨b5,0,none⟩)] w fun _ w'=>∃ a' c',St w0 S w' (znu bT bx b1 b3 b4 b5 r ⟨X.told.set k (zfh l k),X.cursor⟩ (.slice al 32 cl) (.slice a' (p.length+1) c') l (p++[k])):=by
 obtain ⟨x,hx⟩:∃ x,l[k]?=some x:=⟨_,List.getElem?_eq_getElem (by omega)⟩;obtain ⟨u,hu⟩:∃ u,X.told[k]?=some u:=⟨_,List.getElem?_eq_getElem (by omega)⟩;have hver:=zgG hx;have hcell:=zd2 hx;rw [hver];unfold znu at hS ⊢;refine zaa tabOk Tryz.func343 (by kernel_rfl) rfl Tryz.ntmps343 (lbO rfl) ?_;(conv=>whnf);refine hS.ld 5 rfl rfl ?_;(conv=>whnf);refine hS.insB 4 rfl hn (fun w' hS=>?_);replace hS:St w0 S w' [blk bx 338 (zaW bT X),blk b1 263 [.pointer (some ⟨bx,0,none⟩)],zaf 209 10 zac (.slice al 32 cl) l,blk b3 131 [.slice al 32 cl],zng r (p++[k]),blk b4 443 [.map (some r)],blk b5 131 [ov],zaf 209 10 zac ov (zcj l p)]:=hS;have h10:¬ b1=bx:=Blk.ne (hS.blk 1 rfl) (hS.blk 0 rfl) (by decide);have h30:¬ b3=bx:=Blk.ne (hS.blk 3 rfl) (hS.blk 0 rfl) (by decide);have h35:¬ b3=b5:=fun e=>zaG zaX hS.apart (i:=3) (j:=6) rfl rfl (by decide) b3 (by simp [blk]) (by simp [blk,e])
 have h3o:¬ ov.ownBlock=some b3:=hS.ownBNe 3 7 rfl rfl (by decide);(conv=>whnf)
 (refine zah tabOk mixed [] ((· = bx)) [0,1,2,3,4,5,6,7,8,9,10] (by kernel_rfl) ?_;rintro w1 rfl;replace hS:=hS.drew)
 obtain ⟨bl,ol,x',hx',_,hal,_,hc⟩:=(zap (G:=fun _=>True) zau (hS.get 2 rfl) fun _ _=>trivial).at hk;obtain rfl:=Option.some.inj (hx'.symm.trans hx);subst hal;have hbl:¬ bl=bx:=hS.ownNe 0 2 rfl rfl (by decide) bl ol rfl;have hb5:¬ bl=b5:=hS.ownNe 6 2 rfl rfl (by decide) bl ol rfl
 have hbo:¬ ov.ownBlock=some bl:=by
  intro hv;have:=zaG zaX hS.apart (i:=2) (j:=7) rfl rfl (by decide) bl (by simp [zaf,own,Value.ownBlock]);simp [zaf,own,hv] at this
 repeat' ((conv=>whnf);first|refine ixO ?_|refine hS.ldF 1 rfl rfl h10 ?_|refine hS.ldF 3 rfl rfl h30 ?_|refine ldFc (hc.one 1 rfl) hbl ?_)
 refine hS.stX 0 rfl (by rw [zlD ht];simp [zam];omega) rfl (fun w2 hx2 hS=>?_);refine KeepC.mk hx2 ?_;have hc:=hx2.cells hc hbl;have ho:zaO (zaW bT X) (0+1+Int.toNat (k:Int) * 1) (zam (.int .i64 x'.ver))=zaW bT ⟨X.told.set k x'.ver,X.cursor⟩:=zsK hu (by simp);replace hS:St w0 S w2 [blk bx 338 (zaW bT ⟨X.told.set k x'.ver,X.cursor⟩),blk b1 263 [.pointer (some ⟨bx,0,none⟩)],zaf 209 10 zac (.slice (some ⟨bl,ol,none⟩) 32 cl) l,blk b3 131 [.slice (some ⟨bl,ol,none⟩) 32 cl],zng r (p++[k]),blk b4 443 [.map (some r)],blk b5 131 [ov],zaf 209 10 zac ov (zcj l p)]:=by rw [← ho];exact hS
 clear hx2 ho;(conv=>whnf);refine zeI tabOk mixed [0] (fun q=>q=b5∨ov.ownBlock=some q) (.take 1 (.take 2 (.take 3 (.take 4 (.alt 0 (.alt 5 (.alt 6 (.alt 7 .fin .fin) .fin) .fin) (.alt 5 (.alt 0 (.alt 6 (.alt 7 .fin .fin) .fin) .fin) .fin)))))) (by kernel_rfl) ?_;rintro w1 rfl;replace hS:=hS.drew;replace hc:=(Ext.drawn No w2 (w2.drawn+1)).cells hc id;have no1:¬ (b3=b5∨ov.ownBlock=some b3):=fun e=>e.elim h35 h3o
 have no2:¬ (bl=b5∨ov.ownBlock=some bl):=fun e=>e.elim hb5 hbo
 repeat' ((conv=>whnf);first|refine ixO ?_|refine hS.ldF 3 rfl rfl no1 ?_|refine laFc (l:=zac x') rfl hc no2 ?_|refine And.intro ?_ ?_)
 all_goals
  repeat' ((conv=>whnf);first|refine hS.ld 6 rfl rfl ?_|refine KeepC.mk (Ext.refl _ _) ?_|refine KeepC.mk hx3.of_no ?_|refine And.intro ?_ ?_|exact trivial|refine hS.litX Tryz.underlying131 (sz:=10) (by kernel_rfl) (z:=.agg (zac ⟨0,0,zay⟩).toArray) (by kernel_rfl) rfl rfl (cs:=zac x') (by rfl) (fun b9 w3 hb9 hx3 hS=>?_))
  refine hS.appX zau 7 (ys:=[x']) (G:=fun _=>True) Tryz.underlying131 (bytes:=80) (by kernel_rfl) (z:=.agg (zac ⟨0,0,zay⟩).toArray) (by kernel_rfl) rfl rfl (Slc.of_blk zau (hS.blk 8 rfl) rfl (by simp) (fun _ _=>trivial) rfl) (by unfold maxLen;rw [zaF];omega) (by rw [zaF];omega) (fun a2 c2 w4 hx4 hS=>?_);refine KeepC.mk (hx3.of_no.trans (hx4.mono fun q hq=>.inr hq)) ?_;repeat' ((conv=>whnf);first|refine And.intro ?_ ?_|exact trivial)
  refine hS.stX 6 rfl (by simp [zam]) rfl (fun w5 hx5 hS=>?_);refine KeepC.mk ((hx3.of_no.trans (hx4.mono fun q hq=>.inr hq)).trans (hx5.mono fun q hq=>.inl hq)) ?_;repeat' ((conv=>whnf);first|apply RetC.mk|refine And.intro ?_ ?_|exact trivial)
  have hoc:zcj l p++[x']=zcj l (p++[k]):=by simp [zcj,hcell]
  have hcl:(zcj l p).length+1=p.length+1:=by rw [zaF]
  replace hS:=hS.keep 8;refine ⟨a2,c2,?_⟩;rw [hcl,hoc] at hS;exact hS
end

section
variable {w : World} {bT bx : Nat} {X : TelS} {T : MirS}
theorem zgZ (hX:Blk w bx 338 (zaW bT X)) (hT:Blk w bT 330 (zaZ T)) (hl:T.cells.length=32) (ht:X.told.length=32) (hc:X.cursor < 32) :
  CallC Tryz.prog 321 #[.pointer (some ⟨bx,0,none⟩)] w fun v w'=>(∃ a' c',v = .slice a' (X.picks T.cells).length c')∧Ext (· = bx) w w'∧Blk w' bx 338 (zaW bT (X.next T.cells))∧(zaf 209 10 zac v (zcj T.cells (X.picks T.cells))).holds w'∧zc0 w w' v:=by
 have hbT:¬ bT=bx:=Blk.ne hT hX (by decide);have hlx:=hX.lt;generalize hL:T.cells=l at hl ⊢;refine zaa tabOk Tryz.func321 (by kernel_rfl) rfl Tryz.ntmps321 (lbO rfl) ?_;have hS:=(St.start w (· = bx)).add (zab bx _ _) hX (by simp [blk];exact hlx) (by simp);(conv=>whnf);refine hS.new (fun b1 w' _ hS=>?_);(conv=>whnf);refine hS.ld 1 rfl rfl ?_;(conv=>whnf);refine hS.ld 0 rfl rfl ?_;(conv=>whnf);refine (zkT (hS.ext.blk hT hbT) (by rw [hL];exact hl)).mono ?_;rintro v w' ⟨al,cl,rfl,hx',ho,hf⟩;rw [hL] at ho;replace hS:=hS.madeL hx' ho hf;clear hx' ho hf;(conv=>whnf);refine hS.new (fun b3 w' _ hS=>?_);(conv=>whnf);refine hS.st 3 rfl (lbO rfl) rfl (fun w' hS=>?_);(conv=>whnf);refine hS.mkMapB (fun r w' _ hS=>?_);(conv=>whnf);refine hS.new (fun b4 w' _ hS=>?_);(conv=>whnf);refine hS.st 5 rfl (lbO rfl) rfl (fun w' hS=>?_);(conv=>whnf);refine hS.new (fun b5 w' _ hS=>?_);have hS:=hS.add (zaj (e:=209) (enc:=zac) (sz:=10) (v:=.slice none 0 0) (xs:=[])) (zcy _ _ _) (by simp [zaf,own,Value.ownBlock]) (by simp [zaf,own,Value.ownBlock]);replace hS:St w (· = bx) w' (znu bT bx b1 b3 b4 b5 r ⟨zaz l X.told (za6 l X.told 0),X.cursor⟩ (.slice al 32 cl) (.slice none 0 0) l (za6 l X.told 0)):=hS;(conv=>whnf);refine hS.ld 3 rfl rfl ?_;(conv=>whnf)
 refine zaL tabOk (fun σ w' q=>∃ (k:Nat) (ov:Value),σ=[(19,.int .i64 k),(18,.int .i64 (32:Nat)),(17,.slice al 32 cl),(6,.func (.func 343) #[] #[.pointer (some ⟨b4,0,none⟩),.pointer (some ⟨b3,0,none⟩),.pointer (some ⟨b1,0,none⟩),.pointer (some ⟨b5,0,none⟩)]),(5,.pointer (some ⟨b5,0,none⟩)),(4,.pointer (some ⟨b4,0,none⟩)),(3,.pointer (some ⟨b3,0,none⟩)),(1,.pointer (some ⟨b1,0,none⟩))]∧q=32 - k∧k≤32∧(∃ a' c',ov = .slice a' (za6 l X.told k).length c')∧St w (· = bx) w' (znu bT bx b1 b3 b4 b5 r ⟨zaz l X.told (za6 l X.told k),X.cursor⟩ (.slice al 32 cl) ov l (za6 l X.told k)))
  (σ':=[(19,.int .i64 ((0:Nat):Int)),(18,.int .i64 (32:Nat)),(17,.slice al 32 cl),(6,.func (.func 343) #[] #[.pointer (some ⟨b4,0,none⟩),.pointer (some ⟨b3,0,none⟩),.pointer (some ⟨b1,0,none⟩),.pointer (some ⟨b5,0,none⟩)]),(5,.pointer (some ⟨b5,0,none⟩)),(4,.pointer (some ⟨b4,0,none⟩)),(3,.pointer (some ⟨b3,0,none⟩)),(1,.pointer (some ⟨b1,0,none⟩))]) (n:=32) ⟨rfl,rfl,rfl,rfl,rfl,rfl,rfl,rfl,trivial⟩ ⟨0,_,rfl,rfl,Nat.zero_le _,⟨none,0,rfl⟩,hS⟩ ?_
 clear hS;rintro _ w1 q ⟨k,_,rfl,rfl,hk,⟨a',c',rfl⟩,hS⟩;have hplt:∀ x∈za6 l X.told k,x < k:=fun x hx=>zmo hx
 have hp8:=zeb l X.told k;have hps:=zfI l X.told k;have htl:=(zbP l (za6 l X.told k) X.told).trans ht;(conv=>whnf);refine brD (fun h3=>?_) (fun h3=>?_)
 ·have hk:k < 32:=by omega
  have hkn:k ∉ za6 l X.told k:=fun h=>Nat.lt_irrefl _ (hplt k h)
  have htk:=zit l (za6 l X.told k) X.told k (by omega);rw [if_neg hkn] at htk;obtain ⟨x,hx⟩:∃ x,l[k]?=some x:=⟨_,List.getElem?_eq_getElem (by omega)⟩;have hver:=zgG hx;generalize za6 l X.told k=p at hS hplt hp8 hps htl hkn htk;unfold znu at hS;obtain ⟨bl,ol,x',hx',_,rfl,_,hcx⟩:=(zap (G:=fun _=>True) zau (hS.get 2 rfl) fun _ _=>trivial).at hk;obtain rfl:=Option.some.inj (hx'.symm.trans hx);(conv=>whnf);refine ixO ?_;(conv=>whnf);refine lac (l:=zac x') rfl hcx ?_;(conv=>whnf);refine hS.new (fun b8 w' _ hS=>?_);(conv=>whnf);refine hS.st 8 rfl (lbO rfl) rfl (fun w' hS=>?_);(conv=>whnf)
  (refine zah tabOk mixed [] No [0,1,2,3,4,5,6,7,8,9,10,11,12,13] (by kernel_rfl) ?_;rintro w1 rfl;replace hS:=hS.drew)
  have hd:=zrU (bT:=bT) (X:=⟨zaz l X.told p,X.cursor⟩) htk;repeat' ((conv=>whnf);first|apply RetC.mk|refine nzO ?_|refine rgO ?_|refine ixO ?_|refine hS.ldF 8 rfl rfl id ?_|refine hS.ldF 1 rfl rfl id ?_|refine ixO ?_|refine hS.ldF 0 rfl (o:=0+1+Int.toNat (k:Int) * 1) (by rw [← hd];congr 1;simp) id ?_|refine hS.ldF 6 rfl rfl id ?_|(first|apply brD|apply zad|apply brN|apply brI)<;>(intro))
  ·rename_i h1 h2;have hlag:zs8 l X.told k=true:=decide_eq_true (by rw [hver];exact h1);rw [if_pos ⟨hlag,by omega⟩] at hps;(conv=>whnf);refine (zpz k hk hl htl hkn (by omega) (hS.keep 8)).mono ?_;clear hS;rintro v w' ⟨a2,c2,hS⟩;have htt:(zaz l X.told p).set k (zfh l k)=zaz l X.told (p++[k]):=(zdm l X.told p k).symm;dsimp only at hS;rw [htt,← hps] at hS;have hpl:p.length+1=(za6 l X.told (k+1)).length:=by rw [hps];simp
   rw [hpl] at hS;(conv=>whnf);refine rgO ?_;(conv=>whnf);refine LoopE.mk ⟨_,[(19,.int .i64 ((k+1:Nat):Int)),(18,_),(17,_),(6,_),(5,_),(4,_),(3,_),(1,_)],?_,⟨rfl,rfl,rfl,rfl,rfl,rfl,rfl,rfl,trivial⟩,⟨k+1,_,rfl,rfl,by omega,⟨a2,c2,rfl⟩,hS⟩⟩;omega
  ·rename_i h1 h2;rw [if_neg (fun h=>h2 (by omega))] at hps;rw [← hps] at hS;refine LoopE.mk ⟨_,[(19,.int .i64 ((k+1:Nat):Int)),(18,_),(17,_),(6,_),(5,_),(4,_),(3,_),(1,_)],?_,⟨rfl,rfl,rfl,rfl,rfl,rfl,rfl,rfl,trivial⟩,⟨k+1,_,rfl,rfl,by omega,⟨a',c',by rw [hps]⟩,hS.keep 8⟩⟩;omega
  ·rename_i h1;rw [if_neg (fun h=>absurd (hver.trans h1) (of_decide_eq_true h.1))] at hps;rw [← hps] at hS;refine LoopE.mk ⟨_,[(19,.int .i64 ((k+1:Nat):Int)),(18,_),(17,_),(6,_),(5,_),(4,_),(3,_),(1,_)],?_,⟨rfl,rfl,rfl,rfl,rfl,rfl,rfl,rfl,trivial⟩,⟨k+1,_,rfl,rfl,by omega,⟨a',c',by rw [hps]⟩,hS.keep 8⟩⟩;omega
 ·obtain rfl:k=32:=by omega
  have hnd:=zhx l X.told 32;have hpk:X.picks l=(zct 32 X.cursor (za6 l X.told 32)).2:=rfl;have hnx:X.next l=⟨zaz l X.told (X.picks l),(zct 32 X.cursor (za6 l X.told 32)).1⟩:=rfl;have hsw:Swept X.cursor 0 X.cursor (za6 l X.told 32):=⟨by omega,fun i hi=>absurd hi (Nat.not_lt_zero _)⟩;clear hps;generalize hs2:zct 32 X.cursor (za6 l X.told 32)=z2 at hpk hnx;generalize za6 l X.told 32=p at hS hplt hp8 htl hnd hsw hs2;(conv=>whnf)
  refine zaL tabOk (fun σ w' q=>∃ (j c:Nat) (p:List Nat) (ov:Value),σ=[(6,.func (.func 343) #[] #[.pointer (some ⟨b4,0,none⟩),.pointer (some ⟨b3,0,none⟩),.pointer (some ⟨b1,0,none⟩),.pointer (some ⟨b5,0,none⟩)]),(5,.pointer (some ⟨b5,0,none⟩)),(4,.pointer (some ⟨b4,0,none⟩)),(3,.pointer (some ⟨b3,0,none⟩)),(1,.pointer (some ⟨b1,0,none⟩))]∧q=32 - j∧p.length≤8∧c < 32∧Swept X.cursor j c p∧zct (32 - j) c p=z2∧(∃ a' c',ov = .slice a' p.length c')∧St w (· = bx) w' (znu bT bx b1 b3 b4 b5 r ⟨zaz l X.told p,c⟩ (.slice al 32 cl) ov l p))
   (σ':=[(6,.func (.func 343) #[] #[.pointer (some ⟨b4,0,none⟩),.pointer (some ⟨b3,0,none⟩),.pointer (some ⟨b1,0,none⟩),.pointer (some ⟨b5,0,none⟩)]),(5,.pointer (some ⟨b5,0,none⟩)),(4,.pointer (some ⟨b4,0,none⟩)),(3,.pointer (some ⟨b3,0,none⟩)),(1,.pointer (some ⟨b1,0,none⟩))]) (n:=32) ⟨rfl,rfl,rfl,rfl,rfl,trivial⟩ ⟨0,X.cursor,p,_,rfl,rfl,hp8,hc,hsw,hs2,⟨a',c',rfl⟩,hS⟩ ?_
  clear hS hp8 hplt htl hnd hsw hs2;clear p;rintro _ w1 q ⟨j,c,p,_,rfl,rfl,hp8,hc32,hsw,hs2,⟨a',c',rfl⟩,hS⟩;have htl:=(zbP l p X.told).trans ht;unfold znu at hS;have hcur:(zaW bT ⟨zaz l X.told p,c⟩)[33]?=some (.int .i64 (c:Int)):=zk7 htl;have h10:¬ b1=bx:=Blk.ne (hS.blk 1 rfl) (hS.blk 0 rfl) (by decide);(conv=>whnf);refine hS.ld 6 rfl rfl ?_;(conv=>whnf);refine brD (fun h3=>?_) (fun h3=>?_)
  ·have h8:p.length < 8:=by omega
   have hj:=hsw.few hc h8;have hstep:=hsw.step;rw [show 32 - j=(32 - (j+1))+1 by omega,zdt h8] at hs2;(conv=>whnf);refine hS.ld 1 rfl rfl ?_;(conv=>whnf);refine hS.ld 0 rfl hcur ?_;(conv=>whnf);refine hS.ld 5 rfl rfl ?_;(conv=>whnf);refine hS.lookB 4 rfl ?_;by_cases hcp:c∈p
   ·rw [decide_eq_true hcp];rw [if_pos hcp] at hs2 hstep;(conv=>whnf);have hcur2:(zaW bT ⟨zaz l X.told p,c⟩)[33]?=some (.int .i64 (c:Int)):=zk7 htl
    (refine zah tabOk mixed [4] (· = bx) [0,1,2,3,4,5,6,7,8,9] (by kernel_rfl) ?_;rintro w1 rfl;replace hS:=hS.drew)
    repeat' ((conv=>whnf);first|apply RetC.mk|refine nzO ?_|refine rgO ?_|refine ixO ?_|refine hS.ldF 1 rfl rfl h10 ?_|refine hS.ld 0 rfl hcur2 ?_|refine KeepC.mk (Ext.refl _ _) ?_|(first|apply brD|apply zad|apply brN|apply brI)<;>(intro))
    refine hS.stX 0 rfl (by rw [zlD htl];simp [zam]) rfl (fun w2 hx2 hS=>?_);refine KeepC.mk hx2 ?_;have hmv:zaO (zaW bT ⟨zaz l X.told p,c⟩) (0+33) (zam (.int .i64 (((c:Int)+1).tmod 32)))=zaW bT ⟨zaz l X.told p,(c+1) % 32⟩:=zmJ htl (by rw [Int.tmod_eq_emod_of_nonneg (by omega)];omega)
    replace hS:St w (· = bx) w2 (znu bT bx b1 b3 b4 b5 r ⟨zaz l X.told p,(c+1) % 32⟩ (.slice al 32 cl) (.slice a' p.length c') l p):=by
     unfold znu;rw [← hmv];exact hS
    (conv=>whnf);refine LoopE.mk ⟨_,[(6,_),(5,_),(4,_),(3,_),(1,_)],?_,⟨rfl,rfl,rfl,rfl,rfl,trivial⟩,⟨j+1,(c+1) % 32,p,_,rfl,rfl,hp8,Nat.mod_lt _ (by omega),hstep,hs2,⟨a',c',rfl⟩,hS⟩⟩;omega
   ·rw [decide_eq_false hcp];rw [if_neg hcp] at hs2 hstep;(conv=>whnf);refine (zpz c hc32 hl htl hcp h8 hS).mono ?_;clear hS;rintro v w' ⟨a2,c2,hS⟩;have htt:(zaz l X.told p).set c (zfh l c)=zaz l X.told (p++[c]):=(zdm l X.told p c).symm;dsimp only at hS;have hpl:p.length+1=(p++[c]).length:=by simp
    rw [htt,hpl] at hS;have htl2:=(zbP l (p++[c]) X.told).trans ht;have hp9:(p++[c]).length≤8:=by simp;omega
    unfold znu at hS;(conv=>whnf);have hcur2:(zaW bT ⟨zaz l X.told (p++[c]),c⟩)[33]?=some (.int .i64 (c:Int)):=zk7 htl2
    (refine zah tabOk mixed [4] (· = bx) [0,1,2,3,4,5,6,7,8,9] (by kernel_rfl) ?_;rintro w1 rfl;replace hS:=hS.drew)
    repeat' ((conv=>whnf);first|apply RetC.mk|refine nzO ?_|refine rgO ?_|refine ixO ?_|refine hS.ldF 1 rfl rfl h10 ?_|refine hS.ld 0 rfl hcur2 ?_|refine KeepC.mk (Ext.refl _ _) ?_|(first|apply brD|apply zad|apply brN|apply brI)<;>(intro))
    refine hS.stX 0 rfl (by rw [zlD htl2];simp [zam]) rfl (fun w2 hx2 hS=>?_);refine KeepC.mk hx2 ?_;have hmv:zaO (zaW bT ⟨zaz l X.told (p++[c]),c⟩) (0+33) (zam (.int .i64 (((c:Int)+1).tmod 32)))=zaW bT ⟨zaz l X.told (p++[c]),(c+1) % 32⟩:=zmJ htl2 (by rw [Int.tmod_eq_emod_of_nonneg (by omega)];omega)
    replace hS:St w (· = bx) w2 (znu bT bx b1 b3 b4 b5 r ⟨zaz l X.told (p++[c]),(c+1) % 32⟩ (.slice al 32 cl) (.slice a2 (p++[c]).length c2) l (p++[c])):=by
     unfold znu;rw [← hmv];exact hS
    (conv=>whnf);refine LoopE.mk ⟨_,[(6,_),(5,_),(4,_),(3,_),(1,_)],?_,⟨rfl,rfl,rfl,rfl,rfl,trivial⟩,⟨j+1,(c+1) % 32,(p++[c]),_,rfl,rfl,hp9,Nat.mod_lt _ (by omega),hstep,hs2,⟨a2,c2,rfl⟩,hS⟩⟩;omega
  ·have h8:¬ p.length < 8:=by omega
   rw [zdo h8] at hs2;subst hs2;rw [show X.picks l=p from hpk] at hnx ⊢;rw [hnx];(conv=>whnf);refine hS.ld 6 rfl rfl ?_;repeat' ((conv=>whnf);first|apply RetC.mk|refine nzO ?_|refine rgO ?_|refine ixO ?_|(first|apply brD|apply zad|apply brN|apply brI)<;>(intro))
   refine ⟨⟨a',c',rfl⟩,hS.ext,hS.blk 0 rfl,hS.get 7 rfl,fun g hg=>?_⟩;obtain ⟨h1,h2⟩:=hS.may _ (List.mem_of_getElem? (i:=7) rfl) g (by simpa [zaf,own] using hg);refine ⟨h1.resolve_left ?_,h2⟩;rintro rfl;exact hS.ownBNe 0 7 rfl rfl (by decide) hg
end

def zew (bt bl gl cl:Nat) (X:TelS):Ent:=⟨[bl,gl],fun w=>bl≠gl∧Blk w bl 294 [.pointer (some ⟨bt,0,none⟩),.slice (some ⟨gl,0,none⟩) 32 cl,.int .i64 (X.cursor:Int)]∧(zaf 3 1 zcw (.slice (some ⟨gl,0,none⟩) 32 cl) X.told).holds w⟩
theorem zet {bt bl gl cl:Nat}{X:TelS}:(zew bt bl gl cl X).Local:=fun w w' h ⟨h1,h2,h3⟩ =>
 ⟨h1,zab bl _ _ w w' (fun b hb=>h b (by simp [blk] at hb;simp [zew,hb])) h2,zaj w w' (fun b hb=>h b (by simp [zaf,own,Value.ownBlock] at hb;simp [zew,hb])) h3⟩

section
variable {w : World} {bt g c bl gl cl : Nat} {T : MirS} {X : TelS}
theorem zqN (w:World):CallC Tryz.prog 96 #[.pointer (some ⟨bt,0,none⟩)] w fun v w'=>∃ bl gl cl,v = .pointer (some ⟨bl,0,none⟩)∧Ext No w w'∧(zew bt bl gl cl zoa).holds w'∧(∀ b∈(zew bt bl gl cl zoa).foot,w.heap.size≤b∧b < w'.heap.size):=by
 refine zaa tabOk Tryz.func96 (by kernel_rfl) rfl Tryz.ntmps96 (lbO rfl) ?_;have hS:=St.start w No;(conv=>whnf);refine hS.mkSlice (n:=32) Tryz.underlying47 (sz:=1) (bytes:=8) (by kernel_rfl) (z:=.int .i64 0) (by kernel_rfl) (by decide) (by decide) (by decide) (enc:=zcw) (xs:=List.replicate 32 (0:Int)) (by simp) (by kernel_rfl) (fun gl w' hgl hS=>?_);(conv=>whnf);refine hS.new (fun bl w' hbl hS=>?_);repeat' ((conv=>whnf);first|apply RetC.mk|refine rgO ?_|refine ixO ?_|(first|apply brD|apply zad|apply brN|apply brI)<;>(intro))
 refine ⟨bl,gl,32,rfl,hS.ext,⟨?_,hS.get 1 rfl,hS.get 0 rfl⟩,?_⟩
 ·have:=zaG zaX hS.apart (i:=1) (j:=0) rfl rfl (by decide) bl (by simp [blk]);simpa [zaf,own,Value.ownBlock] using this
 ·intro b hb;simp only [zew,List.mem_cons,List.not_mem_nil,or_false] at hb;rcases hb with rfl|rfl
  ·have:=hS.may _ (List.mem_of_getElem? (i:=1) rfl) b (by simp [blk]);exact ⟨this.1.resolve_left id,this.2⟩
  ·have:=hS.may _ (List.mem_of_getElem? (i:=0) rfl) b (by simp [zaf,own,Value.ownBlock]);exact ⟨this.1.resolve_left id,this.2⟩

end

structure S2 (c0:Nat) (p z:List Nat) (c:Nat):Prop where
 len:z.length=8
 nd:z.Nodup
 lt:∀ x∈z,x < 32
 sub:∀ x∈p,x∈z
 cur:c < 32
theorem zh4 {c0:Nat}(hc0:c0 < 32):∀ (n j c:Nat) (p:List Nat),n+j=32→Swept c0 j c p→c < 32→p.length≤8→p.Nodup→(∀ x∈p,x < 32)→S2 c0 p (zct n c p).2 (zct n c p).1
 | n,j,c,p,hn,hs,hc,hp,hd,hl=>by
  by_cases h8:p.length < 8
  ·have hj:=hs.few hc0 h8;obtain ⟨m,rfl⟩:∃ m,n=m+1:=⟨n - 1,by omega⟩;rw [zdt h8]
   have ih:=zh4 hc0 m (j+1) ((c+1) % 32) (if c∈p then p else p++[c]) (by omega) hs.step (Nat.mod_lt _ (by omega)) (by
     split
     ·exact hp
     ·simp;omega)
    (by
     split
     ·exact hd
     ·rename_i h;rw [List.nodup_append];exact ⟨hd,by simp,fun a ha b hb=>by simp at hb;subst hb;rintro rfl;exact h ha⟩)
    (by
     split
     ·exact hl
     ·intro x hx;rcases List.mem_append.1 hx with h|h
      ·exact hl x h
      ·simp at h;omega)
   refine ⟨ih.len,ih.nd,ih.lt,fun x hx=>ih.sub x ?_,ih.cur⟩;split
   ·exact hx
   ·exact List.mem_append_left _ hx
  ·rw [zdo h8];exact ⟨by dsimp only;omega,hd,hl,fun _ h=>h,hc⟩
theorem zfs {X:TelS}(l:List CellS) (hc:X.cursor < 32):S2 X.cursor (za6 l X.told 32) (X.picks l) (X.next l).cursor :=
 zh4 hc 32 0 X.cursor _ rfl ⟨by omega,fun i hi=>absurd hi (Nat.not_lt_zero _)⟩ hc (zeb _ _ _) (zhx _ _ _) fun _ h=>zmo h

theorem zpb {X:TelS}(l:List CellS) (ht:X.told.length=32):(X.next l).told.length=32:=(zbP l _ _).trans ht

abbrev zhS (x:Bool):List Value:=[.bool x]
theorem zpU:Codec 1 zhS:=⟨fun _=>rfl,fun _=>rfl,by decide⟩
def zk0 (p:List Nat):List Bool:=(List.range 32).map fun k=>decide (k∈p)
theorem zjf (p:List Nat):(zk0 p).length=32:=by simp [zk0]
theorem zd3 {p:List Nat}{k:Nat}(h:k < 32):(zk0 p)[k]?=some (decide (k∈p)):=by simp [zk0,h]
theorem zjm {p:List Nat}{k:Nat}(h:k < 32):(zk0 p).set k true=zk0 (p++[k]):=by
 apply List.ext_getElem?;intro i;rw [List.getElem?_set];by_cases e:k=i
 ·subst e;rw [if_pos rfl,if_pos (by rw [zjf];exact h),zd3 h];simp
 ·rw [if_neg e];by_cases hi:i < 32
  ·rw [zd3 hi,zd3 hi];have:¬ i=k:=fun x=>e x.symm
   simp [this]
  ·rw [List.getElem?_eq_none (by rw [zjf];omega),List.getElem?_eq_none (by rw [zjf];omega)]
theorem zic {l:List CellS}{t:List Int}{k:Nat}(h:(za6 l t k).length=8):∀ d,za6 l t (k+d)=za6 l t k
 | 0=>rfl
 | d+1=>by
  have ih:=zic h d;rw [← Nat.add_assoc,zfI,ih,if_neg (by omega)]

theorem zsv {n:Nat}{T:MirS}(hO:TOk n T) {p:List Nat}(hp:∀ x∈p,x < 32) {i:Nat}(hi:i < p.length):∃ k,p[i]?=some k∧∀ c,(zcj T.cells p)[i]?=some c→c.slot=k∧zfh T.cells k=c.ver:=by
 obtain ⟨k,hk⟩:∃ k,p[i]?=some k:=⟨_,List.getElem?_eq_getElem hi⟩;refine ⟨k,hk,fun c h=>?_⟩;have hlt:=hp k (List.mem_of_getElem? hk);unfold zcj at h;rw [List.getElem?_map,hk] at h;obtain rfl:=Option.some.inj h;obtain ⟨d,hd⟩:∃ d,T.cells[k]?=some d:=⟨_,List.getElem?_eq_getElem (by rw [hO.len];exact hlt)⟩;rw [zd2 hd,zgG hd];exact ⟨hO.slot k d hd,rfl⟩
section
variable {w : World} {bt g c bl gl cl : Nat} {T : MirS} {X : TelS}
def znD (bt bl gl cl bk ck:Nat) (X:TelS) (ov:Value) (l:List CellS) (p:List Nat):List Ent :=
 [blk bl 294 [.pointer (some ⟨bt,0,none⟩),.slice (some ⟨gl,0,none⟩) 32 cl,.int .i64 (X.cursor:Int)],zaf 3 1 zcw (.slice (some ⟨gl,0,none⟩) 32 cl) X.told,zaf 209 10 zac ov (zcj l p),zaf 4 1 zhS (.slice (some ⟨bk,0,none⟩) 32 ck) (zk0 p)]
theorem zgR (hT:(zb4 bt g c T).holds w) (hL:(zew bt bl gl cl X).holds w) (hap:∀ b∈[bt,g],¬ (b=bl∨b=gl)) {n:Nat}(hO:TOk n T) (ht:X.told.length=32) (hc:X.cursor < 32) :
  CallC Tryz.prog 262 #[.pointer (some ⟨bl,0,none⟩)] w fun v w'=>(∃ a' c',v = .slice a' (X.picks T.cells).length c')∧Ext (fun b=>b=bl∨b=gl) w w'∧(zew bt bl gl cl (X.next T.cells)).holds w'∧(zaf 209 10 zac v (zcj T.cells (X.picks T.cells))).holds w'∧zc0 w w' v:=by
 have hl:=hO.len;have htb:¬ (bt=bl∨bt=gl):=hap bt (by simp);have htg:¬ (g=bl∨g=gl):=hap g (by simp);have hbl:=hL.2.1.lt;have hgl:gl < w.heap.size:=zoT hL.2.2 rfl;obtain ⟨hL1,hL2,hL3⟩:=hL;obtain ⟨z2,hz2⟩:∃ z2,zct 32 X.cursor (za6 T.cells X.told 32)=z2:=⟨_,rfl⟩;have hpk:X.picks T.cells=z2.2:=congrArg Prod.snd hz2;have hnx:X.next T.cells=⟨zaz T.cells X.told (X.picks T.cells),z2.1⟩:=by rw [← hz2];rfl
 refine zaa tabOk Tryz.func262 (by kernel_rfl) rfl Tryz.ntmps262 (lbO rfl) ?_;have hS:=(St.start w (fun b=>b=bl∨b=gl)).add (zab bl _ _) hL2 (by simp [blk];exact hbl) (by simp);have hS:=hS.add zaj hL3 (by simp [zaf,own,Value.ownBlock];exact hgl) (by simp [zaf,own,Value.ownBlock,blk];exact fun e=>hL1 e);have hS:=hS.add (zaj (e:=209) (enc:=zac) (sz:=10) (v:=.slice none 0 0) (xs:=[])) (zcy _ _ _) (by simp [zaf,own,Value.ownBlock]) (by simp [zaf,own,Value.ownBlock]);(conv=>whnf);refine hS.mkSlice (n:=32) Tryz.underlying411 (sz:=1) (bytes:=1) (by kernel_rfl) (z:=.bool false) (by kernel_rfl) (by decide) (by decide) (by decide) (enc:=zhS) (xs:=zk0 []) (by simp [zk0]) (by kernel_rfl) (fun bk w' hbk hS=>?_);replace hS:St w (fun b=>b=bl∨b=gl) w' (znD bt bl gl cl bk 32 X (.slice none 0 0) T.cells (za6 T.cells X.told 0)):=hS;(conv=>whnf)
 refine zaL tabOk (fun σ w' q=>∃ (i:Nat) (ov:Value),σ=[(5,.int .i64 i),(4,.slice (some ⟨bk,0,none⟩) 32 32),(3,ov),(0,.pointer (some ⟨bl,0,none⟩))]∧q=32 - i∧i≤32∧(∃ a' c',ov = .slice a' (za6 T.cells X.told i).length c')∧St w (fun b=>b=bl∨b=gl) w' (znD bt bl gl cl bk 32 X ov T.cells (za6 T.cells X.told i)))
  (σ':=[(5,.int .i64 ((0:Nat):Int)),(4,.slice (some ⟨bk,0,none⟩) 32 32),(3,.slice none 0 0),(0,.pointer (some ⟨bl,0,none⟩))]) (n:=32) ⟨rfl,rfl,rfl,rfl,trivial⟩ ⟨0,_,rfl,rfl,Nat.zero_le _,⟨none,0,rfl⟩,hS⟩ ?_
 clear hS;rintro _ w1 q ⟨k,_,rfl,rfl,hk,⟨a',c',rfl⟩,hS⟩;have hp8:=zeb T.cells X.told k;have hps:=zfI T.cells X.told k;unfold znD at hS;(conv=>whnf);refine brD (fun h3=>?_) (fun h3=>?_)
 ·have hk:k < 32:=by omega
  (conv=>whnf);refine brD (fun h4=>?_) (fun h4=>?_)
  ·obtain ⟨x,hx⟩:∃ x,T.cells[k]?=some x:=⟨_,List.getElem?_eq_getElem (by omega)⟩;obtain ⟨u,hu⟩:∃ u,X.told[k]?=some u:=⟨_,List.getElem?_eq_getElem (by omega)⟩;have hcell:=zd2 hx;have hlb:zs8 T.cells X.told k=decide (x.ver≠u):=by unfold zs8;rw [zgG hx,zhq hu]
   have hcv:w.cell? ⟨g,0+Int.toNat (k:Int) * 10+1,none⟩=some (.int .i64 x.ver):=by rw [Nat.zero_add];exact (zcA hT hx).one 1 rfl
   have hcx:CellsAt w g (0+Int.toNat (k:Int) * 10) (zac x):=by rw [Nat.zero_add];exact zcA hT hx
   generalize za6 T.cells X.told k=p at hS hp8 hps h4;(conv=>whnf)
   (refine zah tabOk mixed [] No [0,1,2,3,4,5,6,7,8,9,10,11,12,13,14,15,16,17,18] (by kernel_rfl) ?_;rintro w1 rfl;replace hS:=hS.drew)
   obtain ⟨bu,ou,u',hu',_,eu,_,hcu⟩:=(zap (G:=fun _=>True) zc2 (hS.get 1 rfl) fun _ _=>trivial).at hk;cases eu;obtain rfl:=Option.some.inj (hu'.symm.trans hu);repeat' ((conv=>whnf);first|apply RetC.mk|refine rgO ?_|refine ixO ?_|refine ixO ?_|refine hS.ldF 0 rfl rfl id ?_|refine hS.ldrF (zbQ hT) htb id ?_|refine hS.ldrF hcv htg id ?_|refine ldFc (hcu.one 0 rfl) id ?_|(first|apply brD|apply zad|apply brN|apply brI)<;>(intro))
   ·rename_i h5;rw [if_pos ⟨by rw [hlb];exact decide_eq_true h5,by omega⟩] at hps;repeat' ((conv=>whnf);first|apply RetC.mk|refine rgO ?_|refine ixO ?_|refine ixO ?_|refine hS.ld 0 rfl rfl ?_|refine hS.ldr (zbQ hT) htb ?_|refine hS.lar (l:=zac x) rfl hcx htg ?_|(first|apply brD|apply zad|apply brN|apply brI)<;>(intro))
    refine hS.lit (cs:=zac x) Tryz.underlying131 (sz:=10) (by kernel_rfl) (z:=.agg (zac ⟨0,0,zay⟩).toArray) (by kernel_rfl) rfl rfl (by rfl) (fun bz w' hbz hS=>?_);(conv=>whnf);refine hS.appS zau 2 (ys:=[x]) (G:=fun _=>True) Tryz.underlying131 (bytes:=80) (by kernel_rfl) (z:=.agg (zac ⟨0,0,zay⟩).toArray) (by kernel_rfl) rfl rfl (Slc.of_blk zau (hS.blk 4 rfl) rfl (by simp) (fun _ _=>trivial) rfl) (by unfold maxLen;rw [zaF];omega) (by rw [zaF];omega) (fun a2 c2 w' hS=>?_);replace hS:=hS.keep 4;have hoc:zcj T.cells p++[x]=zcj T.cells (p++[k]):=by simp [zcj,hcell]
    rw [zaF,hoc] at hS;rw [zaF];(conv=>whnf);refine ixO ?_;(conv=>whnf);refine hS.setL zpU 3 (k:=k) (x:=true) rfl (zd3 (by omega)) (by simp) rfl (fun w' _ hS=>?_);replace hS:St w (fun b=>b=bl∨b=gl) w' [_,_,_,zaf 4 1 zhS (.slice (some ⟨bk,0,none⟩) 32 32) ((zk0 p).set k true)]:=hS;rw [zjm (by omega)] at hS;have hq:p.length+1=(za6 T.cells X.told (k+1)).length:=by rw [hps];simp
    rw [hq,← hps] at hS;rw [hq];(conv=>whnf);refine rgO ?_;(conv=>whnf);refine LoopE.mk ⟨_,[(5,.int .i64 ((k+1:Nat):Int)),(4,_),(3,_),(0,_)],?_,⟨rfl,rfl,rfl,rfl,trivial⟩,⟨k+1,_,rfl,rfl,by omega,⟨a2,c2,rfl⟩,hS⟩⟩;omega
   ·rename_i h5;rw [if_neg (fun h=>by rw [hlb] at h;exact of_decide_eq_true h.1 h5)] at hps;rw [← hps] at hS ⊢;refine LoopE.mk ⟨_,[(5,.int .i64 ((k+1:Nat):Int)),(4,_),(3,_),(0,_)],?_,⟨rfl,rfl,rfl,rfl,trivial⟩,⟨k+1,_,rfl,rfl,by omega,⟨a',c',rfl⟩,hS⟩⟩;omega
  ·have h32:za6 T.cells X.told 32=za6 T.cells X.told k:=by
    have:=zic (l:=T.cells) (t:=X.told) (k:=k) (by omega) (32 - k)
    rwa [show k+(32 - k)=32 by omega] at this
   rw [← h32] at hS ⊢;have hp32:=zeb T.cells X.told 32;have hsw:Swept X.cursor 0 X.cursor (za6 T.cells X.told 32):=⟨by omega,fun i hi=>absurd hi (Nat.not_lt_zero _)⟩;(conv=>whnf)
   refine zaL tabOk (fun σ w' q=>∃ (j cu:Nat) (p:List Nat) (ov:Value),σ=[(4,.slice (some ⟨bk,0,none⟩) 32 32),(3,ov),(0,.pointer (some ⟨bl,0,none⟩))]∧q=32 - j∧p.length≤8∧cu < 32∧Swept X.cursor j cu p∧zct (32 - j) cu p=z2∧(∃ a' c',ov = .slice a' p.length c')∧St w (fun b=>b=bl∨b=gl) w' (znD bt bl gl cl bk 32 ⟨X.told,cu⟩ ov T.cells p))
    (σ':=[(4,.slice (some ⟨bk,0,none⟩) 32 32),(3,.slice a' (za6 T.cells X.told 32).length c'),(0,.pointer (some ⟨bl,0,none⟩))]) (n:=32) ⟨rfl,rfl,rfl,trivial⟩ ⟨0,X.cursor,za6 T.cells X.told 32,_,rfl,rfl,hp32,hc,hsw,hz2,⟨a',c',rfl⟩,hS⟩ ?_
   clear hS hp32 hsw hp8 hps;rintro _ w1 q ⟨j,cu,p,_,rfl,rfl,hp8,hcu,hsw,hs2,⟨a',c',rfl⟩,hS⟩;unfold znD at hS;dsimp only at hS;(conv=>whnf);refine brD (fun h5=>?_) (fun h5=>?_)
   ·have h8:p.length < 8:=by omega
    have hj:=hsw.few hc h8;have hstep:=hsw.step;rw [show 32 - j=(32 - (j+1))+1 by omega,zdt h8] at hs2;obtain ⟨by_,oy,y,hy,_,ey,_,hcy⟩:=(zap (G:=fun _=>True) zpU (hS.get 3 rfl) fun _ _=>trivial).at hcu;cases ey;obtain rfl:=Option.some.inj (hy.symm.trans (zd3 hcu));(conv=>whnf);refine hS.ld 0 rfl rfl ?_;(conv=>whnf);refine ixO ?_;(conv=>whnf);refine ldc (hcy.one 0 rfl) ?_;by_cases hcp:cu∈p
    ·rw [decide_eq_true hcp];rw [if_pos hcp] at hs2 hstep;(conv=>whnf);refine rgO ?_;(conv=>whnf);refine hS.st 0 rfl (lbO rfl) rfl (fun w' hS=>?_);replace hS:St w (fun b=>b=bl∨b=gl) w' [blk bl 294 [.pointer (some ⟨bt,0,none⟩),.slice (some ⟨gl,0,none⟩) 32 cl,.int .i64 ((cu:Int)+1)],zaf 3 1 zcw (.slice (some ⟨gl,0,none⟩) 32 cl) X.told,zaf 209 10 zac (.slice a' p.length c') (zcj T.cells p),zaf 4 1 zhS (.slice (some ⟨bk,0,none⟩) 32 32) (zk0 p)]:=hS;(conv=>whnf);refine hS.ld 0 rfl rfl ?_;(conv=>whnf);refine brD (fun h7=>?_) (fun h7=>?_)
     ·have hc0:(cu+1) % 32=0:=by omega
      rw [hc0] at hs2 hstep;(conv=>whnf);refine hS.st 0 rfl (lbO rfl) rfl (fun w' hS=>?_);(conv=>whnf);refine LoopE.mk ⟨_,[(4,_),(3,_),(0,_)],?_,⟨rfl,rfl,rfl,trivial⟩,⟨j+1,0,p,_,rfl,rfl,hp8,by omega,hstep,hs2,⟨a',c',rfl⟩,hS⟩⟩;omega
     ·have hc0:(cu+1) % 32=cu+1:=by omega
      rw [hc0] at hs2 hstep;(conv=>whnf);refine LoopE.mk ⟨_,[(4,_),(3,_),(0,_)],?_,⟨rfl,rfl,rfl,trivial⟩,⟨j+1,cu+1,p,_,rfl,rfl,hp8,by omega,hstep,hs2,⟨a',c',rfl⟩,hS⟩⟩;omega
    ·rw [decide_eq_false hcp];rw [if_neg hcp] at hs2 hstep;have hp9:(p++[cu]).length≤8:=by simp;omega
     obtain ⟨x,hx⟩:∃ x,T.cells[cu]?=some x:=⟨_,List.getElem?_eq_getElem (by omega)⟩;have hcell:=zd2 hx;have hcx:CellsAt w g (0+Int.toNat (cu:Int) * 10) (zac x):=by rw [Nat.zero_add];exact zcA hT hx
     conv=>whnf
     repeat' ((conv=>whnf);first|apply RetC.mk|refine rgO ?_|refine ixO ?_|refine ixO ?_|refine hS.ld 0 rfl rfl ?_|refine hS.ldr (zbQ hT) htb ?_|refine hS.lar (l:=zac x) rfl hcx htg ?_|(first|apply brD|apply zad|apply brN|apply brI)<;>(intro))
     refine hS.lit (cs:=zac x) Tryz.underlying131 (sz:=10) (by kernel_rfl) (z:=.agg (zac ⟨0,0,zay⟩).toArray) (by kernel_rfl) rfl rfl (by rfl) (fun bz w' hbz hS=>?_);(conv=>whnf);refine hS.appS zau 2 (ys:=[x]) (G:=fun _=>True) Tryz.underlying131 (bytes:=80) (by kernel_rfl) (z:=.agg (zac ⟨0,0,zay⟩).toArray) (by kernel_rfl) rfl rfl (Slc.of_blk zau (hS.blk 4 rfl) rfl (by simp) (fun _ _=>trivial) rfl) (by unfold maxLen;rw [zaF];omega) (by rw [zaF];omega) (fun a2 c2 w' hS=>?_);replace hS:=hS.keep 4;have hoc:zcj T.cells p++[x]=zcj T.cells (p++[cu]):=by simp [zcj,hcell]
     rw [zaF,hoc] at hS;rw [zaF];(conv=>whnf);refine ixO ?_;(conv=>whnf);refine hS.setL zpU 3 (k:=cu) (x:=true) rfl (zd3 (by omega)) (by simp) rfl (fun w' _ hS=>?_);replace hS:St w (fun b=>b=bl∨b=gl) w' [_,_,_,zaf 4 1 zhS (.slice (some ⟨bk,0,none⟩) 32 32) ((zk0 p).set cu true)]:=hS;rw [zjm (by omega)] at hS;have hq:p.length+1=(p++[cu]).length:=by simp
     rw [hq] at hS ⊢;(conv=>whnf);refine rgO ?_;(conv=>whnf);refine hS.st 0 rfl (lbO rfl) rfl (fun w' hS=>?_);replace hS:St w (fun b=>b=bl∨b=gl) w' [blk bl 294 [.pointer (some ⟨bt,0,none⟩),.slice (some ⟨gl,0,none⟩) 32 cl,.int .i64 ((cu:Int)+1)],zaf 3 1 zcw (.slice (some ⟨gl,0,none⟩) 32 cl) X.told,zaf 209 10 zac (.slice a2 (p++[cu]).length c2) (zcj T.cells (p++[cu])),zaf 4 1 zhS (.slice (some ⟨bk,0,none⟩) 32 32) (zk0 (p++[cu]))]:=hS;(conv=>whnf);refine hS.ld 0 rfl rfl ?_;(conv=>whnf);refine brD (fun h7=>?_) (fun h7=>?_)
     ·have hc0:(cu+1) % 32=0:=by omega
      rw [hc0] at hs2 hstep;(conv=>whnf);refine hS.st 0 rfl (lbO rfl) rfl (fun w' hS=>?_);(conv=>whnf);refine LoopE.mk ⟨_,[(4,_),(3,_),(0,_)],?_,⟨rfl,rfl,rfl,trivial⟩,⟨j+1,0,(p++[cu]),_,rfl,rfl,hp9,by omega,hstep,hs2,⟨a2,c2,rfl⟩,hS⟩⟩;omega
     ·have hc0:(cu+1) % 32=cu+1:=by omega
      rw [hc0] at hs2 hstep;(conv=>whnf);refine LoopE.mk ⟨_,[(4,_),(3,_),(0,_)],?_,⟨rfl,rfl,rfl,trivial⟩,⟨j+1,cu+1,(p++[cu]),_,rfl,rfl,hp9,by omega,hstep,hs2,⟨a2,c2,rfl⟩,hS⟩⟩;omega
   ·have h8:¬ p.length < 8:=by omega
    rw [zdo h8] at hs2;obtain rfl:X.picks T.cells=p:=by rw [hpk,← hs2]
    have hcz:(X.next T.cells).cursor=cu:=by rw [hnx,← hs2]
    have hP:=zfs T.cells hc;have hlt:=hP.lt;have hpl:=hP.len;have hnt:(X.next T.cells).told=zaz T.cells X.told (X.picks T.cells):=rfl;have hnx2:X.next T.cells=⟨zaz T.cells X.told (X.picks T.cells),cu⟩:=by rw [hnx,← hs2]
    rw [hnx2];generalize X.picks T.cells=p at *;(conv=>whnf)
    refine zaL tabOk (fun σ w' q=>∃ i:Nat,σ=[(7,.int .i64 i),(3,.slice a' p.length c'),(0,.pointer (some ⟨bl,0,none⟩))]∧q=8 - i∧i≤8∧St w (fun b=>b=bl∨b=gl) w' (znD bt bl gl cl bk 32 ⟨zaz T.cells X.told (p.take i),cu⟩ (.slice a' p.length c') T.cells p))
     (σ':=[(7,.int .i64 ((0:Nat):Int)),(3,.slice a' p.length c'),(0,.pointer (some ⟨bl,0,none⟩))]) (n:=8) ⟨rfl,rfl,rfl,trivial⟩ ⟨0,rfl,rfl,Nat.zero_le _,hS⟩ ?_
    clear hS;rintro _ w1 q ⟨i,rfl,rfl,hi,hS⟩;unfold znD at hS;dsimp only at hS;(conv=>whnf);refine brD (fun h6=>?_) (fun h6=>?_)
    ·have hi8:i < p.length:=by omega
     obtain ⟨k,hk,hok⟩:=zsv hO hlt hi8;have hk32:=hlt k (List.mem_of_getElem? hk);have hlen:=(zbP T.cells (p.take i) X.told).trans ht;obtain ⟨u,hu⟩:∃ u,(zaz T.cells X.told (p.take i))[k]?=some u:=⟨_,List.getElem?_eq_getElem (by omega)⟩
     have hstep:(zaz T.cells X.told (p.take i)).set k (zfh T.cells k)=zaz T.cells X.told (p.take (i+1)):=by
      rw [List.take_add_one,hk];exact (zdm _ _ _ _).symm
     conv=>whnf
     (refine zah tabOk mixed [] ((· = gl)) [0,1,2,3,4,5,6,7,8,9,10,11,12,13,14,15] (by kernel_rfl) ?_;rintro w1 rfl;replace hS:=hS.drew)
     obtain ⟨bo,oo,x,hx,_,rfl,_,hcx⟩:=(zap (G:=fun _=>True) zau (hS.get 2 rfl) fun _ _=>trivial).at (k:=i) hi8;obtain ⟨hx1,hx2⟩:=hok x hx;rw [hx2] at hstep
     have hbo:¬ bo=gl:=by
      rintro rfl;have:=zaG zaX hS.apart (i:=1) (j:=2) rfl rfl (by decide) bo (by simp [zaf,own,Value.ownBlock]);simp [zaf,own,Value.ownBlock] at this
     repeat' ((conv=>whnf);first|refine ixO ?_|refine hS.ldF 0 rfl rfl hL1 ?_|refine ldFc (hcx.one 0 rfl) hbo ?_|refine ldFc (hcx.one 1 rfl) hbo ?_)
     (conv=>whnf);refine hS.setL zc2 1 (k:=k) (x:=x.ver) rfl hu (by omega) rfl (fun w' hx' hS=>?_);refine KeepC.mk hx' ?_
     replace hS:St w (fun b=>b=bl∨b=gl) w' (znD bt bl gl cl bk 32 ⟨zaz T.cells X.told (p.take (i+1)),cu⟩ (.slice (some ⟨bo,oo,none⟩) p.length c') T.cells p):=by
      rw [← hstep];exact hS
     (conv=>whnf);refine rgO ?_;(conv=>whnf);refine LoopE.mk ⟨_,[(7,.int .i64 ((i+1:Nat):Int)),(3,_),(0,_)],?_,⟨rfl,rfl,rfl,trivial⟩,⟨i+1,rfl,rfl,by omega,hS⟩⟩;omega
    ·obtain rfl:i=8:=by omega
     rw [List.take_of_length_le (by omega)] at hS;repeat' ((conv=>whnf);first|apply RetC.mk|refine rgO ?_|refine ixO ?_|(first|apply brD|apply zad|apply brN|apply brI)<;>(intro))
     refine ⟨⟨a',c',rfl⟩,hS.ext,⟨hL1,hS.blk 0 rfl,hS.get 1 rfl⟩,hS.get 2 rfl,fun q hq=>?_⟩;obtain ⟨h1,h2⟩:=hS.may _ (List.mem_of_getElem? (i:=2) rfl) q (by simpa [zaf,own] using hq);refine ⟨h1.resolve_left ?_,h2⟩;rintro (rfl|rfl)
     ·exact hS.ownBNe 0 2 rfl rfl (by decide) hq
     ·have:=zaG zaX hS.apart (i:=1) (j:=2) rfl rfl (by decide) q (by simp [zaf,own,Value.ownBlock]);exact this (by simpa [zaf,own] using hq)
 ·obtain rfl:k=32:=by omega
  have hp32:=zeb T.cells X.told 32;have hsw:Swept X.cursor 0 X.cursor (za6 T.cells X.told 32):=⟨by omega,fun i hi=>absurd hi (Nat.not_lt_zero _)⟩;(conv=>whnf)
  refine zaL tabOk (fun σ w' q=>∃ (j cu:Nat) (p:List Nat) (ov:Value),σ=[(4,.slice (some ⟨bk,0,none⟩) 32 32),(3,ov),(0,.pointer (some ⟨bl,0,none⟩))]∧q=32 - j∧p.length≤8∧cu < 32∧Swept X.cursor j cu p∧zct (32 - j) cu p=z2∧(∃ a' c',ov = .slice a' p.length c')∧St w (fun b=>b=bl∨b=gl) w' (znD bt bl gl cl bk 32 ⟨X.told,cu⟩ ov T.cells p))
   (σ':=[(4,.slice (some ⟨bk,0,none⟩) 32 32),(3,.slice a' (za6 T.cells X.told 32).length c'),(0,.pointer (some ⟨bl,0,none⟩))]) (n:=32) ⟨rfl,rfl,rfl,trivial⟩ ⟨0,X.cursor,za6 T.cells X.told 32,_,rfl,rfl,hp32,hc,hsw,hz2,⟨a',c',rfl⟩,hS⟩ ?_
  clear hS hp32 hsw hp8 hps;rintro _ w1 q ⟨j,cu,p,_,rfl,rfl,hp8,hcu,hsw,hs2,⟨a',c',rfl⟩,hS⟩;unfold znD at hS;dsimp only at hS;(conv=>whnf);refine brD (fun h5=>?_) (fun h5=>?_)
  ·have h8:p.length < 8:=by omega
   have hj:=hsw.few hc h8;have hstep:=hsw.step;rw [show 32 - j=(32 - (j+1))+1 by omega,zdt h8] at hs2;obtain ⟨by_,oy,y,hy,_,ey,_,hcy⟩:=(zap (G:=fun _=>True) zpU (hS.get 3 rfl) fun _ _=>trivial).at hcu;cases ey;obtain rfl:=Option.some.inj (hy.symm.trans (zd3 hcu));(conv=>whnf);refine hS.ld 0 rfl rfl ?_;(conv=>whnf);refine ixO ?_;(conv=>whnf);refine ldc (hcy.one 0 rfl) ?_;by_cases hcp:cu∈p
   ·rw [decide_eq_true hcp];rw [if_pos hcp] at hs2 hstep;(conv=>whnf);refine rgO ?_;(conv=>whnf);refine hS.st 0 rfl (lbO rfl) rfl (fun w' hS=>?_);replace hS:St w (fun b=>b=bl∨b=gl) w' [blk bl 294 [.pointer (some ⟨bt,0,none⟩),.slice (some ⟨gl,0,none⟩) 32 cl,.int .i64 ((cu:Int)+1)],zaf 3 1 zcw (.slice (some ⟨gl,0,none⟩) 32 cl) X.told,zaf 209 10 zac (.slice a' p.length c') (zcj T.cells p),zaf 4 1 zhS (.slice (some ⟨bk,0,none⟩) 32 32) (zk0 p)]:=hS;(conv=>whnf);refine hS.ld 0 rfl rfl ?_;(conv=>whnf);refine brD (fun h7=>?_) (fun h7=>?_)
    ·have hc0:(cu+1) % 32=0:=by omega
     rw [hc0] at hs2 hstep;(conv=>whnf);refine hS.st 0 rfl (lbO rfl) rfl (fun w' hS=>?_);(conv=>whnf);refine LoopE.mk ⟨_,[(4,_),(3,_),(0,_)],?_,⟨rfl,rfl,rfl,trivial⟩,⟨j+1,0,p,_,rfl,rfl,hp8,by omega,hstep,hs2,⟨a',c',rfl⟩,hS⟩⟩;omega
    ·have hc0:(cu+1) % 32=cu+1:=by omega
     rw [hc0] at hs2 hstep;(conv=>whnf);refine LoopE.mk ⟨_,[(4,_),(3,_),(0,_)],?_,⟨rfl,rfl,rfl,trivial⟩,⟨j+1,cu+1,p,_,rfl,rfl,hp8,by omega,hstep,hs2,⟨a',c',rfl⟩,hS⟩⟩;omega
   ·rw [decide_eq_false hcp];rw [if_neg hcp] at hs2 hstep;have hp9:(p++[cu]).length≤8:=by simp;omega
    obtain ⟨x,hx⟩:∃ x,T.cells[cu]?=some x:=⟨_,List.getElem?_eq_getElem (by omega)⟩;have hcell:=zd2 hx;have hcx:CellsAt w g (0+Int.toNat (cu:Int) * 10) (zac x):=by rw [Nat.zero_add];exact zcA hT hx
    conv=>whnf
    repeat' ((conv=>whnf);first|apply RetC.mk|refine rgO ?_|refine ixO ?_|refine ixO ?_|refine hS.ld 0 rfl rfl ?_|refine hS.ldr (zbQ hT) htb ?_|refine hS.lar (l:=zac x) rfl hcx htg ?_|(first|apply brD|apply zad|apply brN|apply brI)<;>(intro))
    refine hS.lit (cs:=zac x) Tryz.underlying131 (sz:=10) (by kernel_rfl) (z:=.agg (zac ⟨0,0,zay⟩).toArray) (by kernel_rfl) rfl rfl (by rfl) (fun bz w' hbz hS=>?_);(conv=>whnf);refine hS.appS zau 2 (ys:=[x]) (G:=fun _=>True) Tryz.underlying131 (bytes:=80) (by kernel_rfl) (z:=.agg (zac ⟨0,0,zay⟩).toArray) (by kernel_rfl) rfl rfl (Slc.of_blk zau (hS.blk 4 rfl) rfl (by simp) (fun _ _=>trivial) rfl) (by unfold maxLen;rw [zaF];omega) (by rw [zaF];omega) (fun a2 c2 w' hS=>?_);replace hS:=hS.keep 4;have hoc:zcj T.cells p++[x]=zcj T.cells (p++[cu]):=by simp [zcj,hcell]
    rw [zaF,hoc] at hS;rw [zaF];(conv=>whnf);refine ixO ?_;(conv=>whnf);refine hS.setL zpU 3 (k:=cu) (x:=true) rfl (zd3 (by omega)) (by simp) rfl (fun w' _ hS=>?_);replace hS:St w (fun b=>b=bl∨b=gl) w' [_,_,_,zaf 4 1 zhS (.slice (some ⟨bk,0,none⟩) 32 32) ((zk0 p).set cu true)]:=hS;rw [zjm (by omega)] at hS;have hq:p.length+1=(p++[cu]).length:=by simp
    rw [hq] at hS ⊢;(conv=>whnf);refine rgO ?_;(conv=>whnf);refine hS.st 0 rfl (lbO rfl) rfl (fun w' hS=>?_);replace hS:St w (fun b=>b=bl∨b=gl) w' [blk bl 294 [.pointer (some ⟨bt,0,none⟩),.slice (some ⟨gl,0,none⟩) 32 cl,.int .i64 ((cu:Int)+1)],zaf 3 1 zcw (.slice (some ⟨gl,0,none⟩) 32 cl) X.told,zaf 209 10 zac (.slice a2 (p++[cu]).length c2) (zcj T.cells (p++[cu])),zaf 4 1 zhS (.slice (some ⟨bk,0,none⟩) 32 32) (zk0 (p++[cu]))]:=hS;(conv=>whnf);refine hS.ld 0 rfl rfl ?_;(conv=>whnf);refine brD (fun h7=>?_) (fun h7=>?_)
    ·have hc0:(cu+1) % 32=0:=by omega
     rw [hc0] at hs2 hstep;(conv=>whnf);refine hS.st 0 rfl (lbO rfl) rfl (fun w' hS=>?_);(conv=>whnf);refine LoopE.mk ⟨_,[(4,_),(3,_),(0,_)],?_,⟨rfl,rfl,rfl,trivial⟩,⟨j+1,0,(p++[cu]),_,rfl,rfl,hp9,by omega,hstep,hs2,⟨a2,c2,rfl⟩,hS⟩⟩;omega
    ·have hc0:(cu+1) % 32=cu+1:=by omega
     rw [hc0] at hs2 hstep;(conv=>whnf);refine LoopE.mk ⟨_,[(4,_),(3,_),(0,_)],?_,⟨rfl,rfl,rfl,trivial⟩,⟨j+1,cu+1,(p++[cu]),_,rfl,rfl,hp9,by omega,hstep,hs2,⟨a2,c2,rfl⟩,hS⟩⟩;omega
  ·have h8:¬ p.length < 8:=by omega
   rw [zdo h8] at hs2;obtain rfl:X.picks T.cells=p:=by rw [hpk,← hs2]
   have hcz:(X.next T.cells).cursor=cu:=by rw [hnx,← hs2]
   have hP:=zfs T.cells hc;have hlt:=hP.lt;have hpl:=hP.len;have hnt:(X.next T.cells).told=zaz T.cells X.told (X.picks T.cells):=rfl;have hnx2:X.next T.cells=⟨zaz T.cells X.told (X.picks T.cells),cu⟩:=by rw [hnx,← hs2]
   rw [hnx2];generalize X.picks T.cells=p at *;(conv=>whnf)
   refine zaL tabOk (fun σ w' q=>∃ i:Nat,σ=[(7,.int .i64 i),(3,.slice a' p.length c'),(0,.pointer (some ⟨bl,0,none⟩))]∧q=8 - i∧i≤8∧St w (fun b=>b=bl∨b=gl) w' (znD bt bl gl cl bk 32 ⟨zaz T.cells X.told (p.take i),cu⟩ (.slice a' p.length c') T.cells p))
    (σ':=[(7,.int .i64 ((0:Nat):Int)),(3,.slice a' p.length c'),(0,.pointer (some ⟨bl,0,none⟩))]) (n:=8) ⟨rfl,rfl,rfl,trivial⟩ ⟨0,rfl,rfl,Nat.zero_le _,hS⟩ ?_
   clear hS;rintro _ w1 q ⟨i,rfl,rfl,hi,hS⟩;unfold znD at hS;dsimp only at hS;(conv=>whnf);refine brD (fun h6=>?_) (fun h6=>?_)
   ·have hi8:i < p.length:=by omega
    obtain ⟨k,hk,hok⟩:=zsv hO hlt hi8;have hk32:=hlt k (List.mem_of_getElem? hk);have hlen:=(zbP T.cells (p.take i) X.told).trans ht;obtain ⟨u,hu⟩:∃ u,(zaz T.cells X.told (p.take i))[k]?=some u:=⟨_,List.getElem?_eq_getElem (by omega)⟩
    have hstep:(zaz T.cells X.told (p.take i)).set k (zfh T.cells k)=zaz T.cells X.told (p.take (i+1)):=by
     rw [List.take_add_one,hk];exact (zdm _ _ _ _).symm
    conv=>whnf
    (refine zah tabOk mixed [] ((· = gl)) [0,1,2,3,4,5,6,7,8,9,10,11,12,13,14,15] (by kernel_rfl) ?_;rintro w1 rfl;replace hS:=hS.drew)
    obtain ⟨bo,oo,x,hx,_,rfl,_,hcx⟩:=(zap (G:=fun _=>True) zau (hS.get 2 rfl) fun _ _=>trivial).at (k:=i) hi8;obtain ⟨hx1,hx2⟩:=hok x hx;rw [hx2] at hstep
    have hbo:¬ bo=gl:=by
     rintro rfl;have:=zaG zaX hS.apart (i:=1) (j:=2) rfl rfl (by decide) bo (by simp [zaf,own,Value.ownBlock]);simp [zaf,own,Value.ownBlock] at this
    repeat' ((conv=>whnf);first|refine ixO ?_|refine hS.ldF 0 rfl rfl hL1 ?_|refine ldFc (hcx.one 0 rfl) hbo ?_|refine ldFc (hcx.one 1 rfl) hbo ?_)
    (conv=>whnf);refine hS.setL zc2 1 (k:=k) (x:=x.ver) rfl hu (by omega) rfl (fun w' hx' hS=>?_);refine KeepC.mk hx' ?_
    replace hS:St w (fun b=>b=bl∨b=gl) w' (znD bt bl gl cl bk 32 ⟨zaz T.cells X.told (p.take (i+1)),cu⟩ (.slice (some ⟨bo,oo,none⟩) p.length c') T.cells p):=by
     rw [← hstep];exact hS
    (conv=>whnf);refine rgO ?_;(conv=>whnf);refine LoopE.mk ⟨_,[(7,.int .i64 ((i+1:Nat):Int)),(3,_),(0,_)],?_,⟨rfl,rfl,rfl,trivial⟩,⟨i+1,rfl,rfl,by omega,hS⟩⟩;omega
   ·obtain rfl:i=8:=by omega
    rw [List.take_of_length_le (by omega)] at hS;repeat' ((conv=>whnf);first|apply RetC.mk|refine rgO ?_|refine ixO ?_|(first|apply brD|apply zad|apply brN|apply brI)<;>(intro))
    refine ⟨⟨a',c',rfl⟩,hS.ext,⟨hL1,hS.blk 0 rfl,hS.get 1 rfl⟩,hS.get 2 rfl,fun q hq=>?_⟩;obtain ⟨h1,h2⟩:=hS.may _ (List.mem_of_getElem? (i:=2) rfl) q (by simpa [zaf,own] using hq);refine ⟨h1.resolve_left ?_,h2⟩;rintro (rfl|rfl)
    ·exact hS.ownBNe 0 2 rfl rfl (by decide) hq
    ·have:=zaG zaX hS.apart (i:=1) (j:=2) rfl rfl (by decide) q (by simp [zaf,own,Value.ownBlock]);exact this (by simpa [zaf,own] using hq)
end
end Go.Proofs.YtogjajjdaoihdaaGreatDoor

namespace Go.Proofs.YtogjajjdaoihdaaGreatDoor
set_option maxRecDepth 20000
open Go Ev Go.Instr

theorem ck (e:Bool) (a b:Int) (w:World):(checkKey e 10000 424 (.agg #[.int .i64 a,.int .i64 b])).run Tryz.prog w = .ok () w:=by cases e<;>kernel_rfl

theorem ztR (d:Nat) (a b:Int) (w:World):(Op.equalIn (d+1) 3 (.int .i64 a) (.int .i64 b)).run Tryz.prog w = .ok (a == b) w:=by
 have hu:=Tryz.underlying3;simp [Op.equalIn,underlying,hu]
theorem zmq (i:Nat) (a b:Int) (v:Value) (h:[Value.int .i64 a,Value.int .i64 b][i]?=some v) (w:World):(part 3 #[.int .i64 a,.int .i64 b] i).run Tryz.prog w = .ok v w :=
 zeX (cs:=[.int .i64 a,.int .i64 b]) ⟨_,Tryz.underlying3⟩ h (by kernel_rfl) w
theorem zu3 (a b c d:Int) (w:World):(Op.equalIn 10000 424 (.agg #[.int .i64 a,.int .i64 b]) (.agg #[.int .i64 c,.int .i64 d])).run Tryz.prog w = .ok (a == c&&b == d) w:=by
 have hS:Tryz.prog.underlying 424=some (.struct (Tryz.prog.fieldsOf 424)):=by kernel_rfl
 rw [show (10000:Nat)=9999+1 from rfl,run_equalIn_struct w 9999 424 _ _ hS (by kernel_rfl)];simp only [Program.fieldsOf,Tryz.underlying424];have p0:=zmq 0 a b (.int .i64 a) rfl;have p1:=zmq 1 a b (.int .i64 b) rfl;have q0:=zmq 0 c d (.int .i64 c) rfl;have q1:=zmq 1 c d (.int .i64 d) rfl;have r:∀ x y w,(Op.equalIn 9999 3 (.int .i64 x) (.int .i64 y)).run Tryz.prog w = .ok (x == y) w:=fun x y w=>ztR 9998 x y w
 simp only [Op.eqFields, show ("proto" : String) ≠ "_" by decide, show ("state" : String) ≠ "_" by decide, ne_eq, not_false_eq_true, if_true, Sem.run_bind, p0, p1, q0, q1, Result.andThen_ok, r]
 cases h1:a == c<;>cases h2:b == d<;>simp [Sem.run_bind,p0,p1,q0,q1,r,h2]

def zsq (k:(Int × Int × Int) × Nat):MapEntry:=⟨.agg #[.int .i64 k.1.1,.int .i64 k.1.2.1],.int .i64 k.1.2.2,k.2⟩
def ziN (p s:Int):List ((Int × Int × Int) × Nat)→Nat→Option (Nat × Value)
 | [],_=>none
 | ((a,b,v),_)::r,n=>match p == a&&s == b with|true=>some (n,.int .i64 v)|false=>ziN p s r (n+1)
def zlH (p s:Int):List ((Int × Int × Int) × Nat)→Int
 | []=>0
 | ((a,b,v),_)::r=>if p=a∧s=b then v else zlH p s r
def zl9 (l:List ((Int × Int × Int) × Nat)) (c:Nat):Obj:=.map (l.map zsq).toArray c

theorem zir (p s:Int):∀ (l:List ((Int × Int × Int) × Nat)) (n:Nat),ziN p s l n=none∧zlH p s l=0∨∃ i,ziN p s l n=some (i,.int .i64 (zlH p s l))
 | [],n=>.inl ⟨rfl,rfl⟩
 | ((a,b,v),c)::r,n=>by
  unfold ziN zlH;cases h:p == a&&s == b
  ·rw [if_neg (by rintro ⟨rfl,rfl⟩;simp at h)];exact zir p s r (n+1)
  ·rw [if_pos (by simpa using h)];exact .inr ⟨_,rfl⟩

theorem zgg (p s:Int) (w:World):∀ (l:List ((Int × Int × Int) × Nat)) (n:Nat),(findAsking 424 (.agg #[.int .i64 p,.int .i64 s]) (l.map zsq) n).run Tryz.prog w = .ok (ziN p s l n) w
 | [],n=>rfl
 | ((a,b,v),c)::r,n=>by
  rw [List.map_cons,findAsking,Sem.run_bind];rw [show Op.equal 424 (.agg #[.int .i64 p,.int .i64 s]) (zsq ((a,b,v),c)).key=Op.equalIn 10000 424 (.agg #[.int .i64 p,.int .i64 s]) (.agg #[.int .i64 a,.int .i64 b]) from rfl,zu3,Result.andThen_ok];unfold ziN;cases p == a&&s == b
  ·exact zgg p s w r (n+1)
  ·rfl

theorem zjX (p s:Int) (w:World) (l:List ((Int × Int × Int) × Nat)):(findKey 424 (.agg #[.int .i64 p,.int .i64 s]) (l.map zsq)).run Tryz.prog w = .ok (ziN p s l 0) w:=by
 have hu:=Tryz.underlying424;have h0:(findKey 424 (.agg #[.int .i64 p,.int .i64 s]) (l.map zsq))=(do match findNow (← underlying 424) (.agg #[.int .i64 p,.int .i64 s]) (l.map zsq) 0 with|some r=>pure r|none=>findAsking 424 (.agg #[.int .i64 p,.int .i64 s]) (l.map zsq)):=rfl;rw [h0,Sem.run_bind,run_underlying hu,Result.andThen_ok];cases l with
 | nil=>rfl
 | cons x r =>
  obtain ⟨⟨a,b,v⟩,c⟩:=x;exact zgg p s w (((a,b,v),c)::r) 0

theorem ztk {r:Nat}{w:World}{l:List ((Int × Int × Int) × Nat)}{clock:Nat}(p s:Int) (hb:w.heap[r]?=some (zl9 l clock)) :
  (Instr.lookup 421 (.map (some r)) (.agg #[.int .i64 p,.int .i64 s]) false).run Tryz.prog w = .ok (.int .i64 (zlH p s l)) w:=by
 have hm:=Tryz.underlying421;have hg:(getObj r).run Tryz.prog w = .ok (zl9 l clock) w:=by simp [getObj,Sem.run,hb,zl9]
 have hz:(zeroValue 3).run Tryz.prog w = .ok (.int .i64 0) w:=by kernel_rfl
 have hk:=zjX p s w l;unfold zl9 at hg;simp only [Instr.lookup,Sem.run_bind,run_underlying hm,Result.andThen_ok,hg,Sem.run_pure,ck,hk];rcases zir p s l 0 with ⟨h1,h2⟩ | ⟨i,h1⟩
 ·simp [h1,h2,hz,Sem.run_bind]
 ·simp [h1]

theorem zt4 {r:Nat}{w:World}{l:List ((Int × Int × Int) × Nat)}{clock:Nat}(a b v:Int) (hb:w.heap[r]?=some (zl9 l clock)) (hn:ziN a b l 0=none) :
  (Instr.mapUpdate 421 (.map (some r)) (.agg #[.int .i64 a,.int .i64 b]) (.int .i64 v)).run Tryz.prog w = .ok () { w with heap:=w.heap.setIfInBounds r (zl9 (l++[((a,b,v),clock)]) (clock+1)) }:=by
 have hg:(getObj r).run Tryz.prog w = .ok (zl9 l clock) w:=by simp [getObj,Sem.run,hb,zl9]
 have hm:=Tryz.underlying421;unfold zl9 at hg;have hk:=zjX a b w l;rw [hn] at hk;simp only [Instr.mapUpdate,Sem.run_bind,run_underlying hm,Result.andThen_ok,hg,ck,hk];simp [setObj,Sem.run,hb,zl9,zsq]

def zsC (r:Nat) (l:List ((Int × Int × Int) × Nat)) (c:Nat):Ent:=⟨[r],fun w=>w.heap[r]?=some (zl9 l c)⟩
theorem zis (r:Nat) (l:List ((Int × Int × Int) × Nat)) (c:Nat):(zsC r l c).Local:=fun w w' h hb=>by
 have:=h r (by simp [zsC]);simpa [zsC,this] using hb

theorem Ev.St.mkMap {w0 w:World}{H:List Ent}{k:Value→World→Prop}(h:St w0 No w H) (hk:∀ r w',w0.heap.size≤r→St w0 No w' (H++[zsC r [] 0])→k (.map (some r)) w'):RunC Tryz.prog (Instr.makeMap 421 none) w k:=by
 refine ⟨.map (some w.heap.size),{ w with heap:=w.heap.push (.map #[] 0) },rfl,hk _ _ h.ext.size (h.made ⟨rfl,rfl,rfl,by simp,fun i hi _=>?_⟩ (zis _ _ _) ?_ ?_)⟩
 ·show (w.heap.push _)[i]?=_;rw [Array.getElem?_push,if_neg (by omega)]
 ·show (w.heap.push _)[w.heap.size]?=_;rw [Array.getElem?_push,if_pos rfl];rfl
 ·intro b hb;obtain rfl:b=w.heap.size:=by simpa [zsC] using hb
  simp
theorem Ev.St.ins {w0 w:World}{H:List Ent}(h:St w0 No w H) (i:Nat) {r:Nat}{l:List ((Int × Int × Int) × Nat)}{c:Nat}{a b v:Int}{k:World→Prop}(hi:H[i]?=some (zsC r l c)) (hn:ziN a b l 0=none)
  (hk:∀ w',Ext (· = r) w w'→St w0 No w' (H.set i (zsC r (l++[((a,b,v),c)]) (c+1)))→k w'):RunU Tryz.prog (Instr.mapUpdate 421 (.map (some r)) (.agg #[.int .i64 a,.int .i64 b]) (.int .i64 v)) w k:=by
 have hb:w.heap[r]?=some (zl9 l c):=h.get i hi
 have hx:Ext (· = r) w { w with heap:=w.heap.setIfInBounds r (zl9 (l++[((a,b,v),c)]) (c+1)) }:=⟨rfl,rfl,rfl,by simp,fun j hj hs=>by
  have:r≠j:=fun e=>hs e.symm
  simp [this]⟩
 refine ⟨_,zt4 a b v hb hn,hk _ hx (h.upd i hi hx (fun d hd=>by simp [zsC,hd]) (zis _ _ _) ?_ fun d hd=>.inl hd)⟩;have:=(Array.getElem?_eq_some_iff.1 hb).1;show (w.heap.setIfInBounds r _)[r]?=_;simp [this]

def zc4 (p s:Int):Int:=if p=1 then 60 else if p≠2 then 0 else if s=1 then 10 else if s=2 then 100 else if s=3 then 5 else 0
end Go.Proofs.YtogjajjdaoihdaaGreatDoor
