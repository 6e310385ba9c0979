/-
  Texts of this claim, joined: Teller, TellerB, RefTeller, TellL, RefTellN, MapT, Track, Role, Cell, CellP, CellL, NodeS, Node, NodeI.
-/
import Derived.Test.YtggfpjldhglmeaaGreatDoorSidePlaysG
import Derived.Laws.Tables
import Derived.Laws.OwnMore
import Derived.Laws.StructEq
import Derived.Laws.Cover2
set_option linter.unusedSectionVars false
set_option linter.unusedSimpArgs false
set_option linter.unusedVariables false
set_option maxRecDepth 20000
namespace Go.Proofs.YtggfpjldhglmeaaGreatDoor
open Go Tryz
section
open Ev Go.Instr
variable [Gap.Leaps]
variable {H:List bZ}{bT r:Nat}{S:Nat→Prop}{X:j2}{w w0:World}
def p6 (k:Nat × Nat):MapEntry:=⟨.int .i64 (k.1:Int),.bool true,k.2⟩
def x8 (p:Nat):List (Nat × Nat)→Nat→Option (Nat × Value)
 | [],_=>none
 | (a,_)::r,n=>if p=a then some (n,.bool true) else x8 p r (n+1)
theorem L1 {p:Nat}:∀{l:List (Nat × Nat)} {n:Nat},p ∉ l.map Prod.fst→x8 p l n=none
 | [],_,_=>rfl
 | (a,_)::r,n,h=>by
  simp only[List.map_cons,List.mem_cons,not_or]at h;unfold x8;rw[if_neg h.1];exact L1 h.2
theorem Rl {p:Nat}:∀{l:List (Nat × Nat)} {n:Nat},p∈l.map Prod.fst→∃i,x8 p l n=some (i,.bool true)
 | [],_,h=>by simp at h
 | (a,_)::r,n,h=>by
  unfold x8;by_cases hp:p=a
  ·exact⟨n,if_pos hp⟩
  ·rw[if_neg hp];refine Rl ?_;simpa[hp]using h
theorem LB (p:Nat):∀(l:List (Nat × Nat)) (n:Nat),findNow (.int .i64) (.int .i64 (p:Int)) (l.map p6) n=some (x8 p l n)
 | [],_=>rfl
 | (a,c)::r,n=>by
  have ih:=LB p r (n+1);rw[List.map_cons];unfold findNow x8;by_cases hp:p=a
  ·subst hp;simp[sameNow,p6]
  ·have:¬(p:Int)=(a:Int):=by omega
   have h2:sameNow (.int .i64) (.int .i64 (p:Int)) (p6 (a,c)).key=some false:=by
    simp[sameNow,p6,this]
   rw[h2,if_neg hp];exact ih
theorem Re (p:Nat)(w:World)(l:List (Nat × Nat)):(findKey 3 (.int .i64 (p:Int)) (l.map p6)).run prog w=.ok (x8 p l 0) w:=by
 have hu:=underlying3;have h0:(findKey 3 (.int .i64 (p:Int)) (l.map p6))=(do match findNow (←underlying 3) (.int .i64 (p:Int)) (l.map p6) 0 with|some r=>pure r|none=>findAsking 3 (.int .i64 (p:Int)) (l.map p6)):=rfl;rw[h0,Sem.run_bind,run_underlying hu,Result.andThen_ok,LB];rfl
theorem US (e:Bool)(a:Int)(w:World):(checkKey e 10000 3 (.int .i64 a)).run prog w=.ok () w:=by cases e<;>kernel_rfl
def rG (r:Nat)(ks:List Nat):bZ:=⟨[r],fun w=>∃(l:List (Nat × Nat)) (c:Nat),l.map Prod.fst=ks∧w.heap[r]?=some (.map (l.map p6).toArray c)⟩
theorem QT (r:Nat)(ks:List Nat):(rG r ks).Local:=fun w w' h hb=>by
 have:=h r (by simp[rG]);simpa[rG,this]using hb
theorem zzk {ks:List Nat}(p:Nat)(h:(rG r ks).holds w):(Instr.lookup 343 (.map (some r)) (.int .i64 (p:Int)) false).run prog w=.ok (.bool (decide (p∈ks))) w:=by
 obtain⟨l,c,rfl,hb⟩:=h;have hm:=underlying343;have hg:(getObj r).run prog w=.ok (.map (l.map p6).toArray c) w:=by simp[getObj,Sem.run,hb]
 have hz:(zeroValue 4).run prog w=.ok (.bool false) w:=zk;have hk:=Re p w l;simp only[Instr.lookup,Sem.run_bind,run_underlying hm,Result.andThen_ok,hg,Sem.run_pure,US,hk];by_cases hp:p∈l.map Prod.fst
 ·obtain⟨i,h1⟩:=Rl (n:=0) hp;rw[decide_eq_true hp];simp[h1]
 ·rw[decide_eq_false hp];simp[L1 hp,hz]
theorem Ux (e:Bool)(a:Int):Gap.Plain prog (checkKey e 10000 3 (.int .i64 a)):=by cases e<;>exact of_eq_true zk
theorem Rc (p:Nat)(l:List (Nat × Nat)):Gap.Plain prog (findKey 3 (.int .i64 (p:Int)) (l.map p6)):=by
 unfold findKey;refine Gap.aO underlying3 ?_;rw[LB];exact Gap.fL _
theorem zx4 {ks:List Nat}(p:Nat)(h:(rG r ks).holds w):Gap.Quiet prog (Instr.lookup 343 (.map (some r)) (.int .i64 (p:Int)) false) w (.bool (decide (p∈ks))) w:=by
 have hr:=zzk p h;obtain⟨l,c,rfl,hb⟩:=h;exact QS underlying343 hb (Ux _ _) (Rc p l) hr
theorem Ev.St.DY (h:St w0 S w H)(i:Nat){r:Nat}{ks:List Nat}{p:Nat}{k:Value→World→Prop}(hi:H[i]?=some (rG r ks))(hk:k (.bool (decide (p∈ks))) w) :
  dy prog (Instr.lookup 343 (.map (some r)) (.int .i64 (p:Int)) false) w k:=⟨.inl ⟨_,_,zx4 p (h.get i hi),hk⟩⟩
theorem Ev.St.z9 {k:Value→World→Prop}(h:St w0 S w H)(hk:∀r w',w0.heap.size≤r→St w0 S w' (H++[rG r []])→k (.map (some r)) w'):dy prog (Instr.makeMap 343 none) w k:=by
 refine .kR (Gap.jd _ _) fun gn gd=>?_
 replace h:=h.ed gn gd;generalize Gap.wgap w gn gd=w at h;refine⟨.map (some w.heap.size),{ w with heap:=w.heap.push (.map #[] 0) },rfl,hk _ _ h.ext.size (h.made ⟨rfl,rfl,rfl,by simp,fun i hi _=>?_⟩ (QT _ _) ?_ ?_)⟩
 ·show(w.heap.push _)[i]?=_;rw[Array.getElem?_push,if_neg zo]
 ·refine⟨[],0,rfl,?_⟩;show(w.heap.push _)[w.heap.size]?=_;rw[Array.getElem?_push,if_pos rfl];rfl
 ·intro b hb;obtain rfl:b=w.heap.size:=by simpa[rG]using hb
  simp
theorem Ev.St.Kl (h:St w0 S w H)(i:Nat){r:Nat}{ks:List Nat}{p:Nat}{k:World→Prop}(hi:H[i]?=some (rG r ks))(hn:p ∉ ks)
  (hk:∀w',St w0 S w' (H.set i (rG r (ks++[p])))→k w'):pg prog (Instr.mapUpdate 343 (.map (some r)) (.int .i64 (p:Int)) (.bool true)) w k:=by
 obtain⟨l,c,rfl,hb⟩:=h.get i hi;have hm:=underlying343;have hg:(getObj r).run prog w=.ok (.map (l.map p6).toArray c) w:=by simp[getObj,Sem.run,hb]
 have oS:=Re p w l;rw[L1 hn]at oS
 have cm:(Instr.mapUpdate 343 (.map (some r)) (.int .i64 (p:Int)) (.bool true)).run prog w=.ok () { w with heap:=w.heap.setIfInBounds r (.map ((l++[(p,c)]).map p6).toArray (c+1)) }:=by
  simp only[Instr.mapUpdate,Sem.run_bind,run_underlying hm,Result.andThen_ok,hg,US,oS];simp[setObj,Sem.run,hb,p6]
 have hx:Ext (· = r) w { w with heap:=w.heap.setIfInBounds r (.map ((l++[(p,c)]).map p6).toArray (c+1)) }:=⟨rfl,rfl,rfl,by simp,fun j hj hs=>by
  have:r≠j:=fun e=>hs e.symm
  simp[this]⟩
 refine⟨.inl ⟨_,R9 underlying343 hb (Ux _ _) (Rc p l) (fun k'=>?_) cm zi rfl,hk _ (h.upd i hi hx (fun d hd=>by simp[rG,hd]) (QT _ _) ⟨l++[(p,c)],c+1,by simp,?_⟩ fun d hd=>.inl hd)⟩⟩
 ·unfold keyThatStays;split
  ·trivial
  ·exact fun n=>trivial
 have:=(Array.getElem?_eq_some_iff.1 hb).1;show(w.heap.setIfInBounds r _)[r]?=_;simp[this]
def i6 (bT:Nat)(X:j2):List Value:=.pointer (some ⟨bT,0,none⟩)::(X.told.flatMap eY++[.int .i64 (X.bK:Int)])
theorem MR (h:X.told.length=32):(i6 bT X).length=34:=by
 simp only[i6,List.length_cons,List.length_append,gU kU,h,List.length_nil]
theorem zu6 {k:Nat}{v:Int}(h:X.told[k]?=some v):(i6 bT X)[1+k]?=some (.int .i64 v):=by
 have:=AG kU (j:=0) h rfl;have lt:=(List.getElem?_eq_some_iff.1 h).1;rw[Nat.add_comm 1];unfold i6;rw[List.getElem?_cons_succ,List.getElem?_append_left (by rw[gU kU];omega)];simpa using this
theorem MQ (h:X.told.length=32):(i6 bT X)[33]?=some (.int .i64 (X.bK:Int)):=by
 unfold i6;rw[List.getElem?_cons_succ,List.getElem?_append_right (by rw[gU kU];omega),gU kU,h];rfl
theorem zxC {k o:Nat}{v u:Int}(h:X.told[k]?=some u)(ho:o=1+k):over (i6 bT X) o [.int .i64 v]=i6 bT ⟨X.told.set k v,X.bK⟩:=by
 subst ho;have lt:=(List.getElem?_eq_some_iff.1 h).1;rw[Nat.add_comm 1];unfold i6;rw[Lo];have:=AL [] (X.told.flatMap eY) [.int .i64 (X.bK:Int)] [.int .i64 v] k (by rw[gU kU];simp;omega);simp only[List.nil_append,List.length_nil,Nat.zero_add]at this;have h2:=Eu kU (j:=0) (y:=v) (vs:=[.int .i64 v]) h zi rfl;rw[Nat.mul_one,Nat.add_zero]at h2;rw[this,h2]
theorem S8 {c:Nat}{i:Int}(h:X.told.length=32)(hi:i=(c:Int)):over (i6 bT X) 33 [.int .i64 i]=i6 bT ⟨X.told,c⟩:=by
 subst hi;unfold i6;rw[Lo];have:=AL (X.told.flatMap eY) [.int .i64 (X.bK:Int)] [] [.int .i64 (c:Int)] 0 zi;simp only[gU kU,h,List.append_nil,Nat.mul_one,Nat.add_zero]at this;rw[this];rfl
def sx:j2:=⟨List.replicate 32 0,0⟩
theorem zrT (bT:Nat)(w:World):(Instr.build 260 #[(0,.pointer (some ⟨bT,0,none⟩))]).run prog w=.ok (.agg (i6 bT sx).toArray) w:=zk
theorem zva (bT:Nat)(w:World):aa prog 74 #[.pointer (some ⟨bT,0,none⟩)] w fun v w'=>∃b,v=.pointer (some ⟨b,0,none⟩)∧w.heap.size≤b∧Ext No w w'∧bC w' b 260 (i6 bT sx):=by
 have jc:∀k:Value→Prop,k (.agg (i6 bT sx).toArray)→aB prog (Instr.build 260 #[(0,.pointer (some ⟨bT,0,none⟩))]) k:=fun k hk=>aB.of (zrT bT) hk
 have ho:cM (.agg (i6 bT sx).toArray)=i6 bT sx:=by simp[cM]
 generalize Value.agg (i6 bT sx).toArray=VV at jc ho;refine zN func74 ntmps74 ?_;have hS:=St.start w No;repeat' ((conv=>whnf);first|apply aI.mk|refine jc _ ?_)
 refine hS.new (fun b w' hb hS=>?_);rw[ho]at hS;refine zE ?_;exact⟨b,rfl,hb,hS.ext,hS.blk 0 rfl⟩
def sr (bT bx b1 b3 b4 b5 r:Nat)(X:j2)(lv ov:Value)(l:List ax)(p:List Nat):List bZ :=
 [blk bx 260 (i6 bT X),blk b1 187 [.pointer (some ⟨bx,0,none⟩)],az 218 10 bV lv l,blk b3 138 [lv],rG r p,blk b4 343 [.map (some r)],blk b5 138 [ov],az 218 10 bV ov (fx l p)]
theorem kp (l:List ax)(p:List Nat):(fx l p).length=p.length:=by simp[fx]
section
variable {bx b1 b3 b4 b5 cl:Nat}{al:Option Addr}{ov:Value}  {l:List ax}{p:List Nat}
theorem Ev.St.mY (h:St w0 S w H)(i j:Nat){α:Type}{b:Nat}{t e:TypeId}{cs:List Value}{sz:Nat}{enc:α→List Value}{v:Value}{xs:List α}(hi:H[i]?=some (Ev.blk b t cs))(hj:H[j]?=some (az e sz enc v xs))(cj:i≠j):¬v.ownBlock=some b:=by
 intro hv;have:=mj m4 h.apart hi hj cj b (by simp[Ev.blk]);simp[az,own,hv]at this
theorem TY (k:Nat)(hk:k<32)(hl:l.length=32)(ht:X.told.length=32)(hn:k ∉ p)(h8:p.length<8)(hS:St w0 S w (sr bT bx b1 b3 b4 b5 r X (.slice al 32 cl) ov l p)) :
  aa prog 233 #[.int .i64 (k:Int),.pointer (some ⟨b4,0,none⟩),.pointer (some ⟨b3,0,none⟩),.pointer (some ⟨b1,0,none⟩),.pointer (some ⟨b5,0,none⟩)] w fun _ w'=>∃a' c',St w0 S w' (sr bT bx b1 b3 b4 b5 r ⟨X.told.set k (qG l k),X.bK⟩ (.slice al 32 cl) (.slice a' (p.length+1) c') l (p++[k])):=by
 obtain⟨x,hx⟩:∃x,l[k]?=some x:=⟨_,List.getElem?_eq_getElem zo⟩;obtain⟨u,hu⟩:∃u,X.told[k]?=some u:=⟨_,List.getElem?_eq_getElem zo⟩;have vz:=Hu hx;have cA:=Em hx;rw[vz];unfold sr at hS ⊢;refine zN func233 ntmps233 ?_;refine hS.lD 5 ?_;refine hS.Kl 4 rfl hn (fun w' hS=>?_);have wN:¬b1=bx:=bC.ne (hS.blk 1 rfl) (hS.blk 0 rfl) zd;have Cl:¬b3=bx:=bC.ne (hS.blk 3 rfl) (hS.blk 0 rfl) zd;have VF:¬b3=b5:=fun e=>mj m4 hS.apart (i:=3) (j:=6) rfl rfl zd b3 (by simp[blk]) (by simp[blk,e])
 have VG:¬ov.ownBlock=some b3:=hS.mY 3 7 rfl rfl zd;(conv=>whnf);refine hS.dr [] ((· = bx)) [0,1,2,3,4,5,6,7,8,9,10] fun w1 hS=>?_
 obtain⟨bl,ol,x',aU,_,Cu,_,hc⟩:=(fE (G:=fun _=>True) gF (hS.get 2 rfl) fun _ _=>trivial).at hk;obtain rfl:=Option.some.inj (aU.symm.trans hx);subst Cu;have gY:¬bl=bx:=hS.xA 0 2 rfl rfl zd bl ol rfl;have vd:¬bl=b5:=hS.xA 6 2 rfl rfl zd bl ol rfl
 have yK:¬ov.ownBlock=some bl:=by
  intro hv;have:=mj m4 hS.apart (i:=2) (j:=7) rfl rfl zd bl (by simp[az,own,Value.ownBlock]);simp[az,own,hv]at this
 repeat' ((conv=>whnf);first|refine ao.mk zo zo ?_|refine hS.bU 1 rfl rfl wN ?_|refine hS.bU 3 rfl rfl Cl ?_|refine jr (hc.one 1 rfl) gY ?_)
 refine hS.oD 0 rfl (by rw[MR ht];simp[cM];omega) rfl (fun w2 fC hS=>?_);refine ae.mk fC ?_;have hc:=fC.cells hc gY;have ho:over (i6 bT X) (0+1+Int.toNat (k:Int)*1) (cM (.int .i64 x'.dF))=i6 bT ⟨X.told.set k x'.dF,X.bK⟩:=zxC hu zi;replace hS:St w0 S w2 [blk bx 260 (i6 bT ⟨X.told.set k x'.dF,X.bK⟩),blk b1 187 [.pointer (some ⟨bx,0,none⟩)],az 218 10 bV (.slice (some ⟨bl,ol,none⟩) 32 cl) l,blk b3 138 [.slice (some ⟨bl,ol,none⟩) 32 cl],rG r (p++[k]),blk b4 343 [.map (some r)],blk b5 138 [ov],az 218 10 bV ov (fx l p)]:=by rw[←ho];exact hS
 refine sj aj mixed [0] (fun q=>q=b5∨ov.ownBlock=some q) (.take 1 (.take 2 (.take 3 (.take 4 (.alt 0 (.alt 5 (.alt 6 (.alt 7 .fin .fin) .fin) .fin) (.alt 5 (.alt 0 (.alt 6 (.alt 7 .fin .fin) .fin) .fin) .fin)))))) zk ?_;rintro w1 rfl;replace hS:=hS.drew;replace hc:=(Ext.drawn No w2 (w2.drawn+1)).cells hc id;have XM:¬(b3=b5∨ov.ownBlock=some b3):=fun e=>e.elim VF VG
 have XN:¬(bl=b5∨ov.ownBlock=some bl):=fun e=>e.elim vd yK
 repeat' ((conv=>whnf);first|refine ao.mk zo zo ?_|refine hS.bU 3 rfl rfl XM ?_|refine vD (l:=bV x') rfl hc XN ?_|refine And.intro ?_ ?_)
 all_goals
  repeat' ((conv=>whnf);first|refine hS.lD 6 ?_|refine ae.mk (Ext.refl _ _) ?_|refine ae.mk k3.aF ?_|refine And.intro ?_ ?_|exact trivial|refine hS.fz underlying138 (sz:=10) zk (z:=.agg (bV ⟨0,0,fN⟩).toArray) zk rfl rfl (cs:=bV x') (by rfl) (fun b9 w3 jl k3 hS=>?_))
  refine hS.fR gF 7 (ys:=[x']) (G:=fun _=>True) underlying138 (bytes:=80) zk (z:=.agg (bV ⟨0,0,fN⟩).toArray) zk rfl rfl (bQ.bG gF (hS.blk 8 rfl) rfl zi (fun _ _=>trivial) rfl) (by unfold maxLen;rw[kp];omega) (by rw[kp];omega) (fun a2 c2 w4 xv hS=>?_);refine ae.mk (k3.aF.trans (xv.mono fun q hq=>.inr hq)) ?_;repeat' ((conv=>whnf);first|refine And.intro ?_ ?_|exact trivial)
  refine hS.oD 6 rfl (by simp[cM]) rfl (fun w5 rW hS=>?_);refine ae.mk ((k3.aF.trans (xv.mono fun q hq=>.inr hq)).trans (rW.mono fun q hq=>.inl hq)) ?_;repeat' ((conv=>whnf);first|apply aI.mk|refine And.intro ?_ ?_|exact trivial)
  have zv:fx l p++[x']=fx l (p++[k]):=by simp[fx,cA]
  have il:(fx l p).length+1=p.length+1:=by rw[kp]
  replace hS:=hS.keep 8;refine⟨a2,c2,?_⟩;rw[il,zv]at hS;exact hS
end
end
section
open Ev
variable [Gap.Leaps]
variable {l:List ((Int×Int×Int)×Nat)}{T:aC}{bl bt cl clock gl k r:Nat}{X:j2}{w:World}
section
variable {bT bx:Nat}
theorem LF (hX:bC w bx 260 (i6 bT X))(hT:bC w bT 251 (cP T))(hl:T.cells.length=32)(ht:X.told.length=32)(hc:X.bK<32) :
  aa prog 201 #[.pointer (some ⟨bx,0,none⟩)] w fun v w'=>(∃a' c',v=.slice a' (X.aY T.cells).length c')∧Ext (· = bx) w w'∧bC w' bx 260 (i6 bT (X.next T.cells))∧(az 218 10 bV v (fx T.cells (X.aY T.cells))).holds w'∧m7 w w' v:=by
 have Wh:¬bT=bx:=bC.ne hT hX zd;have Oo:=hX.lt;generalize hL:T.cells=l at hl ⊢;refine zN func201 ntmps201 ?_;have hS:=(St.start w (· = bx)).add (eh bx _ _) hX (by simp[blk];exact Oo) zi;refine hS.new (fun b1 w' _ hS=>?_);refine hS.lD 1 ?_;refine hS.lD 0 ?_;refine(zrS (hS.ext.blk hT Wh) (by rw[hL];exact hl)).mono ?_;rintro v w' ⟨al,cl,rfl,aU,ho,hf⟩;rw[hL]at ho;replace hS:=hS.qp aU ho hf;refine hS.new (fun b3 w' _ hS=>?_);refine hS.sT 3 fun w' hS=>?_
 refine hS.z9 (fun r w' _ hS=>?_);refine hS.new (fun b4 w' _ hS=>?_);refine hS.sT 5 fun w' hS=>?_
 refine hS.new (fun b5 w' _ hS=>?_);have hS:=hS.add (fq (e:=218) (enc:=bV) (sz:=10) (v:=.slice none 0 0) (xs:=[])) (sf _ _ _) (by simp[az,own,Value.ownBlock]) (by simp[az,own,Value.ownBlock]);refine hS.lD 3 ?_
 refine d5 aj (fun σ w' q=>∃(k:Nat) (ov:Value),σ=[(19,.int .i64 k),(18,.int .i64 (32:Nat)),(17,.slice al 32 cl),(6,.func (.func 233) #[] #[.pointer (some ⟨b4,0,none⟩),.pointer (some ⟨b3,0,none⟩),.pointer (some ⟨b1,0,none⟩),.pointer (some ⟨b5,0,none⟩)]),(5,.pointer (some ⟨b5,0,none⟩)),(4,.pointer (some ⟨b4,0,none⟩)),(3,.pointer (some ⟨b3,0,none⟩)),(1,.pointer (some ⟨b1,0,none⟩))]∧q=32-k∧k≤32∧(∃a' c',ov=.slice a' (gB l X.told k).length c')∧St w (· = bx) w' (sr bT bx b1 b3 b4 b5 r ⟨gV l X.told (gB l X.told k),X.bK⟩ (.slice al 32 cl) ov l (gB l X.told k)))
  (σ':=[(19,.int .i64 ((0:Nat):Int)),(18,.int .i64 (32:Nat)),(17,.slice al 32 cl),(6,.func (.func 233) #[] #[.pointer (some ⟨b4,0,none⟩),.pointer (some ⟨b3,0,none⟩),.pointer (some ⟨b1,0,none⟩),.pointer (some ⟨b5,0,none⟩)]),(5,.pointer (some ⟨b5,0,none⟩)),(4,.pointer (some ⟨b4,0,none⟩)),(3,.pointer (some ⟨b3,0,none⟩)),(1,.pointer (some ⟨b1,0,none⟩))]) (n:=32) zs ⟨0,_,rfl,rfl,Nat.zero_le _,⟨none,0,rfl⟩,hS⟩ ?_
 rintro _ w1 q ⟨k,_,rfl,rfl,hk,⟨a',c',rfl⟩,hS⟩;have zJ:∀x∈gB l X.told k,x<k:=fun x hx=>Sf hx
 have qZ:=EA l X.told k;have nY:=K9 l X.told k;have rV:=(Ax l (gB l X.told k) X.told).trans ht;apply aR<;>intro h3
 ·have hk:k<32:=by omega
  have rU:k ∉ gB l X.told k:=fun h=>Nat.lt_irrefl _ (zJ k h)
  have gv:=Q4 l (gB l X.told k) X.told k zo;rw[if_neg rU]at gv;obtain⟨x,hx⟩:∃x,l[k]?=some x:=⟨_,List.getElem?_eq_getElem zo⟩;have vz:=Hu hx;generalize gB l X.told k=p at hS zJ qZ nY rV rU gv;unfold sr at hS;obtain⟨bl,ol,x',aU,_,rfl,_,j5⟩:=(fE (G:=fun _=>True) gF (hS.get 2 rfl) fun _ _=>trivial).at hk;obtain rfl:=Option.some.inj (aU.symm.trans hx);refine ao.mk zo zo ?_;refine OH (l:=bV x') rfl j5 ?_;refine hS.new (fun b8 w' _ hS=>?_);refine hS.st 8 rfl zl rfl (fun w' hS=>?_);(conv=>whnf)
  (refine ir aj mixed [] No [0,1,2,3,4,5,6,7,8,9,10,11,12,13] zk ?_;rintro w1 rfl;replace hS:=hS.drew)
  have hd:=zu6 (bT:=bT) (X:=⟨gV l X.told p,X.bK⟩) gv;repeat' ((conv=>whnf);first|apply aI.mk|refine bO.mk zd ?_|refine ag.mk zo zo ?_|refine ao.mk zo zo ?_|refine hS.bU 8 rfl rfl id ?_|refine hS.bU 1 rfl rfl id ?_|refine ao.mk zo zo ?_|refine hS.bU 0 rfl (o:=0+1+Int.toNat (k:Int)*1) (by rw[←hd];congr 1;simp) id ?_|refine hS.bU 6 rfl rfl id ?_|(first|apply aM|apply ca|apply cE|apply cD)<;>(intro))
  ·rename_i h1 h2;have qX:yj l X.told k=true:=decide_eq_true (by rw[vz];exact h1);rw[if_pos ⟨qX,by omega⟩]at nY;(conv=>whnf);refine(TY k hk hl rV rU zo (hS.keep 8)).mono ?_;rintro v w' ⟨a2,c2,hS⟩;have J2:(gV l X.told p).set k (qG l k)=gV l X.told (p++[k]):=(Gv l X.told p k).symm;dsimp only at hS;rw[J2,←nY]at hS;have vq:p.length+1=(gB l X.told (k+1)).length:=by rw[nY];simp
   rw[vq]at hS;refine ag.mk zo zo ?_;(conv=>whnf);refine aD.mk ⟨_,[(19,.int .i64 ((k+1:Nat):Int)),(18,_),(17,_),(6,_),(5,_),(4,_),(3,_),(1,_)],?_,zs,⟨k+1,_,rfl,rfl,by omega,⟨a2,c2,rfl⟩,hS⟩⟩;omega
  ·rename_i h1 h2;rw[if_neg (fun h=>h2 zo)]at nY;rw[←nY]at hS;refine aD.mk ⟨_,[(19,.int .i64 ((k+1:Nat):Int)),(18,_),(17,_),(6,_),(5,_),(4,_),(3,_),(1,_)],?_,zs,⟨k+1,_,rfl,rfl,by omega,⟨a',c',by rw[nY]⟩,hS.keep 8⟩⟩;omega
  ·rename_i h1;rw[if_neg (fun h=>absurd (vz.trans h1) (of_decide_eq_true h.1))]at nY;rw[←nY]at hS;refine aD.mk ⟨_,[(19,.int .i64 ((k+1:Nat):Int)),(18,_),(17,_),(6,_),(5,_),(4,_),(3,_),(1,_)],?_,zs,⟨k+1,_,rfl,rfl,by omega,⟨a',c',by rw[nY]⟩,hS.keep 8⟩⟩;omega
 ·obtain rfl:k=32:=by omega
  have vn:=Qc l X.told 32;have xk:X.aY l=(oJ 32 X.bK (gB l X.told 32)).2:=rfl;have j8:X.next l=⟨gV l X.told (X.aY l),(oJ 32 X.bK (gB l X.told 32)).1⟩:=rfl;have pL:hJ X.bK 0 X.bK (gB l X.told 32):=⟨by omega,fun i hi=>absurd hi (Nat.not_lt_zero _)⟩;generalize dR:oJ 32 X.bK (gB l X.told 32)=z2 at xk j8;generalize gB l X.told 32=p at hS zJ qZ rV vn pL dR
  refine d5 aj (fun σ w' q=>∃(j c:Nat) (p:List Nat) (ov:Value),σ=[(6,.func (.func 233) #[] #[.pointer (some ⟨b4,0,none⟩),.pointer (some ⟨b3,0,none⟩),.pointer (some ⟨b1,0,none⟩),.pointer (some ⟨b5,0,none⟩)]),(5,.pointer (some ⟨b5,0,none⟩)),(4,.pointer (some ⟨b4,0,none⟩)),(3,.pointer (some ⟨b3,0,none⟩)),(1,.pointer (some ⟨b1,0,none⟩))]∧q=32-j∧p.length≤8∧c<32∧hJ X.bK j c p∧oJ (32-j) c p=z2∧(∃a' c',ov=.slice a' p.length c')∧St w (· = bx) w' (sr bT bx b1 b3 b4 b5 r ⟨gV l X.told p,c⟩ (.slice al 32 cl) ov l p))
   (σ':=[(6,.func (.func 233) #[] #[.pointer (some ⟨b4,0,none⟩),.pointer (some ⟨b3,0,none⟩),.pointer (some ⟨b1,0,none⟩),.pointer (some ⟨b5,0,none⟩)]),(5,.pointer (some ⟨b5,0,none⟩)),(4,.pointer (some ⟨b4,0,none⟩)),(3,.pointer (some ⟨b3,0,none⟩)),(1,.pointer (some ⟨b1,0,none⟩))]) (n:=32) zs ⟨0,X.bK,p,_,rfl,rfl,qZ,hc,pL,dR,⟨a',c',rfl⟩,hS⟩ ?_
  rintro _ w1 q ⟨j,c,p,_,rfl,rfl,qZ,Ja,pL,dR,⟨a',c',rfl⟩,hS⟩;have rV:=(Ax l p X.told).trans ht;unfold sr at hS;have Je:(i6 bT ⟨gV l X.told p,c⟩)[33]?=some (.int .i64 (c:Int)):=MQ rV;have wN:¬b1=bx:=bC.ne (hS.blk 1 rfl) (hS.blk 0 rfl) zd;refine hS.lD 6 ?_;apply aR<;>intro h3
  ·have h8:p.length<8:=by omega
   have hj:=pL.few hc h8;have aw:=pL.step;rw[show 32-j=(32-(j+1))+1 by omega,Gt h8]at dR;refine hS.lD 1 ?_;refine hS.ld 0 rfl Je ?_;refine hS.lD 5 ?_;refine hS.DY 4 rfl ?_;by_cases pA:c∈p
   ·rw[decide_eq_true pA];rw[if_pos pA]at dR aw;(conv=>whnf);have s8:(i6 bT ⟨gV l X.told p,c⟩)[33]?=some (.int .i64 (c:Int)):=MQ rV
    (refine ir aj mixed [4] (· = bx) [0,1,2,3,4,5,6,7,8,9] zk ?_;rintro w1 rfl;replace hS:=hS.drew)
    repeat' ((conv=>whnf);first|apply aI.mk|refine bO.mk zd ?_|refine ag.mk zo zo ?_|refine ao.mk zo zo ?_|refine hS.bU 1 rfl rfl wN ?_|refine hS.ld 0 rfl s8 ?_|refine ae.mk (Ext.refl _ _) ?_|(first|apply aM|apply ca|apply cE|apply cD)<;>(intro))
    refine hS.oD 0 rfl (by rw[MR rV];simp[cM]) rfl (fun w2 fC hS=>?_);refine ae.mk fC ?_;have Jz:over (i6 bT ⟨gV l X.told p,c⟩) (0+33) (cM (.int .i64 (((c:Int)+1).tmod 32)))=i6 bT ⟨gV l X.told p,(c+1) % 32⟩:=S8 rV (by rw[Int.tmod_eq_emod_of_nonneg zo];omega)
    replace hS:St w (· = bx) w2 (sr bT bx b1 b3 b4 b5 r ⟨gV l X.told p,(c+1) % 32⟩ (.slice al 32 cl) (.slice a' p.length c') l p):=by
     unfold sr;rw[←Jz];exact hS
    refine aD.mk ⟨_,[(6,_),(5,_),(4,_),(3,_),(1,_)],?_,zs,⟨j+1,(c+1) % 32,p,_,rfl,rfl,qZ,Nat.mod_lt _ zo,aw,dR,⟨a',c',rfl⟩,hS⟩⟩;omega
   ·rw[decide_eq_false pA];rw[if_neg pA]at dR aw;refine(TY c Ja hl rV pA h8 hS).mono ?_;rintro v w' ⟨a2,c2,hS⟩;have J2:(gV l X.told p).set c (qG l c)=gV l X.told (p++[c]):=(Gv l X.told p c).symm;dsimp only at hS;have vq:p.length+1=(p++[c]).length:=by simp
    rw[J2,vq]at hS;have zX:=(Ax l (p++[c]) X.told).trans ht;have zI:(p++[c]).length≤8:=by simp;omega
    unfold sr at hS;(conv=>whnf);have s8:(i6 bT ⟨gV l X.told (p++[c]),c⟩)[33]?=some (.int .i64 (c:Int)):=MQ zX
    (refine ir aj mixed [4] (· = bx) [0,1,2,3,4,5,6,7,8,9] zk ?_;rintro w1 rfl;replace hS:=hS.drew)
    repeat' ((conv=>whnf);first|apply aI.mk|refine bO.mk zd ?_|refine ag.mk zo zo ?_|refine ao.mk zo zo ?_|refine hS.bU 1 rfl rfl wN ?_|refine hS.ld 0 rfl s8 ?_|refine ae.mk (Ext.refl _ _) ?_|(first|apply aM|apply ca|apply cE|apply cD)<;>(intro))
    refine hS.oD 0 rfl (by rw[MR zX];simp[cM]) rfl (fun w2 fC hS=>?_);refine ae.mk fC ?_;have Jz:over (i6 bT ⟨gV l X.told (p++[c]),c⟩) (0+33) (cM (.int .i64 (((c:Int)+1).tmod 32)))=i6 bT ⟨gV l X.told (p++[c]),(c+1) % 32⟩:=S8 zX (by rw[Int.tmod_eq_emod_of_nonneg zo];omega)
    replace hS:St w (· = bx) w2 (sr bT bx b1 b3 b4 b5 r ⟨gV l X.told (p++[c]),(c+1) % 32⟩ (.slice al 32 cl) (.slice a2 (p++[c]).length c2) l (p++[c])):=by
     unfold sr;rw[←Jz];exact hS
    refine aD.mk ⟨_,[(6,_),(5,_),(4,_),(3,_),(1,_)],?_,zs,⟨j+1,(c+1) % 32,(p++[c]),_,rfl,rfl,zI,Nat.mod_lt _ zo,aw,dR,⟨a2,c2,rfl⟩,hS⟩⟩;omega
  ·have h8:¬p.length<8:=by omega
   rw[Gs h8]at dR;subst dR;rw[show X.aY l=p from xk]at j8 ⊢;rw[j8];refine hS.lD 6 ?_;refine zE ?_;refine⟨⟨a',c',rfl⟩,hS.ext,hS.blk 0 rfl,hS.get 7 rfl,fun g hg=>?_⟩;obtain⟨h1,h2⟩:=hS.may _ (List.mem_of_getElem? (i:=7) rfl) g (by simpa[az,own]using hg);refine⟨h1.resolve_left ?_,h2⟩;rintro rfl;exact hS.mY 0 7 rfl rfl zd hg
end
def i9 (bt bl gl cl:Nat)(X:j2):bZ:=⟨[bl,gl],fun w=>bl≠gl∧bC w bl 220 [.pointer (some ⟨bt,0,none⟩),.slice (some ⟨gl,0,none⟩) 32 cl,.int .i64 (X.bK:Int)]∧(az 3 1 eY (.slice (some ⟨gl,0,none⟩) 32 cl) X.told).holds w⟩
theorem GN:(i9 bt bl gl cl X).Local:=fun w w' h ⟨h1,h2,h3⟩ =>
 ⟨h1,eh bl _ _ w w' (fun b hb=>h b (by simp[blk]at hb;simp[i9,hb])) h2,fq w w' (fun b hb=>h b (by simp[az,own,Value.ownBlock]at hb;simp[i9,hb])) h3⟩
section
variable {g c:Nat}
theorem ztE (w:World):aa prog 46 #[.pointer (some ⟨bt,0,none⟩)] w fun v w'=>∃bl gl cl,v=.pointer (some ⟨bl,0,none⟩)∧Ext No w w'∧(i9 bt bl gl cl sx).holds w'∧(∀b∈(i9 bt bl gl cl sx).aW,w.heap.size≤b∧b<w'.heap.size):=by
 refine zN func46 ntmps46 ?_;have hS:=St.start w No;refine hS.mkSlice (n:=32) underlying25 (sz:=1) (bytes:=8) zk (z:=.int .i64 0) zk zd zd zd (enc:=eY) (xs:=List.replicate 32 (0:Int)) zi zk (fun gl w' Bh hS=>?_);refine hS.new (fun bl w' gY hS=>?_);refine zE ?_;refine⟨bl,gl,32,rfl,hS.ext,⟨?_,hS.get 1 rfl,hS.get 0 rfl⟩,?_⟩
 ·have:=mj m4 hS.apart (i:=1) (j:=0) rfl rfl zd bl (by simp[blk]);simpa[az,own,Value.ownBlock]using this
 ·intro b hb;simp only[i9,List.mem_cons,List.not_mem_nil,or_false]at hb;rcases hb with rfl|rfl
  ·have:=hS.may _ (List.mem_of_getElem? (i:=1) rfl) b (by simp[blk]);exact⟨this.1.resolve_left id,this.2⟩
  ·have:=hS.may _ (List.mem_of_getElem? (i:=0) rfl) b (by simp[az,own,Value.ownBlock]);exact⟨this.1.resolve_left id,this.2⟩
end
structure S2 (c0:Nat)(p z:List Nat)(c:Nat):Prop where
 len:z.length=8
 nd:z.Nodup
 lt:∀x∈z,x<32
 sub:∀x∈p,x∈z
 cur:c<32
theorem QB {c0:Nat}(j4:c0<32):∀(n j c:Nat) (p:List Nat),n+j=32→hJ c0 j c p→c<32→p.length≤8→p.Nodup→(∀x∈p,x<32)→S2 c0 p (oJ n c p).2 (oJ n c p).1
 | n,j,c,p,hn,hs,hc,hp,hd,hl=>by
  by_cases h8:p.length<8
  ·have hj:=hs.few j4 h8;obtain⟨m,rfl⟩:∃m,n=m+1:=⟨n-1,by omega⟩;rw[Gt h8]
   have ih:=QB j4 m (j+1) ((c+1) % 32) (if c∈p then p else p++[c]) zo hs.step (Nat.mod_lt _ zo) (by
     split
     ·exact hp
     ·simp;omega)
    (by
     split
     ·exact hd
     ·rename_i h;rw[List.nodup_append];exact⟨hd,by simp,fun a ha b hb=>by simp at hb;subst hb;rintro rfl;exact h ha⟩)
    (by
     split
     ·exact hl
     ·intro x hx;rcases List.mem_append.1 hx with h|h
      ·exact hl x h
      ·simp at h;omega)
   refine⟨ih.len,ih.nd,ih.lt,fun x hx=>ih.sub x ?_,ih.cur⟩;split
   ·exact hx
   ·exact List.mem_append_left _ hx
  ·rw[Gs h8];exact⟨by dsimp only;omega,hd,hl,fun _ h=>h,hc⟩
theorem GZ (l:List ax)(hc:X.bK<32):S2 X.bK (gB l X.told 32) (X.aY l) (X.next l).bK :=
 QB hc 32 0 X.bK _ rfl ⟨by omega,fun i hi=>absurd hi (Nat.not_lt_zero _)⟩ hc (EA _ _ _) (Qc _ _ _) fun _ h=>Sf h
theorem zrX (l:List ax)(ht:X.told.length=32):(X.next l).told.length=32:=(Ax l _ _).trans ht
abbrev M7 (x:Bool):List Value:=[.bool x]
theorem E0:cR 1 M7:=⟨fun _=>rfl,fun _=>rfl,by decide⟩
def wB (p:List Nat):List Bool:=(List.range 32).map fun k=>decide (k∈p)
theorem Mi (p:List Nat):(wB p).length=32:=by simp[wB]
theorem xV {p:List Nat}(h:k<32):(wB p)[k]?=some (decide (k∈p)):=by simp[wB,h]
theorem Mj {p:List Nat}(h:k<32):(wB p).set k true=wB (p++[k]):=by
 apply List.ext_getElem?;intro i;rw[List.getElem?_set];by_cases e:k=i
 ·subst e;rw[if_pos rfl,if_pos (by rw[Mi];exact h),xV h];simp
 ·rw[if_neg e];by_cases hi:i<32
  ·rw[xV hi,xV hi];have:¬i=k:=fun x=>e x.symm
   simp[this]
  ·rw[List.getElem?_eq_none (by rw[Mi];omega),List.getElem?_eq_none (by rw[Mi];omega)]
theorem QV {l:List ax}{t:List Int}(h:(gB l t k).length=8):∀d,gB l t (k+d)=gB l t k
 | 0=>rfl
 | d+1=>by
  have ih:=QV h d;rw[←Nat.add_assoc,K9,ih,if_neg zo]
theorem UJ {n:Nat}(hO:eo n T){p:List Nat}(hp:∀x∈p,x<32){i:Nat}(hi:i<p.length):∃k,p[i]?=some k∧∀c,(fx T.cells p)[i]?=some c→c.slot=k∧qG T.cells k=c.dF:=by
 obtain⟨k,hk⟩:∃k,p[i]?=some k:=⟨_,List.getElem?_eq_getElem hi⟩;refine⟨k,hk,fun c h=>?_⟩;have aQ:=hp k (List.mem_of_getElem? hk);unfold fx at h;rw[List.getElem?_map,hk]at h;obtain rfl:=Option.some.inj h;obtain⟨d,hd⟩:∃d,T.cells[k]?=some d:=⟨_,List.getElem?_eq_getElem (by rw[hO.len];exact aQ)⟩;rw[Em hd,Hu hd];exact⟨hO.slot k d hd,rfl⟩
section
variable {g c:Nat}
def sv (bt bl gl cl bk ck:Nat)(X:j2)(ov:Value)(l:List ax)(p:List Nat):List bZ :=
 [blk bl 220 [.pointer (some ⟨bt,0,none⟩),.slice (some ⟨gl,0,none⟩) 32 cl,.int .i64 (X.bK:Int)],az 3 1 eY (.slice (some ⟨gl,0,none⟩) 32 cl) X.told,az 218 10 bV ov (fx l p),az 4 1 M7 (.slice (some ⟨bk,0,none⟩) 32 ck) (wB p)]
theorem Lf (hT:(eB bt g c T).holds w)(hL:(i9 bt bl gl cl X).holds w)(jY:∀b∈[bt,g],¬(b=bl∨b=gl)){n:Nat}(hO:eo n T)(ht:X.told.length=32)(hc:X.bK<32) :
  aa prog 170 #[.pointer (some ⟨bl,0,none⟩)] w fun v w'=>(∃a' c',v=.slice a' (X.aY T.cells).length c')∧Ext (fun b=>b=bl∨b=gl) w w'∧(i9 bt bl gl cl (X.next T.cells)).holds w'∧(az 218 10 bV v (fx T.cells (X.aY T.cells))).holds w'∧m7 w w' v:=by
 have hl:=hO.len;have uA:¬(bt=bl∨bt=gl):=jY bt zi;have dU:¬(g=bl∨g=gl):=jY g zi;have gY:=hL.2.1.lt;have Bh:gl<w.heap.size:=T0 hL.2.2 rfl;obtain⟨Cq,VT,VU⟩:=hL;obtain⟨z2,xx⟩:∃z2,oJ 32 X.bK (gB T.cells X.told 32)=z2:=⟨_,rfl⟩;have xk:X.aY T.cells=z2.2:=congrArg Prod.snd xx;have j8:X.next T.cells=⟨gV T.cells X.told (X.aY T.cells),z2.1⟩:=by rw[←xx];rfl
 refine zN func170 ntmps170 ?_;have hS:=(St.start w (fun b=>b=bl∨b=gl)).add (eh bl _ _) VT (by simp[blk];exact gY) zi;have hS:=hS.add fq VU (by simp[az,own,Value.ownBlock];exact Bh) (by simp[az,own,Value.ownBlock,blk];exact fun e=>Cq e);have hS:=hS.add (fq (e:=218) (enc:=bV) (sz:=10) (v:=.slice none 0 0) (xs:=[])) (sf _ _ _) (by simp[az,own,Value.ownBlock]) (by simp[az,own,Value.ownBlock]);refine hS.mkSlice (n:=32) underlying327 (sz:=1) (bytes:=1) zk (z:=.bool false) zk zd zd zd (enc:=M7) (xs:=wB []) (by simp[wB]) zk (fun bk w' yI hS=>?_)
 refine d5 aj (fun σ w' q=>∃(i:Nat) (ov:Value),σ=[(5,.int .i64 i),(4,.slice (some ⟨bk,0,none⟩) 32 32),(3,ov),(0,.pointer (some ⟨bl,0,none⟩))]∧q=32-i∧i≤32∧(∃a' c',ov=.slice a' (gB T.cells X.told i).length c')∧St w (fun b=>b=bl∨b=gl) w' (sv bt bl gl cl bk 32 X ov T.cells (gB T.cells X.told i)))
  (σ':=[(5,.int .i64 ((0:Nat):Int)),(4,.slice (some ⟨bk,0,none⟩) 32 32),(3,.slice none 0 0),(0,.pointer (some ⟨bl,0,none⟩))]) (n:=32) zs ⟨0,_,rfl,rfl,Nat.zero_le _,⟨none,0,rfl⟩,hS⟩ ?_
 rintro _ w1 q ⟨k,_,rfl,rfl,hk,⟨a',c',rfl⟩,hS⟩;have qZ:=EA T.cells X.told k;have nY:=K9 T.cells X.told k;unfold sv at hS;apply aR<;>intro h3
 ·have hk:k<32:=by omega
  apply aR<;>intro h4
  ·obtain⟨x,hx⟩:∃x,T.cells[k]?=some x:=⟨_,List.getElem?_eq_getElem zo⟩;obtain⟨u,hu⟩:∃u,X.told[k]?=some u:=⟨_,List.getElem?_eq_getElem zo⟩;have cA:=Em hx;have Ol:yj T.cells X.told k=decide (x.dF≠u):=by unfold yj;rw[Hu hx,LG hu]
   have s9:w.cell? ⟨g,0+Int.toNat (k:Int)*10+1,none⟩=some (.int .i64 x.dF):=by rw[Nat.zero_add];exact(sg hT hx).one 1 rfl
   have j5:aH w g (0+Int.toNat (k:Int)*10) (bV x):=by rw[Nat.zero_add];exact sg hT hx
   generalize gB T.cells X.told k=p at hS qZ nY h4;(conv=>whnf)
   (refine ir aj mixed [] No [0,1,2,3,4,5,6,7,8,9,10,11,12,13,14,15,16,17,18] zk ?_;rintro w1 rfl;replace hS:=hS.drew)
   obtain⟨bu,ou,u',vv,_,eu,_,yU⟩:=(fE (G:=fun _=>True) kU (hS.get 1 rfl) fun _ _=>trivial).at hk;cases eu;obtain rfl:=Option.some.inj (vv.symm.trans hu);repeat' ((conv=>whnf);first|apply aI.mk|refine bO.mk zd ?_|refine ag.mk zo zo ?_|refine ao.mk zo zo ?_|refine ao.mk zo zo ?_|refine hS.bU 0 rfl rfl id ?_|refine hS.cV (m6 hT) uA id ?_|refine hS.cV s9 dU id ?_|refine jr (yU.one 0 rfl) id ?_|(first|apply aM|apply ca|apply cE|apply cD)<;>(intro))
   ·rename_i h5;rw[if_pos ⟨by rw[Ol];exact decide_eq_true h5,by omega⟩]at nY;repeat' ((conv=>whnf);first|apply aI.mk|refine bO.mk zd ?_|refine ag.mk zo zo ?_|refine ao.mk zo zo ?_|refine ao.mk zo zo ?_|refine hS.ld 0 rfl rfl ?_|refine hS.cK (m6 hT) uA ?_|refine hS.mV (l:=bV x) rfl j5 dU ?_|(first|apply aM|apply ca|apply cE|apply cD)<;>(intro))
    refine hS.lit (cs:=bV x) underlying138 (sz:=10) zk (z:=.agg (bV ⟨0,0,fN⟩).toArray) zk rfl rfl (by rfl) (fun bz w' I9 hS=>?_);refine hS.d8 gF 2 (ys:=[x]) (G:=fun _=>True) underlying138 (bytes:=80) zk (z:=.agg (bV ⟨0,0,fN⟩).toArray) zk rfl rfl (bQ.bG gF (hS.blk 4 rfl) rfl zi (fun _ _=>trivial) rfl) (by unfold maxLen;rw[kp];omega) (by rw[kp];omega) (fun a2 c2 w' hS=>?_);replace hS:=hS.keep 4;have zv:fx T.cells p++[x]=fx T.cells (p++[k]):=by simp[fx,cA]
    rw[kp,zv]at hS;rw[kp];refine ao.mk zo zo ?_;refine hS.jN E0 3 (k:=k) (x:=true) rfl (xV zo) zi rfl (fun w' _ hS=>?_);rw[Mj zo]at hS;have hq:p.length+1=(gB T.cells X.told (k+1)).length:=by rw[nY];simp
    rw[hq,←nY]at hS;rw[hq];refine ag.mk zo zo ?_;(conv=>whnf);refine aD.mk ⟨_,[(5,.int .i64 ((k+1:Nat):Int)),(4,_),(3,_),(0,_)],?_,zs,⟨k+1,_,rfl,rfl,by omega,⟨a2,c2,rfl⟩,hS⟩⟩;omega
   ·rename_i h5;rw[if_neg (fun h=>by rw[Ol]at h;exact of_decide_eq_true h.1 h5)]at nY;rw[←nY]at hS ⊢;refine aD.mk ⟨_,[(5,.int .i64 ((k+1:Nat):Int)),(4,_),(3,_),(0,_)],?_,zs,⟨k+1,_,rfl,rfl,by omega,⟨a',c',rfl⟩,hS⟩⟩;omega
  ·have VE:gB T.cells X.told 32=gB T.cells X.told k:=by
    have:=QV (l:=T.cells) (t:=X.told) (k:=k) zo (32-k)
    rwa [show k+(32-k)=32 by omega]at this
   rw[←VE]at hS ⊢;have zD:=EA T.cells X.told 32;have pL:hJ X.bK 0 X.bK (gB T.cells X.told 32):=⟨by omega,fun i hi=>absurd hi (Nat.not_lt_zero _)⟩
   refine d5 aj (fun σ w' q=>∃(j cu:Nat) (p:List Nat) (ov:Value),σ=[(4,.slice (some ⟨bk,0,none⟩) 32 32),(3,ov),(0,.pointer (some ⟨bl,0,none⟩))]∧q=32-j∧p.length≤8∧cu<32∧hJ X.bK j cu p∧oJ (32-j) cu p=z2∧(∃a' c',ov=.slice a' p.length c')∧St w (fun b=>b=bl∨b=gl) w' (sv bt bl gl cl bk 32 ⟨X.told,cu⟩ ov T.cells p))
    (σ':=[(4,.slice (some ⟨bk,0,none⟩) 32 32),(3,.slice a' (gB T.cells X.told 32).length c'),(0,.pointer (some ⟨bl,0,none⟩))]) (n:=32) zs ⟨0,X.bK,gB T.cells X.told 32,_,rfl,rfl,zD,hc,pL,xx,⟨a',c',rfl⟩,hS⟩ ?_
   rintro _ w1 q ⟨j,cu,p,_,rfl,rfl,qZ,yU,pL,dR,⟨a',c',rfl⟩,hS⟩;unfold sv at hS;dsimp only at hS;apply aR<;>intro h5
   ·have h8:p.length<8:=by omega
    have hj:=pL.few hc h8;have aw:=pL.step;rw[show 32-j=(32-(j+1))+1 by omega,Gt h8]at dR;obtain⟨Vn,oy,y,hy,_,ey,_,td⟩:=(fE (G:=fun _=>True) E0 (hS.get 3 rfl) fun _ _=>trivial).at yU;cases ey;obtain rfl:=Option.some.inj (hy.symm.trans (xV yU));refine hS.lD 0 ?_;refine ao.mk zo zo ?_;refine g9 (td.one 0 rfl) ?_;by_cases pA:cu∈p
    ·rw[decide_eq_true pA];rw[if_pos pA]at dR aw;refine ag.mk zo zo ?_;refine hS.sT 0 fun w' hS=>?_
     refine hS.lD 0 ?_;refine aM (fun h7=>?_) (fun h7=>?_)
     ·have j4:(cu+1) % 32=0:=by omega
      rw[j4]at dR aw;refine hS.sT 0 fun w' hS=>?_
      (conv=>whnf);refine aD.mk ⟨_,[(4,_),(3,_),(0,_)],?_,zs,⟨j+1,0,p,_,rfl,rfl,qZ,by omega,aw,dR,⟨a',c',rfl⟩,hS⟩⟩;omega
     ·have j4:(cu+1) % 32=cu+1:=by omega
      rw[j4]at dR aw;(conv=>whnf);refine aD.mk ⟨_,[(4,_),(3,_),(0,_)],?_,zs,⟨j+1,cu+1,p,_,rfl,rfl,qZ,by omega,aw,dR,⟨a',c',rfl⟩,hS⟩⟩;omega
    ·rw[decide_eq_false pA];rw[if_neg pA]at dR aw;have zI:(p++[cu]).length≤8:=by simp;omega
     obtain⟨x,hx⟩:∃x,T.cells[cu]?=some x:=⟨_,List.getElem?_eq_getElem zo⟩;have cA:=Em hx;have j5:aH w g (0+Int.toNat (cu:Int)*10) (bV x):=by rw[Nat.zero_add];exact sg hT hx
     conv=>whnf
     repeat' ((conv=>whnf);first|apply aI.mk|refine bO.mk zd ?_|refine ag.mk zo zo ?_|refine ao.mk zo zo ?_|refine ao.mk zo zo ?_|refine hS.ld 0 rfl rfl ?_|refine hS.cK (m6 hT) uA ?_|refine hS.mV (l:=bV x) rfl j5 dU ?_|(first|apply aM|apply ca|apply cE|apply cD)<;>(intro))
     refine hS.lit (cs:=bV x) underlying138 (sz:=10) zk (z:=.agg (bV ⟨0,0,fN⟩).toArray) zk rfl rfl (by rfl) (fun bz w' I9 hS=>?_);refine hS.d8 gF 2 (ys:=[x]) (G:=fun _=>True) underlying138 (bytes:=80) zk (z:=.agg (bV ⟨0,0,fN⟩).toArray) zk rfl rfl (bQ.bG gF (hS.blk 4 rfl) rfl zi (fun _ _=>trivial) rfl) (by unfold maxLen;rw[kp];omega) (by rw[kp];omega) (fun a2 c2 w' hS=>?_);replace hS:=hS.keep 4;have zv:fx T.cells p++[x]=fx T.cells (p++[cu]):=by simp[fx,cA]
     rw[kp,zv]at hS;rw[kp];refine ao.mk zo zo ?_;refine hS.jN E0 3 (k:=cu) (x:=true) rfl (xV zo) zi rfl (fun w' _ hS=>?_);rw[Mj zo]at hS;have hq:p.length+1=(p++[cu]).length:=by simp
     rw[hq]at hS ⊢;refine ag.mk zo zo ?_;refine hS.sT 0 fun w' hS=>?_
     refine hS.lD 0 ?_;refine aM (fun h7=>?_) (fun h7=>?_)
     ·have j4:(cu+1) % 32=0:=by omega
      rw[j4]at dR aw;refine hS.sT 0 fun w' hS=>?_
      (conv=>whnf);refine aD.mk ⟨_,[(4,_),(3,_),(0,_)],?_,zs,⟨j+1,0,(p++[cu]),_,rfl,rfl,zI,by omega,aw,dR,⟨a2,c2,rfl⟩,hS⟩⟩;omega
     ·have j4:(cu+1) % 32=cu+1:=by omega
      rw[j4]at dR aw;refine aD.mk ⟨_,[(4,_),(3,_),(0,_)],?_,zs,⟨j+1,cu+1,(p++[cu]),_,rfl,rfl,zI,by omega,aw,dR,⟨a2,c2,rfl⟩,hS⟩⟩;omega
   ·have h8:¬p.length<8:=by omega
    rw[Gs h8]at dR;obtain rfl:X.aY T.cells=p:=by rw[xk,←dR]
    have ve:(X.next T.cells).bK=cu:=by rw[j8,←dR]
    have hP:=GZ T.cells hc;have aQ:=hP.lt;have vq:=hP.len;have WV:(X.next T.cells).told=gV T.cells X.told (X.aY T.cells):=rfl;have zq:X.next T.cells=⟨gV T.cells X.told (X.aY T.cells),cu⟩:=by rw[j8,←dR]
    rw[zq];generalize X.aY T.cells=p at *
    refine d5 aj (fun σ w' q=>∃i:Nat,σ=[(7,.int .i64 i),(3,.slice a' p.length c'),(0,.pointer (some ⟨bl,0,none⟩))]∧q=8-i∧i≤8∧St w (fun b=>b=bl∨b=gl) w' (sv bt bl gl cl bk 32 ⟨gV T.cells X.told (p.take i),cu⟩ (.slice a' p.length c') T.cells p))
     (σ':=[(7,.int .i64 ((0:Nat):Int)),(3,.slice a' p.length c'),(0,.pointer (some ⟨bl,0,none⟩))]) (n:=8) zs ⟨0,rfl,rfl,Nat.zero_le _,hS⟩ ?_
    rintro _ w1 q ⟨i,rfl,rfl,hi,hS⟩;unfold sv at hS;dsimp only at hS;apply aR<;>intro h6
    ·have CX:i<p.length:=by omega
     obtain⟨k,hk,bR⟩:=UJ hO aQ CX;have Jt:=aQ k (List.mem_of_getElem? hk);have hlen:=(Ax T.cells (p.take i) X.told).trans ht;obtain⟨u,hu⟩:∃u,(gV T.cells X.told (p.take i))[k]?=some u:=⟨_,List.getElem?_eq_getElem zo⟩
     have aw:(gV T.cells X.told (p.take i)).set k (qG T.cells k)=gV T.cells X.told (p.take (i+1)):=by
      rw[List.take_add_one,hk];exact(Gv _ _ _ _).symm
     (conv=>whnf);refine hS.dr [] ((· = gl)) [0,1,2,3,4,5,6,7,8,9,10,11,12,13,14,15] fun w1 hS=>?_
     obtain⟨bo,oo,x,hx,_,rfl,_,j5⟩:=(fE (G:=fun _=>True) gF (hS.get 2 rfl) fun _ _=>trivial).at (k:=i) CX;obtain⟨eH,fC⟩:=bR x hx;rw[fC]at aw
     have yK:¬bo=gl:=by
      rintro rfl;have:=mj m4 hS.apart (i:=1) (j:=2) rfl rfl zd bo (by simp[az,own,Value.ownBlock]);simp[az,own,Value.ownBlock]at this
     repeat' ((conv=>whnf);first|refine ao.mk zo zo ?_|refine hS.bU 0 rfl rfl Cq ?_|refine jr (j5.one 0 rfl) yK ?_|refine jr (j5.one 1 rfl) yK ?_)
     refine hS.jN kU 1 (k:=k) (x:=x.dF) rfl hu zo rfl (fun w' aU hS=>?_);refine ae.mk aU ?_
     replace hS:St w (fun b=>b=bl∨b=gl) w' (sv bt bl gl cl bk 32 ⟨gV T.cells X.told (p.take (i+1)),cu⟩ (.slice (some ⟨bo,oo,none⟩) p.length c') T.cells p):=by
      rw[←aw];exact hS
     refine ag.mk zo zo ?_;refine aD.mk ⟨_,[(7,.int .i64 ((i+1:Nat):Int)),(3,_),(0,_)],?_,zs,⟨i+1,rfl,rfl,by omega,hS⟩⟩;omega
    ·obtain rfl:i=8:=by omega
     rw[List.take_of_length_le zo]at hS;refine zE ?_;refine⟨⟨a',c',rfl⟩,hS.ext,⟨Cq,hS.blk 0 rfl,hS.get 1 rfl⟩,hS.get 2 rfl,fun q hq=>?_⟩;obtain⟨h1,h2⟩:=hS.may _ (List.mem_of_getElem? (i:=2) rfl) q (by simpa[az,own]using hq);refine⟨h1.resolve_left ?_,h2⟩;rintro(rfl|rfl)
     ·exact hS.mY 0 2 rfl rfl zd hq
     ·have:=mj m4 hS.apart (i:=1) (j:=2) rfl rfl zd q (by simp[az,own,Value.ownBlock]);exact this (by simpa[az,own]using hq)
 ·obtain rfl:k=32:=by omega
  have zD:=EA T.cells X.told 32;have pL:hJ X.bK 0 X.bK (gB T.cells X.told 32):=⟨by omega,fun i hi=>absurd hi (Nat.not_lt_zero _)⟩
  refine d5 aj (fun σ w' q=>∃(j cu:Nat) (p:List Nat) (ov:Value),σ=[(4,.slice (some ⟨bk,0,none⟩) 32 32),(3,ov),(0,.pointer (some ⟨bl,0,none⟩))]∧q=32-j∧p.length≤8∧cu<32∧hJ X.bK j cu p∧oJ (32-j) cu p=z2∧(∃a' c',ov=.slice a' p.length c')∧St w (fun b=>b=bl∨b=gl) w' (sv bt bl gl cl bk 32 ⟨X.told,cu⟩ ov T.cells p))
   (σ':=[(4,.slice (some ⟨bk,0,none⟩) 32 32),(3,.slice a' (gB T.cells X.told 32).length c'),(0,.pointer (some ⟨bl,0,none⟩))]) (n:=32) zs ⟨0,X.bK,gB T.cells X.told 32,_,rfl,rfl,zD,hc,pL,xx,⟨a',c',rfl⟩,hS⟩ ?_
  rintro _ w1 q ⟨j,cu,p,_,rfl,rfl,qZ,yU,pL,dR,⟨a',c',rfl⟩,hS⟩;unfold sv at hS;dsimp only at hS;apply aR<;>intro h5
  ·have h8:p.length<8:=by omega
   have hj:=pL.few hc h8;have aw:=pL.step;rw[show 32-j=(32-(j+1))+1 by omega,Gt h8]at dR;obtain⟨Vn,oy,y,hy,_,ey,_,td⟩:=(fE (G:=fun _=>True) E0 (hS.get 3 rfl) fun _ _=>trivial).at yU;cases ey;obtain rfl:=Option.some.inj (hy.symm.trans (xV yU));refine hS.lD 0 ?_;refine ao.mk zo zo ?_;refine g9 (td.one 0 rfl) ?_;by_cases pA:cu∈p
   ·rw[decide_eq_true pA];rw[if_pos pA]at dR aw;refine ag.mk zo zo ?_;refine hS.sT 0 fun w' hS=>?_
    refine hS.lD 0 ?_;refine aM (fun h7=>?_) (fun h7=>?_)
    ·have j4:(cu+1) % 32=0:=by omega
     rw[j4]at dR aw;refine hS.sT 0 fun w' hS=>?_
     (conv=>whnf);refine aD.mk ⟨_,[(4,_),(3,_),(0,_)],?_,zs,⟨j+1,0,p,_,rfl,rfl,qZ,by omega,aw,dR,⟨a',c',rfl⟩,hS⟩⟩;omega
    ·have j4:(cu+1) % 32=cu+1:=by omega
     rw[j4]at dR aw;(conv=>whnf);refine aD.mk ⟨_,[(4,_),(3,_),(0,_)],?_,zs,⟨j+1,cu+1,p,_,rfl,rfl,qZ,by omega,aw,dR,⟨a',c',rfl⟩,hS⟩⟩;omega
   ·rw[decide_eq_false pA];rw[if_neg pA]at dR aw;have zI:(p++[cu]).length≤8:=by simp;omega
    obtain⟨x,hx⟩:∃x,T.cells[cu]?=some x:=⟨_,List.getElem?_eq_getElem zo⟩;have cA:=Em hx;have j5:aH w g (0+Int.toNat (cu:Int)*10) (bV x):=by rw[Nat.zero_add];exact sg hT hx
    conv=>whnf
    repeat' ((conv=>whnf);first|apply aI.mk|refine bO.mk zd ?_|refine ag.mk zo zo ?_|refine ao.mk zo zo ?_|refine ao.mk zo zo ?_|refine hS.ld 0 rfl rfl ?_|refine hS.cK (m6 hT) uA ?_|refine hS.mV (l:=bV x) rfl j5 dU ?_|(first|apply aM|apply ca|apply cE|apply cD)<;>(intro))
    refine hS.lit (cs:=bV x) underlying138 (sz:=10) zk (z:=.agg (bV ⟨0,0,fN⟩).toArray) zk rfl rfl (by rfl) (fun bz w' I9 hS=>?_);refine hS.d8 gF 2 (ys:=[x]) (G:=fun _=>True) underlying138 (bytes:=80) zk (z:=.agg (bV ⟨0,0,fN⟩).toArray) zk rfl rfl (bQ.bG gF (hS.blk 4 rfl) rfl zi (fun _ _=>trivial) rfl) (by unfold maxLen;rw[kp];omega) (by rw[kp];omega) (fun a2 c2 w' hS=>?_);replace hS:=hS.keep 4;have zv:fx T.cells p++[x]=fx T.cells (p++[cu]):=by simp[fx,cA]
    rw[kp,zv]at hS;rw[kp];refine ao.mk zo zo ?_;refine hS.jN E0 3 (k:=cu) (x:=true) rfl (xV zo) zi rfl (fun w' _ hS=>?_);rw[Mj zo]at hS;have hq:p.length+1=(p++[cu]).length:=by simp
    rw[hq]at hS ⊢;refine ag.mk zo zo ?_;refine hS.sT 0 fun w' hS=>?_
    refine hS.lD 0 ?_;refine aM (fun h7=>?_) (fun h7=>?_)
    ·have j4:(cu+1) % 32=0:=by omega
     rw[j4]at dR aw;refine hS.sT 0 fun w' hS=>?_
     (conv=>whnf);refine aD.mk ⟨_,[(4,_),(3,_),(0,_)],?_,zs,⟨j+1,0,(p++[cu]),_,rfl,rfl,zI,by omega,aw,dR,⟨a2,c2,rfl⟩,hS⟩⟩;omega
    ·have j4:(cu+1) % 32=cu+1:=by omega
     rw[j4]at dR aw;refine aD.mk ⟨_,[(4,_),(3,_),(0,_)],?_,zs,⟨j+1,cu+1,(p++[cu]),_,rfl,rfl,zI,by omega,aw,dR,⟨a2,c2,rfl⟩,hS⟩⟩;omega
  ·have h8:¬p.length<8:=by omega
   rw[Gs h8]at dR;obtain rfl:X.aY T.cells=p:=by rw[xk,←dR]
   have ve:(X.next T.cells).bK=cu:=by rw[j8,←dR]
   have hP:=GZ T.cells hc;have aQ:=hP.lt;have vq:=hP.len;have WV:(X.next T.cells).told=gV T.cells X.told (X.aY T.cells):=rfl;have zq:X.next T.cells=⟨gV T.cells X.told (X.aY T.cells),cu⟩:=by rw[j8,←dR]
   rw[zq];generalize X.aY T.cells=p at *
   refine d5 aj (fun σ w' q=>∃i:Nat,σ=[(7,.int .i64 i),(3,.slice a' p.length c'),(0,.pointer (some ⟨bl,0,none⟩))]∧q=8-i∧i≤8∧St w (fun b=>b=bl∨b=gl) w' (sv bt bl gl cl bk 32 ⟨gV T.cells X.told (p.take i),cu⟩ (.slice a' p.length c') T.cells p))
    (σ':=[(7,.int .i64 ((0:Nat):Int)),(3,.slice a' p.length c'),(0,.pointer (some ⟨bl,0,none⟩))]) (n:=8) zs ⟨0,rfl,rfl,Nat.zero_le _,hS⟩ ?_
   rintro _ w1 q ⟨i,rfl,rfl,hi,hS⟩;unfold sv at hS;dsimp only at hS;apply aR<;>intro h6
   ·have CX:i<p.length:=by omega
    obtain⟨k,hk,bR⟩:=UJ hO aQ CX;have Jt:=aQ k (List.mem_of_getElem? hk);have hlen:=(Ax T.cells (p.take i) X.told).trans ht;obtain⟨u,hu⟩:∃u,(gV T.cells X.told (p.take i))[k]?=some u:=⟨_,List.getElem?_eq_getElem zo⟩
    have aw:(gV T.cells X.told (p.take i)).set k (qG T.cells k)=gV T.cells X.told (p.take (i+1)):=by
     rw[List.take_add_one,hk];exact(Gv _ _ _ _).symm
    (conv=>whnf);refine hS.dr [] ((· = gl)) [0,1,2,3,4,5,6,7,8,9,10,11,12,13,14,15] fun w1 hS=>?_
    obtain⟨bo,oo,x,hx,_,rfl,_,j5⟩:=(fE (G:=fun _=>True) gF (hS.get 2 rfl) fun _ _=>trivial).at (k:=i) CX;obtain⟨eH,fC⟩:=bR x hx;rw[fC]at aw
    have yK:¬bo=gl:=by
     rintro rfl;have:=mj m4 hS.apart (i:=1) (j:=2) rfl rfl zd bo (by simp[az,own,Value.ownBlock]);simp[az,own,Value.ownBlock]at this
    repeat' ((conv=>whnf);first|refine ao.mk zo zo ?_|refine hS.bU 0 rfl rfl Cq ?_|refine jr (j5.one 0 rfl) yK ?_|refine jr (j5.one 1 rfl) yK ?_)
    refine hS.jN kU 1 (k:=k) (x:=x.dF) rfl hu zo rfl (fun w' aU hS=>?_);refine ae.mk aU ?_
    replace hS:St w (fun b=>b=bl∨b=gl) w' (sv bt bl gl cl bk 32 ⟨gV T.cells X.told (p.take (i+1)),cu⟩ (.slice (some ⟨bo,oo,none⟩) p.length c') T.cells p):=by
     rw[←aw];exact hS
    refine ag.mk zo zo ?_;refine aD.mk ⟨_,[(7,.int .i64 ((i+1:Nat):Int)),(3,_),(0,_)],?_,zs,⟨i+1,rfl,rfl,by omega,hS⟩⟩;omega
   ·obtain rfl:i=8:=by omega
    rw[List.take_of_length_le zo]at hS;refine zE ?_;refine⟨⟨a',c',rfl⟩,hS.ext,⟨Cq,hS.blk 0 rfl,hS.get 1 rfl⟩,hS.get 2 rfl,fun q hq=>?_⟩;obtain⟨h1,h2⟩:=hS.may _ (List.mem_of_getElem? (i:=2) rfl) q (by simpa[az,own]using hq);refine⟨h1.resolve_left ?_,h2⟩;rintro(rfl|rfl)
    ·exact hS.mY 0 2 rfl rfl zd hq
    ·have:=mj m4 hS.apart (i:=1) (j:=2) rfl rfl zd q (by simp[az,own,Value.ownBlock]);exact this (by simpa[az,own]using hq)
end
open Go.Instr
theorem ck (e:Bool)(a b:Int)(w:World):(checkKey e 10000 368 (.agg #[.int .i64 a,.int .i64 b])).run prog w=.ok () w:=by cases e<;>kernel_rfl
theorem zwQ (d:Nat)(a b:Int)(w:World):(Op.equalIn (d+1) 3 (.int .i64 a) (.int .i64 b)).run prog w=.ok (a == b) w:=by
 have hu:=underlying3;simp[Op.equalIn,underlying,hu]
theorem HN (i:Nat)(a b:Int)(v:Value)(h:[Value.int .i64 a,Value.int .i64 b][i]?=some v)(w:World):(part 3 #[.int .i64 a,.int .i64 b] i).run prog w=.ok v w :=
 Lp (cs:=[.int .i64 a,.int .i64 b]) ⟨_,underlying3⟩ h zk w
theorem zzt (a b c d:Int)(w:World):(Op.equalIn 10000 368 (.agg #[.int .i64 a,.int .i64 b]) (.agg #[.int .i64 c,.int .i64 d])).run prog w=.ok (a == c&&b == d) w:=by
 have hS:prog.underlying 368=some (.struct (prog.fieldsOf 368)):=zk;rw[show(10000:Nat)=9999+1 from rfl,run_equalIn_struct w 9999 368 _ _ hS zk];simp only[Program.fieldsOf,underlying368];have p0:=HN 0 a b (.int .i64 a) rfl;have p1:=HN 1 a b (.int .i64 b) rfl;have q0:=HN 0 c d (.int .i64 c) rfl;have q1:=HN 1 c d (.int .i64 d) rfl;have r:∀x y w,(Op.equalIn 9999 3 (.int .i64 x) (.int .i64 y)).run prog w=.ok (x == y) w:=fun x y w=>zwQ 9998 x y w
 simp only [Op.eqFields, show ("proto" : String) ≠ "_" by decide, show ("state" : String) ≠ "_" by decide, ne_eq, not_false_eq_true, if_true, Sem.run_bind, p0, p1, q0, q1, Result.andThen_ok, r]
 cases h1:a == c<;>cases h2:b == d<;>simp[Sem.run_bind,p0,p1,q0,q1,r,h2]
def ue (k:(Int × Int × Int) × Nat):MapEntry:=⟨.agg #[.int .i64 k.1.1,.int .i64 k.1.2.1],.int .i64 k.1.2.2,k.2⟩
def wj (p s:Int):List ((Int × Int × Int) × Nat)→Nat→Option (Nat × Value)
 | [],_=>none
 | ((a,b,v),_)::r,n=>match p == a&&s == b with|true=>some (n,.int .i64 v)|false=>wj p s r (n+1)
def yc (p s:Int):List ((Int × Int × Int) × Nat)→Int
 | []=>0
 | ((a,b,v),_)::r=>if p=a∧s=b then v else yc p s r
def pZ (l:List ((Int × Int × Int) × Nat))(c:Nat):Obj:=.map (l.map ue).toArray c
theorem QQ (p s:Int):∀(l:List ((Int × Int × Int) × Nat)) (n:Nat),wj p s l n=none∧yc p s l=0∨∃i,wj p s l n=some (i,.int .i64 (yc p s l))
 | [],n=>.inl ⟨rfl,rfl⟩
 | ((a,b,v),c)::r,n=>by
  unfold wj yc;cases h:p == a&&s == b
  ·rw[if_neg (by rintro⟨rfl,rfl⟩;simp at h)];exact QQ p s r (n+1)
  ·rw[if_pos (by simpa using h)];exact .inr ⟨_,rfl⟩
theorem PX (p s:Int)(w:World):∀(l:List ((Int × Int × Int) × Nat)) (n:Nat),(findAsking 368 (.agg #[.int .i64 p,.int .i64 s]) (l.map ue) n).run prog w=.ok (wj p s l n) w
 | [],n=>rfl
 | ((a,b,v),c)::r,n=>by
  rw[List.map_cons,findAsking,Sem.run_bind];rw[show Op.equal 368 (.agg #[.int .i64 p,.int .i64 s]) (ue ((a,b,v),c)).key=Op.equalIn 10000 368 (.agg #[.int .i64 p,.int .i64 s]) (.agg #[.int .i64 a,.int .i64 b]) from rfl,zzt,Result.andThen_ok];unfold wj;cases p == a&&s == b
  ·exact PX p s w r (n+1)
  ·rfl
theorem Rf (p s:Int)(w:World)(l:List ((Int × Int × Int) × Nat)):(findKey 368 (.agg #[.int .i64 p,.int .i64 s]) (l.map ue)).run prog w=.ok (wj p s l 0) w:=by
 have hu:=underlying368;have h0:(findKey 368 (.agg #[.int .i64 p,.int .i64 s]) (l.map ue))=(do match findNow (←underlying 368) (.agg #[.int .i64 p,.int .i64 s]) (l.map ue) 0 with|some r=>pure r|none=>findAsking 368 (.agg #[.int .i64 p,.int .i64 s]) (l.map ue)):=rfl;rw[h0,Sem.run_bind,run_underlying hu,Result.andThen_ok];cases l with
 | nil=>rfl
 | cons x r =>
  obtain⟨⟨a,b,v⟩,c⟩:=x;exact PX p s w (((a,b,v),c)::r) 0
theorem NH (e:Bool)(a b:Int):Gap.Plain prog (checkKey e 10000 368 (.agg #[.int .i64 a,.int .i64 b])):=by cases e<;>exact of_eq_true zk
set_option maxRecDepth 20000 in
theorem zyj (a b c d:Int)(n:Nat):Gap.Plain prog (Op.equalIn (n+2) 368 (.agg #[.int .i64 a,.int .i64 b]) (.agg #[.int .i64 c,.int .i64 d])):=by
 have key:∀x y,Gap.Plain prog (Op.equalIn (n+1) 3 (.int .i64 x) (.int .i64 y)):=fun x y=>by
  unfold Op.equalIn;refine Gap.aO underlying3 ?_;dsimp only;rw[if_pos rfl];trivial
 unfold Op.equalIn;refine Gap.aO underlying368 ?_;dsimp only;refine Gap.eN ?_;rw[if_neg (by rw[Bool.not_eq_true];kernel_rfl)];rw[←Array.forIn_toList];simp only[List.forIn_cons,List.forIn_nil];rw[if_pos zd];refine Gap.af (Gap.af ?_ fun x=>?_) fun s=>?_
 ·refine Gm underlying3 rfl (Gm underlying3 rfl (Gap.af (key _ _) fun q=>?_));split<;>trivial
 ·cases x
  ·trivial
  ·refine Gap.af ?_ fun y=>?_
   ·rw[if_pos zd];refine Gm underlying3 rfl (Gm underlying3 rfl (Gap.af (key _ _) fun q=>?_));split<;>trivial
   ·cases y<;>trivial
 ·obtain⟨s,u⟩:=s;cases s<;>trivial
theorem zyk (a b c d:Int):Gap.Plain prog (Op.equal 368 (.agg #[.int .i64 a,.int .i64 b]) (.agg #[.int .i64 c,.int .i64 d])):=zyj a b c d 9998
theorem Qr (p s:Int):∀(l:List ((Int × Int × Int) × Nat)) (n:Nat),Gap.Plain prog (findAsking 368 (.agg #[.int .i64 p,.int .i64 s]) (l.map ue) n)
 | [],n=>Gap.fL none
 | ((a,b,v),c)::r,n=>by
  rw[List.map_cons,findAsking];have h1:=zyk p s a b;dsimp only[ue];generalize Op.equal 368 (.agg #[.int .i64 p,.int .i64 s]) (.agg #[.int .i64 a,.int .i64 b])=S at h1 ⊢;refine Gap.af h1 fun q=>?_
  cases q
  ·exact Qr p s r (n+1)
  ·exact Gap.fL _
theorem Sv (p s:Int)(l:List ((Int × Int × Int) × Nat)):Gap.Plain prog (findKey 368 (.agg #[.int .i64 p,.int .i64 s]) (l.map ue)):=by
 unfold findKey;refine Gap.af (Gap.eV _) fun d=>?_
 split
 ·exact Gap.fL _
 ·exact Qr p s l 0
theorem zwo (p s:Int)(hb:w.heap[r]?=some (pZ l clock)) :
  (Instr.lookup 365 (.map (some r)) (.agg #[.int .i64 p,.int .i64 s]) false).run prog w=.ok (.int .i64 (yc p s l)) w:=by
 have hm:=underlying365;have hg:(getObj r).run prog w=.ok (pZ l clock) w:=by simp[getObj,Sem.run,hb,pZ]
 have hz:(zeroValue 3).run prog w=.ok (.int .i64 0) w:=zk;have hk:=Rf p s w l;unfold pZ at hg;simp only[Instr.lookup,Sem.run_bind,run_underlying hm,Result.andThen_ok,hg,Sem.run_pure,ck,hk];rcases QQ p s l 0 with⟨h1,h2⟩|⟨i,h1⟩
 ·simp[h1,h2,hz,Sem.run_bind]
 ·simp[h1]
theorem ztf (p s:Int)(hb:w.heap[r]?=some (pZ l clock)) :
  Gap.Quiet prog (Instr.lookup 365 (.map (some r)) (.agg #[.int .i64 p,.int .i64 s]) false) w (.int .i64 (yc p s l)) w :=
 QS underlying365 hb (NH _ _ _) (Sv p s l) (zwo p s hb)
theorem zyw (a b v:Int)(hb:w.heap[r]?=some (pZ l clock))(hn:wj a b l 0=none) :
  (Instr.mapUpdate 365 (.map (some r)) (.agg #[.int .i64 a,.int .i64 b]) (.int .i64 v)).run prog w=.ok () { w with heap:=w.heap.setIfInBounds r (pZ (l++[((a,b,v),clock)]) (clock+1)) }:=by
 have hg:(getObj r).run prog w=.ok (pZ l clock) w:=by simp[getObj,Sem.run,hb,pZ]
 have hm:=underlying365;unfold pZ at hg;have hk:=Rf a b w l;rw[hn]at hk;simp only[Instr.mapUpdate,Sem.run_bind,run_underlying hm,Result.andThen_ok,hg,ck,hk];simp[setObj,Sem.run,hb,pZ,ue]
def yi (r:Nat)(l:List ((Int × Int × Int) × Nat))(c:Nat):bZ:=⟨[r],fun w=>w.heap[r]?=some (pZ l c)⟩
theorem QR (r:Nat)(l:List ((Int × Int × Int) × Nat))(c:Nat):(yi r l c).Local:=fun w w' h hb=>by
 have:=h r (by simp[yi]);simpa[yi,this]using hb
theorem Ev.St.mkMap {w0:World}{H:List bZ}{k:Value→World→Prop}(h:St w0 No w H)(hk:∀r w',w0.heap.size≤r→St w0 No w' (H++[yi r [] 0])→k (.map (some r)) w'):dy prog (Instr.makeMap 365 none) w k:=by
 refine .kR (Gap.jd _ _) fun gn gd=>?_
 replace h:=h.ed gn gd;generalize Gap.wgap w gn gd=w at h;refine⟨.map (some w.heap.size),{ w with heap:=w.heap.push (.map #[] 0) },rfl,hk _ _ h.ext.size (h.made ⟨rfl,rfl,rfl,by simp,fun i hi _=>?_⟩ (QR _ _ _) ?_ ?_)⟩
 ·show(w.heap.push _)[i]?=_;rw[Array.getElem?_push,if_neg zo]
 ·show(w.heap.push _)[w.heap.size]?=_;rw[Array.getElem?_push,if_pos rfl];rfl
 ·intro b hb;obtain rfl:b=w.heap.size:=by simpa[yi]using hb
  simp
theorem Ev.St.ins {w0:World}{H:List bZ}(h:St w0 No w H)(i:Nat){r:Nat}{l:List ((Int × Int × Int) × Nat)}{c:Nat}{a b v:Int}{k:World→Prop}(hi:H[i]?=some (yi r l c))(hn:wj a b l 0=none)
  (hk:∀w',Ext (· = r) w w'→St w0 No w' (H.set i (yi r (l++[((a,b,v),c)]) (c+1)))→k w'):pg prog (Instr.mapUpdate 365 (.map (some r)) (.agg #[.int .i64 a,.int .i64 b]) (.int .i64 v)) w k:=by
 have hb:w.heap[r]?=some (pZ l c):=h.get i hi
 have hx:Ext (· = r) w { w with heap:=w.heap.setIfInBounds r (pZ (l++[((a,b,v),c)]) (c+1)) }:=⟨rfl,rfl,rfl,by simp,fun j hj hs=>by
  have:r≠j:=fun e=>hs e.symm
  simp[this]⟩
 refine⟨.inl ⟨_,R9 underlying365 hb (NH _ _ _) (Sv a b l) (fun k'=>?_) (zyw a b v hb hn) zi rfl,hk _ hx (h.upd i hi hx (fun d hd=>by simp[yi,hd]) (QR _ _ _) ?_ fun d hd=>.inl hd)⟩⟩
 ·unfold keyThatStays;split
  ·trivial
  ·exact fun n=>trivial
 have:=(Array.getElem?_eq_some_iff.1 hb).1;show(w.heap.setIfInBounds r _)[r]?=_;simp[this]
def lW (p s:Int):Int:=if p=1 then 60 else if p≠2 then 0 else if s=1 then 10 else if s=2 then 100 else if s=3 then 5 else 0
end
section
open Ev
variable [Gap.Leaps]
variable {d d':List UInt8}{b e k l m n p q:Nat}{E:Nat→Addr}{w:World}
def oK (p s f:Int)(o:Bool):Int × Bool :=
 if p≠2 then (s,false) else if ud f 8≠0 then (0,true) else if ud f 4≠0 then (3,false)
 else if s=1∧o=false∧ud f 1≠0∧ud f 2≠0 then (2,false) else (s,false)
theorem zwq (p s f:Int)(o:Bool)(w:World):aa prog 238 #[.int .i64 p,.int .i64 s,.int .i64 f,.bool o] w fun v w'=>v=.tuple #[.int .i64 (oK p s f o).1,.bool (oK p s f o).2]∧w=w':=by
 refine zN func238 ntmps238 ?_;repeat' ((conv=>whnf);first|apply aI.mk|refine bO.mk zd ?_|refine ag.mk zo zo ?_|refine ao.mk zo zo ?_|(first|apply aM|apply ca|apply cE|apply cD)<;>(intro))
 all_goals simp_all[oK]
def o9 (p f:Int):Int × Nat :=
 if p≠1∧p≠2∨f<0∨15<f then (0,2) else if p=1 then (2,0) else if f≠1 then (0,9) else (1,0)
theorem ZN (p f:Int):(o9 p f).2<12:=by
 unfold o9;repeat' split
 all_goals decide
theorem zsE (p f:Int)(w:World)(hE:bF w E n [2,9]):aa prog 241 #[.int .i64 p,.int .i64 f] w fun v w'=>v=.tuple #[.int .i64 (o9 p f).1,gC E (o9 p f).2]∧Ext No w w':=by
 refine zN func241 ntmps241 ?_;have hS:=St.start w No;repeat' ((conv=>whnf);first|apply aI.mk|refine bO.mk zd ?_|refine ag.mk zo zo ?_|refine ao.mk zo zo ?_|refine hS.cV (hE.at_ 2 rfl) id id ?_|refine hS.cV (hE.at_ 9 rfl) id id ?_|(refine UT aj mixed [] No [0,1,2] rfl zk ?_;rintro w1 rfl;replace hS:=hS.drew)|(first|apply aM|apply ca|apply cE|apply cD)<;>(intro))
 all_goals refine⟨?_,hS.ext⟩
 all_goals clear hE hS
 all_goals unfold o9
 all_goals ((repeat' split)<;>first|rfl|(exfalso;omega)|(simp_all[over,cM];done)|(simp_all[over,cM];omega)|trace_state)
theorem zu9 (w:World):aa prog 264 #[] w fun v w'=>∃r l c,v=.map (some r)∧Ext No w w'∧w'.heap[r]?=some (pZ l c)∧∀p s,p≠1→yc p s l=lW p s:=by
 refine zN func264 ntmps264 ?_
 refine sj aj mixed [] No (.take 1 (.take 3 (.take 5 (.alt 0
  (.alt 2 (.alt 4 (.alt 6 (.take 7 (.take 8 .fin)) .fin) (.alt 6 (.alt 4 (.take 7 (.take 8 .fin)) .fin) .fin))
  (.alt 4 (.alt 2 (.alt 6 (.take 7 (.take 8 .fin)) .fin) (.alt 6 (.alt 2 (.take 7 (.take 8 .fin)) .fin) .fin))
  (.alt 6 (.alt 2 (.alt 4 (.take 7 (.take 8 .fin)) .fin) (.alt 4 (.alt 2 (.take 7 (.take 8 .fin)) .fin) .fin)) .fin))) .fin)))) zk ?_
 intro w1 Xm;have hS:=St.start w1 No;have ij:Ext No w w1:=by subst Xm;exact Ext.drawn _ _ _
 repeat' ((conv=>whnf);first|apply aI.mk|refine And.intro ?_ ?_|refine hS.mkMap (fun r w' hr hS=>?_)|refine hS.ins 0 rfl rfl (fun w' hx hS=>?_)|refine ae.mk hS.ext ?_)
 all_goals refine⟨_,_,_,rfl,ij.trans hS.ext,hS.get 0 rfl,fun p s hp=>?_⟩
 all_goals clear hS ij
 all_goals simp only[List.nil_append,List.cons_append,yc,lW]
 all_goals (by_cases h2:p=2<;>by_cases s1:s=1<;>by_cases s2:s=2<;>by_cases s3:s=3<;>simp_all)
theorem MS (p s:Int)(w:World):aa prog 230 #[.int .i64 p,.int .i64 s] w fun v w'=>v=.int .i64 (lW p s)∧Ext No w w':=by
 refine zN func230 ntmps230 ?_;refine aM (fun h=>?_) (fun h=>?_)
 ·repeat' ((conv=>whnf);first|apply aI.mk|refine bO.mk zd ?_|refine ag.mk zo zo ?_|refine ao.mk zo zo ?_|(first|apply aM|apply ca|apply cE|apply cD)<;>(intro))
  exact⟨by simp[lW,h],Ext.refl _ _⟩
 ·refine(zu9 w).mono ?_;rintro v w' ⟨r,l,c,rfl,hx,hr,hk⟩;(conv=>whnf);refine⟨.inl ⟨_,_,ztf p s hr,?_⟩⟩;repeat' ((conv=>whnf);first|apply aI.mk|refine bO.mk zd ?_|refine ag.mk zo zo ?_|refine ao.mk zo zo ?_|(first|apply aM|apply ca|apply cE|apply cD)<;>(intro))
  exact⟨by rw[hk p s h],hx⟩
theorem zsC (x:Int)(k:Nat)(hk:k<4):ud x (2 ^ k:Nat)=0∨ud x (2 ^ k:Nat)=(2 ^ k:Nat):=by
 have h1:BitVec.ofInt 64 ((2 ^ k:Nat):Int)=BitVec.twoPow 64 k:=by
  match k,hk with
  | 0,_|1,_|2,_|3,_=>rfl
  | n+4,h=>omega
 unfold ud;rw[h1,BitVec.and_twoPow];split
 ·right
  match k,hk with
  | 0,_|1,_|2,_|3,_=>rfl
  | n+4,h=>omega
 ·left
  rfl
theorem HP (x:Int)(k:Nat)(hk:k<4):(ud x (2 ^ k:Nat) == ((2 ^ k:Nat):Int))=decide (ud x (2 ^ k:Nat)≠0):=by
 have h2:((2 ^ k:Nat):Int)≠0:=by
  match k,hk with
  | 0,_|1,_|2,_|3,_=>decide
  | n+4,h=>omega
 rcases zsC x k hk with h|h
 ·rw[h];simpa using h2.symm
 ·rw[h];simpa using h2
theorem HQ (x y:Int)(w:World):aa prog 247 #[.int .i64 x,.int .i64 y] w fun v w'=>v=.bool (ud x y == y)∧w=w':=by
 refine zN func247 ntmps247 ?_;refine zE ?_;exact⟨rfl,rfl⟩
theorem zqW (p s f:Int)(o:Bool)(w:World):aa prog 211 #[.int .i64 p,.int .i64 s,.int .i64 f,.bool o] w fun v w'=>v=.tuple #[.int .i64 (oK p s f o).1,.bool (oK p s f o).2]∧w=w':=by
 have b0:=HP f 0 zd;have b1:=HP f 1 zd;have b2:=HP f 2 zd;have b3:=HP f 3 zd;simp only[show((2 ^ 0:Nat):Int)=1 from rfl,show((2 ^ 1:Nat):Int)=2 from rfl,show((2 ^ 2:Nat):Int)=4 from rfl,show((2 ^ 3:Nat):Int)=8 from rfl]at b0 b1 b2 b3;have c0:=HQ f 1 w;have c1:=HQ f 2 w;have c2:=HQ f 4 w;have c3:=HQ f 8 w;rw[b0]at c0;rw[b1]at c1;rw[b2]at c2;rw[b3]at c3;refine zN func211 ntmps211 ?_;repeat' ((conv=>whnf);first|apply aI.mk|refine bO.mk zd ?_|refine ag.mk zo zo ?_|refine ao.mk zo zo ?_|(refine c3.mono ?_;rintro v w' ⟨rfl,rfl⟩)|(refine c2.mono ?_;rintro v w' ⟨rfl,rfl⟩)|(refine c1.mono ?_;rintro v w' ⟨rfl,rfl⟩)|(refine c0.mono ?_;rintro v w' ⟨rfl,rfl⟩)|(first|apply aM|apply ca|apply cE|apply cD)<;>(intro))
 all_goals simp_all[oK]
theorem zox (p f:Int)(w:World):aa prog 175 #[.int .i64 p,.int .i64 f] w fun v w'=>v=.tuple #[.int .i64 (o9 p f).1,.int .i64 (o9 p f).2]∧w=w':=by
 refine zN func175 ntmps175 ?_;repeat' ((conv=>whnf);first|apply aI.mk|refine bO.mk zd ?_|refine ag.mk zo zo ?_|refine ao.mk zo zo ?_|(first|apply aM|apply ca|apply cE|apply cD)<;>(intro))
 all_goals refine⟨?_,rfl⟩
 all_goals unfold o9
 all_goals ((repeat' split)<;>first|rfl|(exfalso;omega)|(simp_all[over,cM];done)|(simp_all[over,cM];omega)|trace_state)
theorem LD (p s:Int)(w:World):aa prog 168 #[.int .i64 p,.int .i64 s] w fun v w'=>v=.int .i64 (lW p s)∧w=w':=by
 refine zN func168 ntmps168 ?_;repeat' ((conv=>whnf);first|apply aI.mk|refine bO.mk zd ?_|refine ag.mk zo zo ?_|refine ao.mk zo zo ?_|(first|apply aM|apply ca|apply cE|apply cD)<;>(intro))
 all_goals refine⟨?_,rfl⟩
 all_goals unfold lW
 all_goals ((repeat' split)<;>first|rfl|(exfalso;omega)|(simp_all[over,cM];done)|(simp_all[over,cM];omega)|trace_state)
structure bN where
 node:Int
 ah:Int
 cd:Int
 aE:Bool
def k4 (r:bN):List Value:=[.int .i64 r.node,.int .i64 r.ah,.int .i64 r.cd,.bool r.aE]
structure bN.Ok (r:bN):Prop where
 n0:r.node=0∨r.node=1
 e0:0≤r.ah
 e1:r.ah≤1073741824
 s0:0≤r.cd
 s1:r.cd≤1000000000000
def bN.next (r:bN):Int × Nat :=
 let e:=if (r.ah+1).tmod 2≠r.node then r.ah+1+1 else r.ah+1
 if e>1073741824 then (0,2) else (e,0)
def bN.tick (r:bN):Bool × bN:=if r.aE then (false,r) else (decide (r.cd+1>9),{ r with cd:=r.cd+1 })
def bN.claim (r:bN)(e:Int):Nat × bN :=
 if r.aE then (11,r) else if r.next.2≠0 then (r.next.2,r) else if r.next.1≠e then (3,r) else (0,{ r with aE:=true,ah:=e })
def bN.hear (r:bN)(e:Int):Bool × bN :=
 if e<0∨e>1073741824 then (false,r) else
 let d:=if e>r.ah then r.aE else false
 let r1:=if e>r.ah then { r with ah:=e,aE:=false } else r
 (d,if r1.aE=false∧e=r1.ah then { r1 with cd:=0 } else r1)
section
variable {r:bN}
theorem Aw (hb:bC w b 257 (k4 r)):aa prog 147 #[.pointer (some ⟨b,0,none⟩)] w fun v w'=>v=.bool r.aE∧w=w':=by
 refine zN func147 ntmps147 ?_;have hS:=St.sb hb;repeat' first|refine zP ?_|refine hS.lD 0 ?_
 exact⟨rfl,rfl⟩
theorem vN (hb:bC w b 257 (k4 r)):aa prog 150 #[.pointer (some ⟨b,0,none⟩)] w fun v w'=>v=.int .i64 r.ah∧w=w':=by
 refine zN func150 ntmps150 ?_;have hS:=St.sb hb;repeat' first|refine zP ?_|refine hS.lD 0 ?_
 exact⟨rfl,rfl⟩
theorem zrA (hb:bC w b 257 (k4 r))(hr:r.Ok):aa prog 199 #[.pointer (some ⟨b,0,none⟩)] w fun v w'=>v=.bool r.tick.1∧Ext (· = b) w w'∧bC w' b 257 (k4 r.tick.2):=by
 have h1:=hr.s1;have h0:=hr.s0;refine zN func199 ntmps199 ?_;have hS:=(St.start w (· = b)).add (eh b _ _) hb (by simp[blk];exact hb.lt) zi;refine hS.lD 0 ?_;apply aR<;>intro ha
 ·repeat' first|refine zP ?_|apply aR<;>intro
  have e:r.tick=(false,r):=by simp[bN.tick,ha]
  rw[e];exact⟨rfl,hS.ext,hS.blk 0 rfl⟩
 ·repeat' ((conv=>whnf);first|apply aI.mk|refine bO.mk zd ?_|refine ag.mk zo zo ?_|refine ao.mk zo zo ?_|refine hS.ld 0 rfl rfl ?_|refine hS.st 0 rfl zl rfl (fun w' hS=>?_)|(first|apply aM|apply ca|apply cE|apply cD)<;>(intro))
  have e:r.tick=(decide (r.cd+1>9),{ r with cd:=r.cd+1 }):=by simp[bN.tick,ha]
  rw[e];exact⟨rfl,hS.ext,hS.blk 0 rfl⟩
theorem zzP {x:Int}(h:0≤x):x.tmod 2=x % 2:=Int.tmod_eq_emod_of_nonneg h
theorem RE (hb:bC w b 257 (k4 r))(hr:r.Ok){n:Nat}(hE:bF w E n [2]) :
  aa prog 227 #[.pointer (some ⟨b,0,none⟩)] w fun v w'=>v=.tuple #[.int .i64 r.next.1,gC E r.next.2]∧Ext No w w':=by
 have h1:=hr.e1;have h0:=hr.e0;refine zN func227 ntmps227 ?_;have hS:=St.start w No;repeat' ((conv=>whnf);first|refine hS.cK (show w.cell? ⟨b,0+0,none⟩=_ from hb.cell _) id ?_|refine hS.cK (show w.cell? ⟨b,0+1,none⟩=_ from hb.cell _) id ?_|refine hS.dr [] No [0,1,2] fun w1 hS=>?_|refine hS.cV (hE.at_ 2 rfl) id id ?_|apply aI.mk|refine bO.mk zd ?_|refine ag.mk zo zo ?_|refine aM ?_ ?_<;>(intro)|refine ca ?_ ?_<;>(intro))
 all_goals refine⟨?_,hS.ext⟩
 all_goals clear hb hE hS
 all_goals unfold bN.next;dsimp only
 all_goals ((repeat' split)<;>first|rfl|(exfalso;omega)|(simp_all[over,cM];done)|(simp_all[over,cM];omega)|trace_state)
theorem zpj (e:Int)(hb:bC w b 257 (k4 r))(hr:r.Ok){n:Nat}(hE:bF w E n [2,3,11])(hn:n≤b) :
  aa prog 228 #[.pointer (some ⟨b,0,none⟩),.int .i64 e] w fun v w'=>v=gC E (r.claim e).1∧Ext (· = b) w w'∧bC w' b 257 (k4 (r.claim e).2):=by
 refine zN func228 ntmps228 ?_;have hS:=St.sb hb;(conv=>whnf);have g2:=hE.lt 2 rfl;have g3:=hE.lt 3 rfl;have Vy:=hE.lt 11 rfl;simp only[nI]at g2 g3 Vy;refine hS.cn (RE hb hr (hE.sub rfl)) fun w' hS=>?_
 obtain⟨x,k,hk,iw⟩:∃x k,r.next=(x,k)∧(k=0∨k=2):=by
  refine⟨r.next.1,r.next.2,rfl,?_⟩;unfold bN.next;dsimp only;split<;>split<;>simp
 rw[hk];rcases iw with rfl|rfl
 all_goals repeat' first|refine zP ?_|refine hS.lD 0 ?_|refine hS.cK (hE.at_ 2 rfl) (hE.ne 2 rfl hn) ?_|refine hS.cK (hE.at_ 3 rfl) (hE.ne 3 rfl hn) ?_|refine hS.cK (hE.at_ 11 rfl) (hE.ne 11 rfl hn) ?_|refine hS.sT 0 fun w' hS=>?_|apply aR<;>intro
 all_goals have hB:=hS.blk 0 rfl
 all_goals refine⟨?_,hS.ext,hB.to ?_⟩
 all_goals clear hB hS
 all_goals unfold bN.claim;rw[hk];dsimp only[k4]
 all_goals ((repeat' split)<;>first|rfl|(exfalso;omega)|(simp_all[over,cM];done)|(simp_all[over,cM];omega)|trace_state)
theorem zrz (e:Int)(hb:bC w b 257 (k4 r)):aa prog 194 #[.pointer (some ⟨b,0,none⟩),.int .i64 e] w fun v w'=>v=.bool (r.hear e).1∧Ext (· = b) w w'∧bC w' b 257 (k4 (r.hear e).2):=by
 refine zN func194 ntmps194 ?_;have hS:=St.sb hb;repeat' ((conv=>whnf);first|apply aI.mk|refine bO.mk zd ?_|refine ag.mk zo zo ?_|refine ao.mk zo zo ?_|refine hS.ld 0 rfl rfl ?_|refine hS.st 0 rfl zl rfl (fun w' hS=>?_)|(first|apply aM|apply ca|apply cE|apply cD)<;>(intro))
 all_goals have hB:=hS.blk 0 rfl
 all_goals refine⟨?_,hS.ext,hB.to ?_⟩
 all_goals clear hB hS hb
 all_goals unfold bN.hear;dsimp only[k4]
 all_goals ((repeat' split)<;>first|rfl|(exfalso;omega)|(simp_all[over,cM];done)|(simp_all[over,cM];omega)|trace_state)
theorem ztF (a e:Int)(w:World)(ha:a=0∨a=1)(h0:0≤e)(h1:e≤1073741824):aa prog 73 #[.int .i64 a,.int .i64 e] w fun v w' =>
  ∃b,v=.tuple #[.pointer (some ⟨b,0,none⟩),.nilIface]∧w.heap.size≤b∧Ext No w w'∧bC w' b 257 (k4 ⟨a,e,0,false⟩):=by
 refine zN func73 ntmps73 ?_;have hS:=St.start w No;repeat' ((conv=>whnf);first|refine hS.new (fun b w' hb hS=>?_)|apply aI.mk|refine aM ?_ ?_<;>(intro)|refine ca ?_ ?_<;>(intro))
 all_goals first|(exfalso;omega)|exact⟨_,rfl,hb,hS.ext,hS.blk 0 rfl⟩
end
structure gq (B:aP):Prop where
 len:B.data.length=64
 lo : -1≤B.left
 hi:B.left≤9223372036854775807
theorem gq.write:∀(s:List UInt8) {B:aP} (p:Nat),gq B→gq (B.write p s).2
 | [],_,_,h=>h
 | x::r,B,p,h=>by
  rw[xK];split
  ·exact⟨h.len,h.lo,h.hi⟩
  ·refine gq.write r (p+1) ⟨by rw[List.length_set];exact h.len,?_,?_⟩;all_goals have:=h.lo
   all_goals have:=h.hi
   all_goals dsimp only
   all_goals split<;>omega
def mark (B:aP)(p:Nat):Bool × aP:=match B.data[p]? with
 | some x=>if x=0 then (true,B) else B.write p [0]
 | none=>(true,B)
def cJ (B:aP)(n e l:Nat):Bool × aP :=
 if B.off=true then (false,B) else
 if (mark B (n % 2*20+16)).1=true then
  if ((mark B (n % 2*20+16)).2.write (n % 2*20) (iu n e l)).1=true then ((mark B (n % 2*20+16)).2.write (n % 2*20) (iu n e l)).2.write (n % 2*20+16) [165]
  else (false,((mark B (n % 2*20+16)).2.write (n % 2*20) (iu n e l)).2)
 else (false,(mark B (n % 2*20+16)).2)
theorem gq.mark {B:aP}(p:Nat)(h:gq B):gq (mark B p).2:=by
 unfold Proofs.YtggfpjldhglmeaaGreatDoor.mark;split
 ·split
  ·exact h
  ·exact h.write _ _
 ·exact h
theorem gq.cJ {B:aP}(n e l:Nat)(h:gq B):gq (cJ B n e l).2:=by
 unfold Proofs.YtggfpjldhglmeaaGreatDoor.cJ;split
 ·exact h
 ·split
  ·split
   ·exact gq.write _ _ (gq.write _ _ (h.mark _))
   ·exact gq.write _ _ (h.mark _)
  ·exact h.mark _
structure dC where
 num:Nat
 ep:Nat
 li:Nat
 dead:Bool
deriving DecidableEq
def mH (b:Nat)(C:dC):List Value:=[.pointer (some ⟨b,0,none⟩),.int .i64 (C.num:Int),.int .i64 (C.ep:Int),.int .i64 (C.li:Int),.bool C.dead]
section
variable {c:Nat}{B:aP}{C:dC}
theorem Rn (hC:bC w c 253 (mH b C)):aa prog 71 #[.pointer (some ⟨c,0,none⟩)] w fun v w'=>v=.int .i64 (C.ep:Int)∧Ext No w w':=by
 refine zN func71 ntmps71 ?_;have hS:=St.start w No;refine g9 (hC.cell 2) ?_;exact zF
theorem uI (hC:bC w c 253 (mH b C)):aa prog 72 #[.pointer (some ⟨c,0,none⟩)] w fun v w'=>v=.int .i64 (C.li:Int)∧Ext No w w':=by
 refine zN func72 ntmps72 ?_;have hS:=St.start w No;refine g9 (hC.cell 3) ?_;exact zF
theorem zp8 (n e l:Nat)(hn:n<9223372036854775808)(he:e<9223372036854775808)(hl:l<9223372036854775808)(hC:bC w c 253 (mH b C))(hB:bC w b 176 (dL B))(hO:gq B)(hE:bF w E q [7])(hq:q≤b) :
  aa prog 129 #[.pointer (some ⟨c,0,none⟩),.int .i64 (n:Int),.int .i64 (e:Int),.int .i64 (l:Int)] w fun v w'=>v=gC E (if (cJ B n e l).1=true then 0 else 7)∧Ext (· = b) w w'∧bC w' b 176 (dL (cJ B n e l).2):=by
 have lR:¬c=b:=bC.ne hC hB zd;have l7:(n:Int).tmod 2=((n % 2:Nat):Int):=by rw[Int.tmod_eq_emod_of_nonneg zo];omega
 have nv:n % 2<2:=Nat.mod_lt _ zo;have gY:=AA n e l;unfold cJ;refine zN func129 ntmps129 ?_;have hb:=hB;have hS:=St.sb hb;have u4:(n:Int).tmod 2*20=((n % 2*20:Nat):Int):=by rw[l7];omega
 have IC:n % 2*20≤20:=by omega
 generalize n % 2*20=p at u4 IC;repeat' ((conv=>whnf);first|apply aI.mk|refine bO.mk zd ?_|refine ag.mk zo zo ?_|refine ao.mk zo zo ?_|refine ag.mk zo zo ?_|(first|apply aM|apply ca|apply cE|apply cD)<;>(intro))
 rw[u4];(conv=>whnf);refine hS.cK (hC.cell 0) lR ?_;refine hS.ld 0 rfl (ET hO.len) ?_;cases j9:B.off
 ·rw[if_neg Bool.false_ne_true];refine hS.cK (hC.cell 0) lR ?_;refine ag.mk zo zo ?_;refine ao.mk zo zo ?_;obtain⟨x,hx⟩:∃x,B.data[p+16]?=some x:=⟨_,List.getElem?_eq_getElem (by have:=hO.len;omega)⟩;have vj:mark B (p+16)=if x=0 then (true,B) else B.write (p+16) [0]:=by unfold mark;rw[hx]
  refine hS.ld 0 rfl (o:=0+0+((p:Int)+16).toNat*1) (by rw[show 0+0+((p:Int)+16).toNat*1=p+16 by omega];exact zzl hx) ?_;refine OJ ?_;refine ca (fun h1=>?_) (fun h1=>?_)
  ·rw[if_neg (by rintro rfl;exact h1 rfl)]at vj;rw[vj];have jk:=hO.write [0] (p+16);refine hS.cK (hC.cell 0) lR ?_;refine ag.mk zo zo ?_;refine(El (p+16) [0] (by simp;omega) (hS.blk 0 rfl) hO.len ⟨hO.lo,hO.hi⟩ (hE.ext hS.ext fun k hk=>by subst hk;exact hq) hq).mono ?_;rintro v w' ⟨rfl,aU,hB⟩;replace hS:=hS.uB 0 aU hB;generalize B.write (p+16) [0]=R at hS jk;obtain⟨ok,B1⟩:=R;cases ok
   ·exact zG
   ·rw[if_pos rfl];(conv=>whnf);have dG:=gq.write (iu n e l) p jk;refine hS.dr [] ((· = b)) [0,1,2,3,4,5,6,7,8,9,10] fun w1 hS=>?_
    repeat' first|refine zP ?_|refine hS.cV (hC.cell 0) lR lR ?_
    refine(MK n e l hn he hl _).mono ?_;rintro v w2 ⟨rfl,eH⟩;replace hS:=hS.no eH;refine ae.mk eH.aF ?_;refine(El p (iu n e l) zo (hS.blk 0 rfl) jk.len ⟨jk.lo,jk.hi⟩ (hE.ext hS.ext fun k hk=>by subst hk;exact hq) hq).mono ?_;rintro v w' ⟨rfl,aU,hB⟩;replace hS:=hS.upd 0 rfl aU (fun c hc=>by subst hc;exact List.mem_singleton.2 rfl) (eh _ _ _) hB (fun c hc=>.inl hc);refine ae.mk (eH.aF.trans aU) ?_;generalize aP.write B1 p (iu n e l)=R at hS dG ⊢;obtain⟨ok,B2⟩:=R;cases ok
    ·exact zG
    ·rw[if_pos rfl];refine hS.cK (hC.cell 0) lR ?_;refine ag.mk zo zo ?_;refine(El (p+16) [165] (by simp;omega) (hS.blk 0 rfl) dG.len ⟨dG.lo,dG.hi⟩ (hE.ext hS.ext fun k hk=>by subst hk;exact hq) hq).mono ?_;rintro v w' ⟨rfl,aU,hB⟩;replace hS:=hS.upd 0 rfl aU (fun c hc=>by subst hc;exact List.mem_singleton.2 rfl) (eh _ _ _) hB (fun c hc=>.inl hc);repeat' first|refine zP ?_|apply aR<;>intro
     exact⟨rfl,hS.ext,hS.blk 0 rfl⟩
  ·rw[if_pos (by
    have h2:x.toNat=0:=by omega
    exact UInt8.toNat_inj.1 h2)]at vj
   rw[vj,if_pos rfl];(conv=>whnf);have dG:=gq.write (iu n e l) p hO;refine hS.dr [] ((· = b)) [0,1,2,3,4,5,6,7,8,9,10] fun w1 hS=>?_
   repeat' first|refine zP ?_|refine hS.cV (hC.cell 0) lR lR ?_
   refine(MK n e l hn he hl _).mono ?_;rintro v w2 ⟨rfl,eH⟩;replace hS:=hS.no eH;refine ae.mk eH.aF ?_;refine(El p (iu n e l) zo (hS.blk 0 rfl) hO.len ⟨hO.lo,hO.hi⟩ (hE.ext hS.ext fun k hk=>by subst hk;exact hq) hq).mono ?_;rintro v w' ⟨rfl,aU,hB⟩;replace hS:=hS.upd 0 rfl aU (fun c hc=>by subst hc;exact List.mem_singleton.2 rfl) (eh _ _ _) hB (fun c hc=>.inl hc);refine ae.mk (eH.aF.trans aU) ?_;generalize aP.write B p (iu n e l)=R at hS dG ⊢;obtain⟨ok,B2⟩:=R;cases ok
   ·exact zG
   ·rw[if_pos rfl];refine hS.cK (hC.cell 0) lR ?_;refine ag.mk zo zo ?_;refine(El (p+16) [165] (by simp;omega) (hS.blk 0 rfl) dG.len ⟨dG.lo,dG.hi⟩ (hE.ext hS.ext fun k hk=>by subst hk;exact hq) hq).mono ?_;rintro v w' ⟨rfl,aU,hB⟩;replace hS:=hS.uB 0 aU hB;exact zG
 ·rw[if_pos rfl];repeat' first|refine zP ?_|refine hS.cK (hE.at_ 7 rfl) (hE.ne 7 rfl hq) ?_|refine hS.cV (hE.at_ 7 rfl) (hE.ne 7 rfl hq) id ?_
  exact⟨rfl,hS.ext,hS.blk 0 rfl⟩
end
def dC.put (C:dC)(B:aP)(e l:Int):Nat × aP × dC :=
 if C.dead=true then (7,B,C) else
 if e<0∨e>1073741824∨l<0∨l>1073741824 then (2,B,C) else
 if e<C.ep∨l<C.li then (10,B,C) else
 if C.num+1≥4294967296 then (6,B,C) else
 if (cJ B (C.num+1) e.toNat l.toNat).1=true then (0,(cJ B (C.num+1) e.toNat l.toNat).2,⟨C.num+1,e.toNat,l.toNat,C.dead⟩)
 else (7,(cJ B (C.num+1) e.toNat l.toNat).2,⟨C.num,C.ep,C.li,true⟩)
def gm (d:List UInt8)(k:Nat):List UInt8:=(d.drop (k*20)).take 17
def fF (d:List UInt8)(k:Nat):Nat:=jU ((gm d k).take 4)
def mo (d:List UInt8)(k:Nat):Nat:=jU (((gm d k).drop 4).take 4)
def mq (d:List UInt8)(k:Nat):Nat:=jU (((gm d k).drop 8).take 4)
def kF (d:List UInt8)(k:Nat):Prop:=1≤fF d k∧fF d k % 2=k∧iu (fF d k) (mo d k) (mq d k)++[165]=gm d k
instance (d:List UInt8)(k:Nat):Decidable (kF d k):=by unfold kF;infer_instance
def uR (d:List UInt8)(k:Nat)(C:dC):dC:=if kF d k∧fF d k>C.num then ⟨fF d k,mo d k,mq d k,C.dead⟩ else C
def je (d:List UInt8):Nat→dC
 | 0=>⟨0,0,0,false⟩
 | k+1=>uR d k (je d k)
def cU (d:List UInt8):dC:=je d 2
theorem Sr (h:d.length=64)(hk:k<2):(gm d k).length=17:=by
 unfold gm;rw[List.length_take,List.length_drop];omega
theorem Nq {l:List UInt8}(h:l.length≤4):jU l<4294967296:=by
 have h1:=MU l;have h2:256 ^ l.length≤256 ^ 4:=Nat.pow_le_pow_right zo h;omega
theorem Mw (d:List UInt8)(k:Nat):fF d k<4294967296:=Nq (by rw[List.length_take];omega)
theorem Mt (d:List UInt8)(k:Nat):mo d k<4294967296:=Nq (by rw[List.length_take];omega)
theorem Mv (d:List UInt8)(k:Nat):mq d k<4294967296:=Nq (by rw[List.length_take];omega)
theorem Hl (d:List UInt8):∀k,(je d k).num<4294967296∧(je d k).ep<4294967296∧(je d k).li<4294967296
 | 0=>by simp[je]
 | k+1=>by
  unfold je uR;split
  ·exact⟨Mw d k,Mt d k,Mv d k⟩
  ·exact Hl d k
section
variable {c:Nat}{B:aP}{C:dC}
theorem zsO (hB:bC w b 176 (dL B))(hl:B.data.length=64)(ho:B.off=false):aa prog 69 #[.pointer (some ⟨b,0,none⟩)] w fun v w'=>∃c,v=.tuple #[.pointer (some ⟨c,0,none⟩),.nilIface]∧w.heap.size≤c∧Ext No w w'∧bC w' c 253 (mH b (cU B.data)):=by
 refine r5 aj func69 zk rfl ntmps69 zl ?_;have hS:=St.start w No;(conv=>whnf);refine g9 (v:=.bool B.off) (by rw[hB.cell];exact ET hl) ?_;rw[ho];(conv=>whnf);refine hS.new (fun c w' hc hS=>?_);(conv=>whnf)
 refine d5 aj (fun σ w' q=>∃k:Nat,σ=[(21,.int .i64 k),(4,.pointer (some ⟨c,0,none⟩)),(0,.pointer (some ⟨b,0,none⟩))]∧q=2-k∧k≤2∧St w No w' [blk c 253 (mH b (je B.data k))])
  (σ':=[(21,.int .i64 ((0:Nat):Int)),(4,.pointer (some ⟨c,0,none⟩)),(0,.pointer (some ⟨b,0,none⟩))]) (n:=2) zs ⟨0,rfl,rfl,Nat.zero_le _,hS⟩ ?_
 clear hS;rintro _ w1 q ⟨k,rfl,rfl,hk,hS⟩;(conv=>whnf);refine aM (fun h3=>?_) (fun h3=>?_)
 ·have iw:k<2:=by omega
  have lT:=Sr hl iw;have n1:=Mw B.data k;have n2:=Mt B.data k;have n3:=Mv B.data k;have aX:je B.data (k+1)=uR B.data k (je B.data k):=rfl;(conv=>whnf);refine(zvV (hS.ext.blk hB id) hl).mono ?_;rintro v w' ⟨rfl,aU⟩;replace hS:=hS.no aU;clear aU;repeat' ((conv=>whnf);first|apply aI.mk|refine bO.mk zd ?_|refine ag.mk zo zo ?_|refine ao.mk zo zo ?_|refine ag.mk zo zo ?_|(first|apply aM|apply ca|apply cE|apply cD)<;>(intro))
  refine wz (a:=k*20) (b:=k*20+17) (r:=gm B.data k) underlying9 zo zo zo zo (by unfold gm;congr 1;omega) ?_;(conv=>whnf);refine hS.dr [] No [0,1,3,4,6,7,2,5,8,9,10,11] fun w1 hS=>?_
  (conv=>whnf);refine pW (b:=4) underlying9 rfl zo rfl ?_;(conv=>whnf);refine wz (a:=4) (b:=8) underlying9 rfl rfl zo zo rfl ?_;(conv=>whnf);refine wz (a:=8) (b:=12) underlying9 rfl rfl zo zo rfl ?_;(conv=>whnf);refine(Mn ((gm B.data k).take 4) (by rw[List.length_take];omega) _).mono ?_;rintro v w2 ⟨rfl,eH⟩;replace hS:=hS.no eH;refine ae.mk eH ?_;(conv=>whnf);refine(Mn (((gm B.data k).drop 4).take (8-4)) (by rw[List.length_take];omega) _).mono ?_;rintro v w3 ⟨rfl,fC⟩;replace hS:=hS.no fC;refine ae.mk (eH.trans fC) ?_;(conv=>whnf);refine(Mn (((gm B.data k).drop 8).take (12-8)) (by rw[List.length_take];omega) _).mono ?_;rintro v w4 ⟨rfl,k3⟩;replace hS:=hS.no k3;refine ae.mk ((eH.trans fC).trans k3) ?_;clear eH fC k3;rw[show jU ((gm B.data k).take 4)=fF B.data k from rfl,show jU (((gm B.data k).drop 4).take (8-4))=mo B.data k from rfl,show jU (((gm B.data k).drop 8).take (12-8))=mq B.data k from rfl];have l7:(fF B.data k:Int).tmod 2=((fF B.data k % 2:Nat):Int):=by rw[Int.tmod_eq_emod_of_nonneg zo];omega
  have hf:kF B.data k↔(1≤fF B.data k∧fF B.data k % 2=k∧iu (fF B.data k) (mo B.data k) (mq B.data k)++[165]=gm B.data k):=Iff.rfl;have bR:uR B.data k (je B.data k)=if kF B.data k∧fF B.data k>(je B.data k).num then ⟨fF B.data k,mo B.data k,mq B.data k,(je B.data k).dead⟩ else je B.data k:=rfl
  generalize hn:fF B.data k=rn at *;generalize hee:mo B.data k=re at *;generalize nt:mq B.data k=rl at *;(conv=>whnf);refine aM (fun h4=>?_) (fun h4=>?_)
  ·(conv=>whnf)
   refine bO.mk zd ?_;rw[l7];(conv=>whnf);refine aM (fun h5=>?_) (fun h5=>?_)
   ·(conv=>whnf)
    refine(MK rn re rl zo zo zo _).mono ?_;rintro v w' ⟨rfl,aU⟩;replace hS:=hS.no aU;clear aU;(conv=>whnf);refine kt (b:=[165]) (by rw[AA];simp) ?_;(conv=>whnf);refine rF ?_;(conv=>whnf);refine aM (fun h6=>?_) (fun h6=>?_)
    ·(conv=>whnf)
     refine hS.ld 0 rfl rfl ?_;(conv=>whnf);refine aM (fun h7=>?_) (fun h7=>?_)
     ·rw[bR,if_pos ⟨hf.2 ⟨by omega,by omega,h6⟩,by omega⟩]at aX;(conv=>whnf);refine hS.st 0 rfl zl rfl (fun w' hS=>?_);(conv=>whnf);refine hS.st 0 rfl zl rfl (fun w' hS=>?_);(conv=>whnf);refine hS.st 0 rfl zl rfl (fun w' hS=>?_);replace hS:St w No w' [blk c 253 (mH b ⟨rn,re,rl,(je B.data k).dead⟩)]:=hS;rw[←aX]at hS;(conv=>whnf);refine ag.mk zo zo ?_;(conv=>whnf);refine aD.mk ⟨_,[(21,.int .i64 ((k+1:Nat):Int)),(4,_),(0,_)],?_,zs,⟨k+1,rfl,rfl,by omega,hS⟩⟩;omega
     ·skip
      rw[bR,if_neg (fun h=>h7 (by have:=h.2;omega))]at aX;(conv=>whnf);refine ag.mk zo zo ?_;(conv=>whnf);refine aD.mk ⟨_,[(21,.int .i64 ((k+1:Nat):Int)),(4,_),(0,_)],?_,zs,⟨k+1,rfl,rfl,by omega,by rw[aX];exact hS⟩⟩;omega
    ·skip
     rw[bR,if_neg (fun h=>h6 (hf.1 h.1).2.2)]at aX;(conv=>whnf);refine ag.mk zo zo ?_;(conv=>whnf);refine aD.mk ⟨_,[(21,.int .i64 ((k+1:Nat):Int)),(4,_),(0,_)],?_,zs,⟨k+1,rfl,rfl,by omega,by rw[aX];exact hS⟩⟩;omega
   ·skip
    rw[bR,if_neg (fun h=>h5 (by have:=(hf.1 h.1).2.1;omega))]at aX;(conv=>whnf);refine ag.mk zo zo ?_;(conv=>whnf);refine aD.mk ⟨_,[(21,.int .i64 ((k+1:Nat):Int)),(4,_),(0,_)],?_,zs,⟨k+1,rfl,rfl,by omega,by rw[aX];exact hS⟩⟩;omega
  ·skip
   rw[bR,if_neg (fun h=>h4 (by have:=(hf.1 h.1).1;omega))]at aX;(conv=>whnf);refine ag.mk zo zo ?_;(conv=>whnf);refine aD.mk ⟨_,[(21,.int .i64 ((k+1:Nat):Int)),(4,_),(0,_)],?_,zs,⟨k+1,rfl,rfl,by omega,by rw[aX];exact hS⟩⟩;omega
 ·obtain rfl:k=2:=by omega
  repeat' ((conv=>whnf);first|apply aI.mk|refine bO.mk zd ?_|refine ag.mk zo zo ?_|refine ao.mk zo zo ?_|(first|apply aM|apply ca|apply cE|apply cD)<;>(intro))
  exact⟨c,rfl,hc,hS.ext,hS.blk 0 rfl⟩
theorem Tj (e l:Int)(hC:bC w c 253 (mH b C))(hB:bC w b 176 (dL B))(hO:gq B)(hN:C.num<4294967296)(hE:bF w E q [2,6,7,10])(hq:q≤b)(tG:q≤c) :
  aa prog 70 #[.pointer (some ⟨c,0,none⟩),.int .i64 e,.int .i64 l] w fun v w'=>v=gC E (C.put B e l).1∧Ext (fun d=>d=b∨d=c) w w'∧bC w' b 176 (dL (C.put B e l).2.1)∧bC w' c 253 (mH b (C.put B e l).2.2):=by
 have lR:¬c=b:=bC.ne hC hB zd;unfold dC.put;refine r5 aj func70 zk rfl ntmps70 zl ?_;have hS:=(St.start w (fun d=>d=b∨d=c)).add (eh b _ _) hB (by simp[blk];exact hB.lt) zi;have hS:=hS.add (eh c _ _) hC (by simp[blk];exact hC.lt) (by simp[blk];omega);(conv=>whnf);refine hS.ld 1 rfl (o:=4) rfl ?_;cases hd:C.dead
 ·rw[if_neg Bool.false_ne_true];by_cases hr:e<0∨e>1073741824∨l<0∨l>1073741824
  ·rw[if_pos hr];(conv=>whnf);refine aM (fun h1=>?_) (fun h1=>?_)
   ·skip
    repeat' first|refine zP ?_|refine hS.cK (hE.at_ 2 rfl) (fun h=>h.elim (hE.ne 2 rfl hq) (hE.ne 2 rfl tG)) ?_|apply aR<;>intro
    exact⟨rfl,hS.ext,hS.blk 0 rfl,hS.blk 1 rfl⟩
   (conv=>whnf);refine aM (fun h2=>?_) (fun h2=>?_)
   ·skip
    repeat' first|refine zP ?_|refine hS.cK (hE.at_ 2 rfl) (fun h=>h.elim (hE.ne 2 rfl hq) (hE.ne 2 rfl tG)) ?_|apply aR<;>intro
    exact⟨rfl,hS.ext,hS.blk 0 rfl,hS.blk 1 rfl⟩
   (conv=>whnf);refine aM (fun h3=>?_) (fun h3=>?_)
   ·skip
    repeat' first|refine zP ?_|refine hS.cK (hE.at_ 2 rfl) (fun h=>h.elim (hE.ne 2 rfl hq) (hE.ne 2 rfl tG)) ?_|apply aR<;>intro
    exact⟨rfl,hS.ext,hS.blk 0 rfl,hS.blk 1 rfl⟩
   (conv=>whnf);refine aM (fun h4=>?_) (fun h4=>absurd hr zo);repeat' first|refine zP ?_|refine hS.cK (hE.at_ 2 rfl) (fun h=>h.elim (hE.ne 2 rfl hq) (hE.ne 2 rfl tG)) ?_|apply aR<;>intro
   exact⟨rfl,hS.ext,hS.blk 0 rfl,hS.blk 1 rfl⟩
  rw[if_neg hr];(conv=>whnf);refine aM (fun h=>absurd h zo) (fun h1=>?_);(conv=>whnf);refine aM (fun h=>absurd h zo) (fun h2=>?_);(conv=>whnf);refine aM (fun h=>absurd h zo) (fun h3=>?_);(conv=>whnf);refine aM (fun h=>absurd h zo) (fun h4=>?_);obtain⟨e,rfl⟩:=Int.eq_ofNat_of_zero_le (show 0≤e by omega);obtain⟨l,rfl⟩:=Int.eq_ofNat_of_zero_le (show 0≤l by omega);simp only[Int.toNat_natCast];(conv=>whnf);refine hS.ld 1 rfl (o:=2) rfl ?_;by_cases ho:(e:Int)<C.ep∨(l:Int)<C.li
  ·rw[if_pos ho];(conv=>whnf);refine aM (fun h5=>?_) (fun h5=>?_)
   ·skip
    repeat' first|refine zP ?_|refine hS.cK (hE.at_ 10 rfl) (fun h=>h.elim (hE.ne 10 rfl hq) (hE.ne 10 rfl tG)) ?_|apply aR<;>intro
    exact⟨rfl,hS.ext,hS.blk 0 rfl,hS.blk 1 rfl⟩
   (conv=>whnf);refine hS.ld 1 rfl (o:=3) rfl ?_;(conv=>whnf);refine aM (fun h6=>?_) (fun h6=>absurd ho zo);repeat' first|refine zP ?_|refine hS.cK (hE.at_ 10 rfl) (fun h=>h.elim (hE.ne 10 rfl hq) (hE.ne 10 rfl tG)) ?_|apply aR<;>intro
   exact⟨rfl,hS.ext,hS.blk 0 rfl,hS.blk 1 rfl⟩
  rw[if_neg ho];(conv=>whnf);refine aM (fun h=>absurd h zo) (fun h5=>?_);(conv=>whnf);refine hS.ld 1 rfl (o:=3) rfl ?_;(conv=>whnf);refine aM (fun h=>absurd h zo) (fun h6=>?_);(conv=>whnf);refine hS.ld 1 rfl (o:=1) rfl ?_;(conv=>whnf);refine ag.mk zo zo ?_;(conv=>whnf);refine aM (fun h7=>?_) (fun h7=>?_)
  ·rw[if_pos (show C.num+1≥4294967296 by omega)];repeat' first|refine zP ?_|refine hS.cK (hE.at_ 6 rfl) (fun h=>h.elim (hE.ne 6 rfl hq) (hE.ne 6 rfl tG)) ?_|apply aR<;>intro
   exact⟨rfl,hS.ext,hS.blk 0 rfl,hS.blk 1 rfl⟩
  rw[if_neg (show ¬C.num+1≥4294967296 by omega)];(conv=>whnf);refine hS.ld 1 rfl (o:=1) rfl ?_;(conv=>whnf);refine ag.mk zo zo ?_;rw[show(C.num:Int)+1=((C.num+1:Nat):Int) by omega];(conv=>whnf);refine(zp8 (C.num+1) e l zo zo zo (hS.blk 1 rfl) (hS.blk 0 rfl) hO ((hE.sub rfl).ext hS.ext fun k hk=>hk.elim (fun h=>by subst h;exact hq) fun h=>by subst h;exact tG) hq).mono ?_;rintro v w' ⟨rfl,aU,nP⟩;replace hS:=hS.uB 0 aU nP;clear aU nP;generalize cJ B (C.num+1) e l=R at hS ⊢;obtain⟨ok,B2⟩:=R;cases ok
  ·(conv=>whnf)
   refine hS.st 1 rfl zl rfl (fun w' hS=>?_);repeat' first|refine zP ?_|apply aR<;>intro
   exact⟨rfl,hS.ext,hS.blk 0 rfl,hS.blk 1 rfl⟩
  ·skip
   (conv=>whnf);refine hS.ld 1 rfl (o:=1) rfl ?_;(conv=>whnf);refine ag.mk zo zo ?_;(conv=>whnf);refine hS.st 1 rfl zl rfl (fun w' hS=>?_);(conv=>whnf);refine hS.st 1 rfl zl rfl (fun w' hS=>?_);(conv=>whnf);refine hS.st 1 rfl zl rfl (fun w' hS=>?_);repeat' first|refine zP ?_|apply aR<;>intro
   exact⟨rfl,hS.ext,hS.blk 0 rfl,(hS.blk 1 rfl).to (by rw[←hd];rfl)⟩
 ·rw[if_pos rfl];repeat' first|refine zP ?_|refine hS.cK (hE.at_ 7 rfl) (fun h=>h.elim (hE.ne 7 rfl hq) (hE.ne 7 rfl tG)) ?_|apply aR<;>intro
  exact⟨rfl,hS.ext,hS.blk 0 rfl,hS.blk 1 rfl⟩
end
def laid (d:List UInt8)(p:Nat)(s:List UInt8):List UInt8:=d.take p++s++d.drop (p+s.length)
theorem xN (d:List UInt8)(p:Nat):laid d p []=d:=by simp[laid]
theorem LS {s:List UInt8}(h:p+s.length≤d.length):(laid d p s).length=d.length:=by
 simp only[laid,List.length_append,List.length_take,List.length_drop];omega
theorem vT {s:List UInt8}(h:p+s.length≤d.length)(i:Nat):(laid d p s)[i]?=if p≤i∧i<p+s.length then s[i-p]? else d[i]?:=by
 unfold laid;by_cases h1:i<p
 ·rw[if_neg zo,List.append_assoc,List.getElem?_append_left (by rw[List.length_take];omega),List.getElem?_take_of_lt h1]
 ·by_cases h2:i<p+s.length
  ·rw[if_pos ⟨by omega,h2⟩,List.append_assoc,List.getElem?_append_right (by rw[List.length_take];omega),List.length_take,Nat.min_eq_left zo,List.getElem?_append_left zo]
  ·rw[if_neg zo,List.getElem?_append_right (by simp only[List.length_append,List.length_take];omega)];simp only[List.length_append,List.length_take,List.getElem?_drop];congr 1;omega
theorem Ex {r:List UInt8}  {x:UInt8}(h:p+(r.length+1)≤d.length):laid (d.set p x) (p+1) r=laid d p (x::r):=by
 apply List.ext_getElem?;intro i;rw[vT (by rw[List.length_set];omega),vT (by rw[List.length_cons];omega),List.length_cons,List.getElem?_set];by_cases h1:p+1≤i∧i<p+1+r.length
 ·rw[if_pos h1,if_pos zo,show i-p=(i-(p+1))+1 by omega,List.getElem?_cons_succ]
 ·rw[if_neg h1];by_cases h2:p=i
  ·subst h2;rw[if_pos rfl,if_pos zo,if_pos zo,Nat.sub_self];rfl
  ·rw[if_neg h2,if_neg zo]
theorem G8:∀(s:List UInt8) (B:aP) (p:Nat),p+s.length≤B.data.length →
  ((B.write p s).1=true∧(B.write p s).2.data=laid B.data p s∧(B.write p s).2.off=B.off)∨((B.write p s).1=false∧(B.write p s).2.off=true∧∃j,j<s.length∧(B.write p s).2.data=laid B.data p (s.take j))
 | [],B,p,_=>.inl ⟨rfl,(xN _ _).symm,rfl⟩
 | x::r,B,p,h=>by
  rw[xK];rw[List.length_cons]at h;split
  ·exact .inr ⟨rfl,rfl,0,by simp,by simp[xN]⟩
  ·rcases G8 r ⟨B.data.set p x,B.off,if B.left-1 > -1 then B.left-1 else -1⟩ (p+1) (by dsimp only;rw[List.length_set];omega) with⟨h1,h2,h3⟩|⟨h1,h2,j,hj,h3⟩
   ·exact .inl ⟨h1,by rw[h2];exact Ex h,h3⟩
   ·refine .inr ⟨h1,h2,j+1,by simp;omega,?_⟩;rw[h3,List.take_succ_cons];exact Ex (by rw[List.length_take];omega)
theorem HG {j:Nat}(hj:j<17):(gm d k)[j]?=d[k*20+j]?:=by
 unfold gm;rw[List.getElem?_take_of_lt hj,List.getElem?_drop]
theorem ztx (h:∀j,j<17→d[k*20+j]?=d'[k*20+j]?):gm d k=gm d' k:=by
 apply List.ext_getElem?;intro j;by_cases hj:j<17
 ·rw[HG hj,HG hj,h j hj]
 ·unfold gm;rw[List.getElem?_take,List.getElem?_take,if_neg hj,if_neg hj]
theorem Sy (h:gm d k=gm d' k):(kF d k↔kF d' k)∧fF d k=fF d' k∧mo d k=mo d' k∧mq d k=mq d' k:=by
 unfold kF fF mo mq;rw[h];exact⟨Iff.rfl,rfl,rfl,rfl⟩
theorem zqz (h:kF d k):d[k*20+16]?=some 165:=by
 rw[←HG zo,←h.2.2,List.getElem?_append_right (by rw[AA];omega),AA];rfl
theorem zs0 (h:gm d k=iu n e l++[165])(hn:1≤n)(hk:n % 2=k)(h1:n<4294967296)(h2:e<4294967296)(h3:l<4294967296):kF d k∧fF d k=n∧mo d k=e∧mq d k=l:=by
 have e0:iu n e l++[165]=jx n 4++(jx e 4++(jx l 4++(jx (wA (qJ n e l)) 4++[165]))):=by simp[iu,qJ]
 have e1:fF d k=n:=by
  unfold fF;rw[h,e0,List.take_left' (o8 _ _),Hs];omega
 have e2:mo d k=e:=by
  unfold mo;rw[h,e0,List.drop_left' (o8 _ _),List.take_left' (o8 _ _),Hs];omega
 have e3:mq d k=l:=by
  unfold mq;rw[h,e0,←List.append_assoc,List.drop_left' (by rw[List.length_append,o8,o8]),List.take_left' (o8 _ _),Hs];omega
 exact⟨⟨by omega,by omega,by rw[e1,e2,e3,h]⟩,e1,e2,e3⟩
def rec_ (d:List UInt8)(k:Nat):dC:=⟨fF d k,mo d k,mq d k,false⟩
def Nn:dC:=⟨0,0,0,false⟩
theorem R7 (h:∀k,k<2→¬kF d k):cU d=Nn:=by
 have h0:=h 0 zo;have h1:=h 1 zo;simp[cU,je,uR,h0,h1,Nn]
theorem BB (xb:k<2∧m<2∧m≠k)(h:kF d k)(hm:kF d m→fF d m<fF d k):cU d=rec_ d k:=by
 have hn:=h.1;obtain⟨hk,zj,cj⟩:=xb;have:(k=0∧m=1)∨(k=1∧m=0):=by omega
 rcases this with⟨rfl,rfl⟩|⟨rfl,rfl⟩
 ·simp only[cU,je];rw[show uR d 0 ⟨0,0,0,false⟩=rec_ d 0 from if_pos ⟨h,hn⟩];exact if_neg fun hh=>by have:=hm hh.1;have:=hh.2;simp only[rec_]at this;omega
 ·simp only[cU,je];by_cases h0:kF d 0
  ·rw[show uR d 0 ⟨0,0,0,false⟩=rec_ d 0 from if_pos ⟨h0,h0.1⟩];exact if_pos ⟨h,hm h0⟩
  ·rw[show uR d 0 ⟨0,0,0,false⟩=⟨0,0,0,false⟩ from if_neg fun hh=>h0 hh.1];exact if_pos ⟨h,hn⟩
theorem K6 (d:List UInt8):((∀k,k<2→¬kF d k)∧cU d=Nn)∨∃k m,(k<2∧m<2∧m≠k)∧kF d k∧cU d=rec_ d k∧(kF d m→fF d m<fF d k):=by
 by_cases h0:kF d 0
 ·by_cases h1:kF d 1
  ·have p0:=h0.2.1;have p1:=h1.2.1;by_cases aQ:fF d 1<fF d 0
   ·exact .inr ⟨0,1,by omega,h0,BB ⟨by omega,by omega,by omega⟩ h0 fun _=>aQ,fun _=>aQ⟩
   ·have aQ:fF d 0<fF d 1:=by omega
    exact .inr ⟨1,0,by omega,h1,BB ⟨by omega,by omega,by omega⟩ h1 fun _=>aQ,fun _=>aQ⟩
  ·exact .inr ⟨0,1,by omega,h0,BB ⟨by omega,by omega,by omega⟩ h0 fun h=>absurd h h1,fun h=>absurd h h1⟩
 ·by_cases h1:kF d 1
  ·exact .inr ⟨1,0,by omega,h1,BB ⟨by omega,by omega,by omega⟩ h1 fun h=>absurd h h0,fun h=>absurd h h0⟩
  ·have hn:∀k,k<2→¬kF d k:=fun k hk=>by
    have:k=0∨k=1:=by omega
    rcases this with rfl|rfl
    ·exact h0
    ·exact h1
   exact .inl ⟨hn,R7 hn⟩
theorem Z0 (d:List UInt8):(cU d).dead=false:=by
 rcases K6 d with⟨_,h⟩|⟨k,m,_,_,h,_⟩<;>rw[h]<;>rfl
theorem P9 (hk:k=((cU d).num+1) % 2)(hm:m=(cU d).num % 2)(h:gm d' m=gm d m)(hf:¬kF d' k):cU d'=cU d:=by
 obtain⟨f1,f2,f3,f4⟩:=Sy h;rcases K6 d with⟨hn,hz⟩|⟨k1,m1,xb,tj,ho,aQ⟩
 ·rw[hz];refine R7 fun i hi N8=>?_
  by_cases e:i=k
  ·subst e;exact hf N8
  ·have:i=m:=by omega
   subst this;exact hn i hi (f1.1 N8)
 ·have hp:=tj.2.1;have JF:(cU d).num=fF d k1:=by rw[ho];rfl
  obtain rfl:m=k1:=by omega
  have Wp:=f1.2 tj;have oS:k<2∧k≠m:=by omega
  rw[BB (m:=k) ⟨by omega,oS.1,oS.2⟩ Wp fun hh=>absurd hh hf,ho];unfold rec_;rw[f2,f3,f4]
theorem Zq (hn:n=(cU d).num+1)(hk:k=n % 2)(hm:m=(cU d).num % 2)(h:gm d' m=gm d m)(hr:gm d' k=iu n e l++[165])(h1:n<4294967296)(h2:e<4294967296)(h3:l<4294967296):cU d'=⟨n,e,l,false⟩:=by
 obtain⟨f1,f2,f3,f4⟩:=Sy h;obtain⟨g1,g2,g3,g4⟩:=zs0 hr zo hk.symm h1 h2 h3;have xb:m<2∧m≠k:=by omega
 rw[BB (m:=m) ⟨by omega,xb.1,xb.2⟩ g1 fun hh=>?_]
 ·unfold rec_;rw[g2,g3,g4]
 ·rw[g2,f2];have hh:=f1.1 hh;rcases K6 d with⟨nv,_⟩|⟨k1,m1,WC,tj,ho,aQ⟩
  ·exact absurd hh (nv m zo)
  ·have JF:(cU d).num=fF d k1:=by rw[ho];rfl
   by_cases e:m=k1
   ·subst e;omega
   ·obtain rfl:m=m1:=by omega
    have:=aQ hh;omega
theorem ztg {B:aP}(hq:q<B.data.length) :
  ((mark B q).1=true∧(mark B q).2.off=B.off∧(mark B q).2.data.length=B.data.length∧(mark B q).2.data[q]?=some 0∧∀i,i≠q→(mark B q).2.data[i]?=B.data[i]?)∨((mark B q).1=false∧(mark B q).2.off=true∧(mark B q).2.data=B.data):=by
 obtain⟨x,hx⟩:∃x,B.data[q]?=some x:=⟨_,List.getElem?_eq_getElem hq⟩;unfold mark;rw[hx];dsimp only;split
 ·rename_i h0;exact .inl ⟨rfl,rfl,rfl,by rw[←h0];exact hx,fun _ _=>rfl⟩
 ·rcases G8 [0] B q (by simp;omega) with⟨h1,h2,h3⟩|⟨h1,h2,j,hj,h3⟩
  ·refine .inl ⟨h1,h3,by rw[h2,LS (by simp;omega)],?_,fun i hi=>?_⟩
   ·rw[h2,vT (by simp;omega),if_pos zi,Nat.sub_self];rfl
   ·rw[h2,vT (by simp;omega),if_neg (by simp;omega)]
  ·refine .inr ⟨h1,h2,?_⟩;obtain rfl:j=0:=by simpa using hj
   rw[h3,List.take_zero,xN]
theorem SI (h:d[k*20+16]?=some 0):¬kF d k:=fun hf=>by
 rw[zqz hf]at h;simp at h
theorem zoK {B:aP}(hO:gq B)(j9:B.off=false)(hn:(cU B.data).num+1<4294967296)(he:e<4294967296)(hl:l<4294967296) :
  ((cJ B ((cU B.data).num+1) e l).1=true∧cU (cJ B ((cU B.data).num+1) e l).2.data=⟨(cU B.data).num+1,e,l,false⟩∧(cJ B ((cU B.data).num+1) e l).2.off=false) ∨
  ((cJ B ((cU B.data).num+1) e l).1=false∧cU (cJ B ((cU B.data).num+1) e l).2.data=cU B.data∧(cJ B ((cU B.data).num+1) e l).2.off=true):=by
 have hlen:=hO.len;obtain⟨n,FN⟩:∃n,n=(cU B.data).num+1:=⟨_,rfl⟩;obtain⟨k,hk⟩:∃k,k=n % 2:=⟨_,rfl⟩;obtain⟨m,hm⟩:∃m,m=(cU B.data).num % 2:=⟨_,rfl⟩;rw[←FN]at hn ⊢;have xb:k<2∧m<2∧m≠k:=by omega
 have gY:=AA n e l;unfold cJ;rw[if_neg (show ¬B.off=true by simp[j9]),←hk];have same:∀d:List UInt8,(∀i,¬(k*20≤i∧i<k*20+17)→d[i]?=B.data[i]?)→gm d m=gm B.data m:=fun d h=>ztx fun j hj=>h _ zo
 rcases ztg (B:=B) (q:=k*20+16) zo with⟨a1,a2,a3,a4,a5⟩|⟨a1,a2,a3⟩
 ·rw[if_pos a1];generalize (mark B (k*20+16)).2=B1 at a2 a3 a4 a5;rcases G8 (iu n e l) B1 (k*20) zo with⟨b1,b2,b3⟩|⟨b1,b2,j,hj,b3⟩
  ·rw[if_pos b1];generalize (B1.write (k*20) (iu n e l)).2=B2 at b2 b3;have c0:∀i,B2.data[i]?=if k*20≤i∧i<k*20+16 then (iu n e l)[i-k*20]? else B1.data[i]?:=fun i=>by rw[b2,vT zo,gY]
   have c1:B2.data.length=64:=by rw[b2,LS zo,a3,hlen]
   rcases G8 [165] B2 (k*20+16) (by simp;omega) with⟨d1,d2,d3⟩|⟨d1,d2,j,hj,d3⟩
   ·refine .inl ⟨d1,?_,by rw[d3,b3,a2,j9]⟩;rw[d2];refine Zq FN hk hm (same _ fun i hi=>?_) ?_ hn he hl
    ·rw[vT (by simp;omega),if_neg (by simp;omega),c0,if_neg zo,a5 i zo]
    ·apply List.ext_getElem?;intro j;by_cases hj:j<17
     ·rw[HG hj,vT (by simp;omega)];by_cases C3:j=16
      ·subst C3;rw[if_pos zi,List.getElem?_append_right zo,gY];simp
      ·rw[if_neg (by simp;omega),c0,if_pos zo,List.getElem?_append_left zo];congr 1;omega
     ·rw[List.getElem?_eq_none (by unfold gm;rw[List.length_take];omega),List.getElem?_eq_none (by rw[List.length_append,gY];simp;omega)]
   ·refine .inr ⟨d1,?_,d2⟩;obtain rfl:j=0:=by simpa using hj
    rw[d3,List.take_zero,xN];refine P9 (FN ▸ hk) hm (same _ fun i hi=>?_) (SI ?_)
    ·rw[c0,if_neg zo,a5 i zo]
    ·rw[c0,if_neg zo,a4]
  ·rw[if_neg (by simp[b1])];refine .inr ⟨rfl,?_,b2⟩;dsimp only;have WA:(List.take j (iu n e l)).length=j:=by rw[List.length_take];omega
   rw[b3];refine P9 (FN ▸ hk) hm (same _ fun i hi=>?_) (SI ?_)
   ·rw[vT zo,if_neg zo,a5 i zo]
   ·rw[vT zo,if_neg zo,a4]
 ·rw[if_neg (by simp[a1])];exact .inr ⟨rfl,by rw[a3],a2⟩
structure NodeS where
 id:Int
 now:Int
 role:bN
 cell:dC
 aL:aC
 dN:j2
 fu:aC
 rules:List RuleS
structure bE where
 bP:Int
 au:Int
 ah:Int
 claim:Bool
 cells:List ax
def NodeS.pass (N:NodeS)(k flags:Int)(out:Bool):NodeS :=
 { N with aL:=match (oK (ik N.aL k).proto (ik N.aL k).state flags out).2 with
  | true=>(N.aL.drop k).2
  | false=>(N.aL.iJ k (oK (ik N.aL k).proto (ik N.aL k).state flags out).1 (N.now+lW (ik N.aL k).proto (oK (ik N.aL k).proto (ik N.aL k).state flags out).1)).2 }
def NodeS.begin (N:NodeS)(p:cC):(Int × Nat) × NodeS :=
 if ml p.proto p.dp true N.rules=false then ((0,8),N) else
 if (o9 p.proto p.flags).2≠0 then ((0,(o9 p.proto p.flags).2),N) else
 ((N.aL.add p.proto p.sa p.sp p.da p.dp (o9 p.proto p.flags).1 (N.now+lW p.proto (o9 p.proto p.flags).1)).1,{ N with aL:=(N.aL.add p.proto p.sa p.sp p.da p.dp (o9 p.proto p.flags).1 (N.now+lW p.proto (o9 p.proto p.flags).1)).2 })
def NodeS.inside (N:NodeS)(p:cC):Nat × cC × NodeS :=
 if p.err≠0 then (p.err,i7,N) else
 if N.role.aE=false then (9,i7,N) else
 if 0≤N.aL.find p.proto p.sa p.sp p.da p.dp then (0,⟨p.proto,1,(ik N.aL (N.aL.find p.proto p.sa p.sp p.da p.dp)).port,p.da,p.dp,p.flags⟩,N.pass (N.aL.find p.proto p.sa p.sp p.da p.dp) p.flags true) else
 if (N.begin p).1.2≠0 then ((N.begin p).1.2,i7,(N.begin p).2) else
 (0,⟨p.proto,1,(ik (N.begin p).2.aL (N.begin p).1.1).port,p.da,p.dp,p.flags⟩,(N.begin p).2)
def NodeS.outside (N:NodeS)(p:cC):Nat × cC × NodeS :=
 if p.err≠0 then (p.err,i7,N) else
 if N.role.aE=false then (9,i7,N) else
 if p.da≠1 then (3,i7,N) else
 if N.aL.back p.proto p.dp p.sa p.sp<0 then (4,i7,N) else
 (0,⟨p.proto,p.sa,p.sp,(ik N.aL (N.aL.back p.proto p.dp p.sa p.sp)).ia,(ik N.aL (N.aL.back p.proto p.dp p.sa p.sp)).ip,p.flags⟩,N.pass (N.aL.back p.proto p.dp p.sa p.sp) p.flags false)
def qF (now:Int)(T:aC)(l:List cI):aC:=l.foldl (fun T f=>(T.put { f with i5:=now+lW f.proto f.state }).2) T
def NodeS.claim (N:NodeS)(B:aP):(Bool × Nat) × NodeS × aP :=
 if N.role.next.2≠0 then ((false,0),N,B) else
 if (N.cell.put B N.role.next.1 N.cell.li).1≠0 then ((false,(N.cell.put B N.role.next.1 N.cell.li).1),{ N with cell:=(N.cell.put B N.role.next.1 N.cell.li).2.2 },(N.cell.put B N.role.next.1 N.cell.li).2.1) else
 ((true,0),{ N with cell:=(N.cell.put B N.role.next.1 N.cell.li).2.2,role:=(N.role.claim N.role.next.1).2,aL:=qF N.now N.aL (lO N.fu.cells) },(N.cell.put B N.role.next.1 N.cell.li).2.1)
def NodeS.step (N:NodeS):Bool × NodeS:=(N.role.tick.1,{ N with now:=N.now+1,aL:=N.aL.expire (N.now+1),role:=N.role.tick.2 })
def NodeS.cS (N:NodeS):Bool:=N.role.aE&&decide (N.now.tmod 3=0)
def NodeS.notes (N:NodeS)(uY:Bool):List bE × NodeS :=
 ((if uY=true∨N.cS=true then [⟨N.id,N.cell.li,N.role.ah,true,[]⟩] else [])++(if N.cS=true then [⟨N.id,N.cell.li,N.role.ah,false,fx N.aL.cells (N.dN.aY N.aL.cells)⟩] else []),
  if N.cS=true then { N with dN:=N.dN.next N.aL.cells } else N)
def NodeS.tick (N:NodeS)(B:aP):Nat × List bE × NodeS × aP :=
 if N.now≥1099511627776 then (2,[],N,B) else
 if N.step.1=true then
  (if (N.step.2.claim B).1.2≠0 then ((N.step.2.claim B).1.2,[],(N.step.2.claim B).2.1,(N.step.2.claim B).2.2)
   else (0,((N.step.2.claim B).2.1.notes (N.step.2.claim B).1.1).1,((N.step.2.claim B).2.1.notes (N.step.2.claim B).1.1).2,(N.step.2.claim B).2.2))
 else (0,(N.step.2.notes false).1,(N.step.2.notes false).2,B)
def NodeS.hear (N:NodeS)(x:bE):Nat × NodeS :=
 if x.bP≠1-N.id∨x.ah<0∨x.ah>1073741824 then (2,N) else
 if x.claim=true then (3,N) else
 if (N.fu.tell x.au x.cells).1≠0 then ((N.fu.tell x.au x.cells).1,{ N with fu:=(N.fu.tell x.au x.cells).2 }) else
 (0,{ N with fu:=(N.fu.tell x.au x.cells).2,role:=(N.role.hear x.ah).2 })
def NodeS.born (id:Int)(C:dC)(rules:List RuleS):NodeS:=⟨id,0,⟨id,(C.ep:Int),0,false⟩,C,⟨2000+id*24,ay⟩,sx,⟨0,ay⟩,rules⟩
def d6 (id:Int)(B:aP)(rules:List RuleS):Nat × NodeS × aP :=
 (((cU B.data).put B (cU B.data).ep ((cU B.data).li+1)).1,.born id ((cU B.data).put B (cU B.data).ep ((cU B.data).li+1)).2.2 rules,((cU B.data).put B (cU B.data).ep ((cU B.data).li+1)).2.1)
structure eZ (m:Nat)(N:NodeS):Prop where
 id:N.id=0∨N.id=1
 n0:0≤N.now
 n1:N.now≤1099511627776
 role:N.role.Ok
 xC:N.role.node=N.id
 xD:N.role.cd≤m
 num:N.cell.num<4294967296
 ep:N.cell.ep≤1073741824
 li:N.cell.li≤1073741824
 aL:eo m N.aL
 uE:N.aL.au=2000+N.id*24
 told:N.dN.told.length=32
 cur:N.dN.bK<32
 fu:N.fu.cells.length=32
 rules:zip N.rules
theorem zsw (T:aC)(a b c d e f g:Int):(T.add a b c d e f g).2.au=T.au:=by
 unfold aC.add aC.lay;repeat' split
 all_goals rfl
theorem ztt (T:aC)(f:cI):(T.put f).2.au=T.au:=by
 unfold aC.put aC.lay;repeat' split
 all_goals rfl
theorem zrG (T:aC)(k a b:Int):(T.iJ k a b).2.au=T.au:=by
 unfold aC.iJ;split<;>rfl
theorem zqg (T:aC)(k:Int):(T.drop k).2.au=T.au:=by
 unfold aC.drop;split<;>rfl
theorem eo.mono {T:aC}(h:eo m T)(hn:m≤n):eo n T:=⟨h.len,fun c hc=>by have:=h.dF c hc;omega,h.slot⟩
theorem eZ.mono {N:NodeS}(h:eZ m N)(hn:m≤n):eZ n N :=
 ⟨h.id,h.n0,h.n1,h.role,h.xC,by have:=h.xD;omega,h.num,h.ep,h.li,h.aL.mono hn,h.uE,h.told,h.cur,h.fu,h.rules⟩
theorem eZ.qA {N:NodeS}{T:aC}(h:eZ m N)(hn:m≤n)(hT:eo n T)(hl:T.au=N.aL.au):eZ n { N with aL:=T } :=
 ⟨h.id,h.n0,h.n1,h.role,h.xC,by have:=h.xD;show N.role.cd≤n;omega,h.num,h.ep,h.li,hT,hl.trans h.uE,h.told,h.cur,h.fu,h.rules⟩
theorem eZ.pass {N:NodeS}(h:eZ m N)(k f:Int)(o:Bool):eZ (m+1) (N.pass k f o):=by
 unfold NodeS.pass;refine h.qA (Nat.le_succ _) ?_ ?_
 ·cases (oK (ik N.aL k).proto (ik N.aL k).state f o).2
  ·exact h.aL.iJ _ _ _
  ·exact h.aL.drop _
 ·cases (oK (ik N.aL k).proto (ik N.aL k).state f o).2
  ·exact zrG _ _ _ _
  ·exact zqg _ _
theorem eZ.begin {N:NodeS}(h:eZ m N)(p:cC):eZ (m+1) (N.begin p).2:=by
 unfold NodeS.begin;split
 ·exact h.mono (Nat.le_succ _)
 split
 ·exact h.mono (Nat.le_succ _)
 ·exact h.qA (Nat.le_succ _) (h.aL.add _ _ _ _ _ _ _) (zsw _ _ _ _ _ _ _ _)
theorem zyt {T:aC}(hl:T.cells.length=32)(f:cI)(h:(T.lay f).1.2=0):0≤(T.lay f).1.1∧(T.lay f).1.1<32:=by
 unfold aC.lay at h ⊢;split at h
 ·exact absurd (show(6:Nat)=0 from h) zd
 ·rename_i hk;rw[if_neg hk];have:=K5 oI T.cells 0;dsimp only;omega
theorem zx1 {T:aC}(hl:T.cells.length=32)(a b c d e f g:Int)(h:(T.add a b c d e f g).1.2=0):0≤(T.add a b c d e f g).1.1∧(T.add a b c d e f g).1.1<32:=by
 unfold aC.add at h ⊢;split at h
 ·exact absurd (show(5:Nat)=0 from h) zd
 rename_i h1;rw[if_neg h1];cases hp:wh T a d e 24 0 with
 | none=>rw[hp]at h;exact absurd (show(6:Nat)=0 from h) zd
 | some i=>rw[hp]at h;exact zyt hl _ h
theorem SR {N:NodeS}(h:eZ m N)(p:cC)(h0:(N.begin p).1.2=0):0≤(N.begin p).1.1∧(N.begin p).1.1<32:=by
 unfold NodeS.begin at h0 ⊢;split at h0
 ·exact absurd (show(8:Nat)=0 from h0) zd
 rename_i h1;rw[if_neg h1];split at h0
 ·rename_i h2;exact absurd h0 h2
 rename_i h2;rw[if_neg h2];exact zx1 h.aL.len _ _ _ _ _ _ _ h0
theorem RM {N:NodeS}(h:eZ m N)(k:Int)(h0:0≤k)(h1:k<32):∃c,N.aL.cells[k.toNat]?=some c∧c.f=ik N.aL k:=by
 have hl:k.toNat<N.aL.cells.length:=by rw[h.aL.len];omega
 refine⟨_,List.getElem?_eq_getElem hl,?_⟩;unfold ik;rw[List.getElem?_eq_getElem hl]
theorem Qi (now:Int)(T:aC){l:List cI}{k:Nat}{f:cI}(h:l[k]?=some f):qF now T (l.take (k+1))=((qF now T (l.take k)).put { f with i5:=now+lW f.proto f.state }).2:=by
 unfold qF;rw[List.take_add_one,h,List.foldl_append];rfl
theorem G1 (now:Int):∀(l:List cI) {m:Nat} {T:aC},eo m T→eo (m+l.length) (qF now T l)
 | [],_,_,h=>h
 | f::l,m,T,h=>by
  have:=G1 now l (h.put { f with i5:=now+lW f.proto f.state });rw[List.length_cons,show m+(l.length+1)=m+1+l.length by omega];exact this
theorem Qh (now:Int):∀(l:List cI) (T:aC),(qF now T l).au=T.au
 | [],_=>rfl
 | f::l,T=>(Qh now l _).trans (ztt _ _)
theorem bN.lK {r:bN}(h:r.Ok)(h0:r.next.2=0):0≤r.next.1∧r.next.1≤1073741824:=by
 have h1:=h.e0;unfold bN.next at h0 ⊢;dsimp only at h0 ⊢;generalize hE:(if (r.ah+1).tmod 2≠r.node then r.ah+1+1 else r.ah+1)=e at h0 ⊢
 have h3:e=r.ah+1+1∨e=r.ah+1:=by
  rw[←hE];split
  ·exact .inl rfl
  ·exact .inr rfl
 by_cases h2:e>1073741824
 ·rw[if_pos h2]at h0;exact absurd (show(2:Nat)=0 from h0) zd
 ·rw[if_neg h2];dsimp only;omega
theorem bN.jj {r:bN}(ha:r.aE=false)(h0:r.next.2=0):r.claim r.next.1=(0,{ r with aE:=true,ah:=r.next.1 }):=by
 unfold bN.claim;rw[if_neg (by rw[ha];decide),if_neg (fun h=>h h0),if_neg (fun h=>h rfl)]
theorem LW (C:dC)(B:aP)(e l:Int)(h:C.num<4294967296):(C.put B e l).2.2.num<4294967296:=by
 unfold dC.put;repeat' split
 all_goals dsimp only
 all_goals omega
theorem Tr (C:dC)(B:aP)(e l:Int)(h:gq B):gq (C.put B e l).2.1:=by
 unfold dC.put;repeat' split
 all_goals first|exact h|exact h.cJ _ _ _
theorem Hz (C:dC)(B:aP)(e l:Int)(h:C.ep≤1073741824∧C.li≤1073741824):(C.put B e l).2.2.ep≤1073741824∧(C.put B e l).2.2.li≤1073741824:=by
 unfold dC.put;repeat' split
 all_goals dsimp only
 all_goals omega
theorem LV (C:dC)(B:aP)(e l:Int)(h:(C.put B e l).1=0):(C.put B e l).2.2.ep≤1073741824∧(C.put B e l).2.2.li≤1073741824:=by
 unfold dC.put at h ⊢;repeat' split at h
 all_goals first|(exact absurd (show(7:Nat)=0 from h) zd)|(exact absurd (show(2:Nat)=0 from h) zd)|(exact absurd (show(10:Nat)=0 from h) zd)|(exact absurd (show(6:Nat)=0 from h) zd)|skip
 rename_i h1 h2 h3 h4 h5;rw[if_neg h1,if_neg h2,if_neg h3,if_neg h4,if_pos h5];dsimp only;omega
theorem eZ.claim {N:NodeS}(h:eZ m N)(ha:N.role.aE=false)(B:aP):eZ (m+33) (N.claim B).2.1:=by
 unfold NodeS.claim;split
 ·exact h.mono zo
 rename_i h1;have h2:N.role.next.2=0:=Classical.byContradiction h1;split
 ·exact⟨h.id,h.n0,h.n1,h.role,h.xC,by have:=h.xD;show N.role.cd≤_;omega,LW _ _ _ _ h.num,(Hz _ _ _ _ ⟨h.ep,h.li⟩).1,(Hz _ _ _ _ ⟨h.ep,h.li⟩).2,h.aL.mono zo,h.uE,h.told,h.cur,h.fu,h.rules⟩
 ·have hn:=bN.lK h.role h2;have hl:=Eg N.fu.cells;rw[h.fu]at hl;rw[bN.jj ha h2];exact⟨h.id,h.n0,h.n1,⟨h.role.n0,hn.1,hn.2,h.role.s0,h.role.s1⟩,h.xC,by have:=h.xD;show N.role.cd≤_;omega,LW _ _ _ _ h.num,(Hz _ _ _ _ ⟨h.ep,h.li⟩).1,(Hz _ _ _ _ ⟨h.ep,h.li⟩).2,(G1 _ _ h.aL).mono zo,(Qh _ _ _).trans h.uE,h.told,h.cur,h.fu,h.rules⟩
theorem NodeS.qN {N:NodeS}{B:aP}(h:gq B):gq (N.claim B).2.2:=by
 unfold NodeS.claim;split
 ·exact h
 split;all_goals exact Tr _ _ _ _ h
theorem eZ.step {N:NodeS}(h:eZ m N)(hm:m≤50000000)(hn:N.now<1099511627776):eZ (m+1) N.step.2:=by
 have h1:=h.n0;have h2:=h.xD;have h3:=h.role.s0;refine⟨h.id,?_,?_,?_,?_,?_,h.num,h.ep,h.li,h.aL.expire _ _,h.uE,h.told,h.cur,h.fu,h.rules⟩
 ·show 0≤N.now+1;omega
 ·show N.now+1≤_;omega
 ·show N.role.tick.2.Ok;unfold bN.tick;split
  ·exact h.role
  ·exact⟨h.role.n0,h.role.e0,h.role.e1,by show 0≤N.role.cd+1;omega,by show N.role.cd+1≤_;omega⟩
 ·show N.role.tick.2.node=N.id;unfold bN.tick;split<;>exact h.xC
 ·show N.role.tick.2.cd≤_;unfold bN.tick;split
  ·show N.role.cd≤_;omega
  ·show N.role.cd+1≤_;omega
theorem Gu {N:NodeS}(h:N.step.1=true):N.step.2.role.aE=false:=by
 show N.role.tick.2.aE=false;have h:N.role.tick.1=true:=h;unfold bN.tick at h ⊢;split at h
 ·cases h
 ·rename_i h1;rw[if_neg h1];exact Bool.eq_false_iff.2 h1
theorem eZ.notes {N:NodeS}(h:eZ m N)(c:Bool):eZ m (N.notes c).2:=by
 unfold NodeS.notes;dsimp only;split
 ·exact⟨h.id,h.n0,h.n1,h.role,h.xC,h.xD,h.num,h.ep,h.li,h.aL,h.uE,zrX _ h.told,(GZ _ h.cur).cur,h.fu,h.rules⟩
 ·exact h
theorem eZ.tick {N:NodeS}(h:eZ m N)(hm:m≤50000000)(B:aP):eZ (m+34) (N.tick B).2.2.1:=by
 unfold NodeS.tick;split
 ·exact h.mono zo
 rename_i hn;have h1:=h.step hm zo;split
 ·rename_i hs;have h2:=h1.claim (Gu hs) B;split
  ·exact h2
  ·exact h2.notes (N.step.2.claim B).1.1
 ·exact(h1.notes false).mono zo
theorem NodeS.oG {N:NodeS}{B:aP}(h:gq B):gq (N.tick B).2.2.2:=by
 unfold NodeS.tick;split
 ·exact h
 split
 ·split;all_goals exact NodeS.qN h
 ·exact h
theorem eZ.hear {N:NodeS}(h:eZ m N)(x:bE):eZ m (N.hear x).2:=by
 unfold NodeS.hear;split
 ·exact h
 rename_i h1;split
 ·exact h
 have hl:(N.fu.tell x.au x.cells).2.cells.length=32:=aC.tW h.fu _ _;split
 ·exact⟨h.id,h.n0,h.n1,h.role,h.xC,h.xD,h.num,h.ep,h.li,h.aL,h.uE,h.told,h.cur,hl,h.rules⟩
 ·refine⟨h.id,h.n0,h.n1,?_,?_,?_,h.num,h.ep,h.li,h.aL,h.uE,h.told,h.cur,hl,h.rules⟩
  ·show(N.role.hear x.ah).2.Ok;have h2:=h.role;unfold bN.hear;rw[if_neg zo];dsimp only;repeat' split
   all_goals exact⟨h2.n0,by first|exact h2.e0|(show 0≤x.ah;omega),by first|exact h2.e1|(show x.ah≤_;omega),by first|exact h2.s0|exact Int.le_refl 0,by first|exact h2.s1|(show(0:Int)≤_;decide)⟩
  ·show(N.role.hear x.ah).2.node=N.id;have h2:=h.xC;unfold bN.hear;dsimp only;repeat' split
   all_goals exact h2
  ·show(N.role.hear x.ah).2.cd≤m;have h2:=h.xD;have h3:(0:Int)≤m:=Int.natCast_nonneg m;unfold bN.hear;dsimp only;repeat' split
   all_goals first|exact h2|exact h3
def Hq:List Nat:=[2,3,4,5,6,7,10,11]
def xU:List Nat:=[2,3,4,5,6,7,8,9,10,11]
structure ja where
 n:Nat
 r:Nat
 c:Nat
 t:Nat
 x:Nat
 m:Nat
 b:Nat
 ra:Option Addr
 rc:Nat
def TB (A:ja)(N:NodeS):List Value:=[.pointer (some ⟨A.r,0,none⟩),.int .i64 N.id,.int .i64 N.now,.pointer (some ⟨A.c,0,none⟩),.pointer (some ⟨A.t,0,none⟩),.pointer (some ⟨A.x,0,none⟩),.pointer (some ⟨A.m,0,none⟩),.slice A.ra N.rules.length A.rc]
def fj (A:ja)(N:NodeS):List bZ:=[blk A.n 192 (TB A N),blk A.r 257 (k4 N.role),blk A.c 253 (mH A.b N.cell),blk A.t 251 (cP N.aL),blk A.x 260 (i6 A.t N.dN),blk A.m 262 (cP N.fu),az 58 5 eW (.slice A.ra N.rules.length A.rc) N.rules]
def d7 (H:List bZ)(q:Nat):Prop:=∀b,cp H b→q≤b
theorem Gd {T:aC}(hl:T.cells.length=32)(p:cI→Bool)(h:0≤fW (iq p) T.cells 0):T.aZ (fW (iq p) T.cells 0)=0∧∃c,T.cells[(fW (iq p) T.cells 0).toNat]?=some c∧c.f=ik T (fW (iq p) T.cells 0)∧c.f.proto≠0∧fW (iq p) T.cells 0<32:=by
 obtain⟨j,c,hj,hp,he,_⟩:=RV (iq p) T.cells 0 h;have lt:=(List.getElem?_eq_some_iff.1 hj).1;have C5:(fW (iq p) T.cells 0).toNat=j:=by omega
 have hc:c.f.proto≠0:=by
  unfold iq at hp;simp only[Bool.and_eq_true,decide_eq_true_eq]at hp;exact hp.1
 refine⟨?_,c,by rw[C5];exact hj,?_,hc,by omega⟩
 ·unfold aC.aZ;rw[if_neg zo,C5,hj];exact if_neg hc
 ·unfold ik;rw[C5,hj]
section
variable {A:ja}{N:NodeS}
theorem Bz (p s:Int):0≤lW p s∧lW p s≤100:=by
 unfold lW;repeat' split
 all_goals omega
theorem SL (k:Int)(p:cC)(out:Bool)(hN:Has w (fj A N))(hO:eZ m N)(hm:m≤50000000)(hk:N.aL.aZ k=0)(hE:bF w E q xU)(hq:d7 (fj A N) q) :
  aa prog 204 #[.pointer (some ⟨A.n,0,none⟩),.int .i64 k,.agg (iN p).toArray,.bool out] w fun v w'=>v=.tuple #[.agg (dW (ik N.aL k)).toArray,.nilIface]∧ak w w' (fj A N) (fj A (N.pass k p.flags out)):=by
 have hv:=hO.aL.qz zo
 have ez:0≤k∧k<32:=by
  unfold aC.aZ at hk;split at hk
  ·omega
  ·omega
 obtain⟨c,hc⟩:∃c,N.aL.cells[k.toNat]?=some c:=⟨_,List.getElem?_eq_getElem (by rw[hO.aL.len];omega)⟩;have lS:c.f=ik N.aL k:=by unfold ik;rw[hc]
 have hd:(N.aL.drop k).1=0:=by unfold aC.drop;rw[if_neg zo]
 have hs:∀a b,(N.aL.iJ k a b).1=0:=fun a b=>by unfold aC.iJ;rw[if_neg zo]
 refine zN func204 ntmps204 ?_;have hS:=hN.start;refine hS.new (fun bp w' qe hS=>?_);refine hS.new (fun bf w' rQ hS=>?_);refine hS.lD 0 ?_;refine hS.cn (TZ k (hS.blk 3 rfl) ez.1 ez.2 hc) fun w2 hS=>?_
 refine hS.new (fun bc w' wR hS=>?_);refine hS.sT 9 fun w' hS=>?_
 repeat' first|refine zP ?_|refine hS.lD 0 ?_|refine hS.lD 1 ?_|refine hS.lD 2 ?_|refine hS.lD 3 ?_|refine hS.lD 4 ?_|refine hS.lD 5 ?_|refine hS.lD 6 ?_|refine hS.lD 7 ?_|refine hS.lD 8 ?_|refine hS.lD 9 ?_|refine hS.lX 0 ?_|refine hS.lX 1 ?_|refine hS.lX 2 ?_|refine hS.lX 3 ?_|refine hS.lX 4 ?_|refine hS.lX 5 ?_|refine hS.lX 6 ?_|refine hS.lX 7 ?_|refine hS.lX 8 ?_|refine hS.lX 9 ?_|(refine(zwq c.f.proto c.f.state p.flags out _).mono ?_;rintro v w3 ⟨rfl,rfl⟩)|apply aR<;>intro
 all_goals
  have ef:∀b,cp (fj A N) b→q≤b:=hq;have kZ:=hS.ne 0 3 rfl rfl zd;have nv:=hS.ne 0 8 rfl rfl zd;have xe:=hS.ne 9 3 rfl rfl zd;have nw:=hS.ne 9 8 rfl rfl zd;(conv=>whnf)
 ·rename_i hg
  have lA:N.pass k p.flags out={ N with aL:=(N.aL.drop k).2 }:=by
   unfold NodeS.pass;rw[←lS,hg]
  refine hS.dr [] (fun b=>b=A.t∨b=bf) [0,1,2,3,4,5,6,7,8,9] fun w1 hS=>?_
  have hK:=hS.ref (fun b=>b=A.t∨b=bf);repeat' ((conv=>whnf);first|refine hS.fK 9 rfl rfl (fun h=>h.elim xe nw) ?_|refine hS.bU 0 rfl rfl (fun h=>h.elim kZ nv) ?_)
  refine(S7 k (hS.blk 3 rfl) hO.aL.len hv ((hE.ext hS.ext ef).sub rfl)).mono ?_;rintro v w' ⟨rfl,hx,hB⟩;replace hS:=hS.uB 3 hx hB;replace hK:=hK.trans (hx.mono fun c hc=>.inl hc);refine ae.mk hK ?_;refine hS.kD hK 8 rfl zl rfl (.inr rfl) (fun w' hK hS=>ae.mk hK ?_);refine hS.lX 8 ?_;refine zE ?_;rw[hd,lA];exact⟨by rw[←lS];rfl,(hS.keep 7).turns⟩
 ·rename_i hg
  have tO:N.pass k p.flags out={ N with aL:=(N.aL.iJ k (oK c.f.proto c.f.state p.flags out).1 (N.now+lW c.f.proto (oK c.f.proto c.f.state p.flags out).1)).2 }:=by
   unfold NodeS.pass;rw[←lS,hg]
  refine hS.dr [] (fun b=>b=A.t∨b=bf) [0,1,2,3,4,5,6,7,8,9,10,11,12,13,14,15,16,17,18,19,20] fun w1 hS=>?_
  have hK:=hS.ref (fun b=>b=A.t∨b=bf);repeat' ((conv=>whnf);first|refine hS.fK 9 rfl rfl (fun h=>h.elim xe nw) ?_|refine hS.bU 9 rfl rfl (fun h=>h.elim xe nw) ?_|refine hS.bU 0 rfl rfl (fun h=>h.elim kZ nv) ?_)
  refine(MS _ _ _).mono ?_;rintro v w' ⟨rfl,hx⟩;replace hS:=hS.no hx;replace hK:=hK.trans hx.aF;refine ae.mk hK ?_;have uA:=Bz c.f.proto (oK c.f.proto c.f.state p.flags out).1;have jq:=hO.n0;have Dh:=hO.n1;repeat' ((conv=>whnf);first|apply aI.mk|refine bO.mk zd ?_|refine ag.mk zo zo ?_|refine ao.mk zo zo ?_|(first|apply aM|apply ca|apply cE|apply cD)<;>(intro))
  refine(zxK k _ _ (hS.blk 3 rfl) hO.aL.len hv ((hE.ext hS.ext ef).sub rfl)).mono ?_;rintro v w' ⟨rfl,hx,hB⟩;replace hS:=hS.uB 3 hx hB;replace hK:=hK.trans (hx.mono fun c hc=>.inl hc);refine ae.mk hK ?_;refine hS.kD hK 8 rfl zl rfl (.inr rfl) (fun w' hK hS=>ae.mk hK ?_);refine hS.lX 8 ?_;refine zE ?_;rw[hs,tO];exact⟨by rw[←lS];rfl,(hS.keep 7).turns⟩
theorem bF.out {ks:List Nat}{S:Nat→Prop}(h:bF w E n ks)(k:Nat)(hk:ks.contains k=true)(hS:∀b,S b→n≤b):¬S (nI k):=fun hs=>by
 have:=hS _ hs;have:=h.lt k hk;omega
theorem zqQ (p:cC)(hN:Has w (fj A N))(hO:eZ m N)(hm:m≤50000000)(hp:p.err=0)(hE:bF w E q xU)(hq:d7 (fj A N) q) :
  aa prog 205 #[.pointer (some ⟨A.n,0,none⟩),.agg (iN p).toArray] w fun v w'=>v=.tuple #[.int .i64 (N.begin p).1.1,gC E (N.begin p).1.2]∧ak w w' (fj A N) (fj A (N.begin p).2):=by
 have hv:=hO.aL.qz zo;have hg:(gg N.rules).1=0:=df.2 hO.rules;have ef:∀b,cp (fj A N) b→q≤b:=hq
 have y8:0≤N.aL.au∧N.aL.au≤100000:=by
  have:=hO.uE;have:=hO.id;omega
 refine zN func205 ntmps205 ?_;have hS:=hN.start;refine hS.new (fun bp w' qe hS=>?_);(conv=>whnf);refine hS.dr [] No [0,1,2,3,4,5,6,7,8,9,10] fun w1 hS=>?_
 repeat' ((conv=>whnf);first|refine hS.fK 7 rfl rfl id ?_|refine hS.bU 0 rfl rfl id ?_)
 refine(zos (G:=fun _=>True) (fE vY (hS.get 6 rfl) (fun _ _=>trivial)) p true ((hE.ext hS.ext ef).sub rfl)).mono ?_;rintro v w2 ⟨⟨e,rfl,hF⟩,hx⟩;rw[if_pos hg,if_pos hg,hp]at hF
 obtain rfl:e=.nilIface:=by
  rcases hF with⟨_,h⟩|⟨h,_⟩
  ·exact h
  ·omega
 rw[show(decide (zip N.rules∧p.err=0)&&ml p.proto p.dp true N.rules)=ml p.proto p.dp true N.rules by rw[decide_eq_true ⟨hO.rules,hp⟩,Bool.true_and]];replace hS:=hS.no hx;refine ae.mk hx ?_;cases hA:ml p.proto p.dp true N.rules
 ·have hb:N.begin p=((0,8),N):=if_pos hA;rw[hb];(conv=>whnf);refine hS.dr [] No [0,1,2] fun w1 hS=>?_
  refine hS.cV (hE.at_ 8 rfl) (bF.out hE 8 rfl ef) id ?_;refine zE ?_;exact⟨rfl,(hS.keep 7).turns⟩
 ·refine hS.lD 7 ?_;refine hS.lD 7 ?_;refine hS.cn (zsE _ _ _ ((hE.ext hS.ext ef).sub rfl)) fun w3 hS=>?_
  have hb:N.begin p=_:=if_neg (by rw[hA];decide);rw[hb];generalize o9 p.proto p.flags=r;obtain⟨s,kk⟩:=r;cases kk with
  | succ j =>
   rw[if_pos (show((s,j+1):Int × Nat).2≠0 by simp)];repeat' first|refine zP ?_|apply aR<;>intro
   exact⟨rfl,(hS.keep 7).turns⟩
  | zero =>
   rw[if_neg (show ¬((s,0):Int × Nat).2≠0 by simp)];dsimp only;have uA:=Bz p.proto s;have jq:=hO.n0;have Dh:=hO.n1;have kZ:=hS.ne 0 3 rfl rfl zd;have nv:=hS.ne 7 3 rfl rfl zd;(conv=>whnf);refine hS.dr [] (fun b=>b=A.t) [0,1,2,3,4,5,6,7,8,9,10,11,12,13,14,15,16,17,18,19,20,21,22,23,24] fun w1 hS=>?_
   have hK:=hS.ref (fun b=>b=A.t);repeat' ((conv=>whnf);first|refine hS.fK 7 rfl rfl nv ?_|refine hS.bU 7 rfl rfl nv ?_|refine hS.bU 0 rfl rfl kZ ?_)
   refine(MS _ _ _).mono ?_;rintro v w' ⟨rfl,hx⟩;replace hS:=hS.no hx;replace hK:=hK.trans hx.aF;refine ae.mk hK ?_;repeat' ((conv=>whnf);first|apply aI.mk|refine bO.mk zd ?_|refine ag.mk zo zo ?_|refine ao.mk zo zo ?_|(first|apply aM|apply ca|apply cE|apply cD)<;>(intro))
   refine(zxB _ _ _ _ _ _ _ (hS.blk 3 rfl) hO.aL.len hv y8 ((hE.ext hS.ext ef).sub rfl) (ef A.t ⟨_,List.mem_of_getElem? (i:=3) rfl,List.mem_singleton.2 rfl⟩)).mono ?_;rintro v w' ⟨rfl,hx,hB⟩;replace hS:=hS.uB 3 hx hB;replace hK:=hK.trans hx;refine ae.mk hK ?_;refine zE ?_;exact⟨rfl,(hS.keep 7).turns⟩
end
section
variable {A:ja}{N:NodeS}
theorem Tx:cp (fj A N) A.n:=⟨_,List.mem_of_getElem? (i:=0) rfl,List.mem_singleton.2 rfl⟩
theorem zwu:cp (fj A N) A.r:=⟨_,List.mem_of_getElem? (i:=1) rfl,List.mem_singleton.2 rfl⟩
theorem zwt:cp (fj A N) A.c:=⟨_,List.mem_of_getElem? (i:=2) rfl,List.mem_singleton.2 rfl⟩
theorem Tq:cp (fj A N) A.t:=⟨_,List.mem_of_getElem? (i:=3) rfl,List.mem_singleton.2 rfl⟩
theorem Tw:cp (fj A N) A.m:=⟨_,List.mem_of_getElem? (i:=5) rfl,List.mem_singleton.2 rfl⟩
theorem d7.size (hq:d7 (fj A N) q)(hN:Has w (fj A N)):q≤w.heap.size:=by
 have h1:=hq A.n Tx;have h2:=hN.lt _ (List.mem_of_getElem? (i:=0) rfl) A.n (List.mem_singleton.2 rfl);omega
theorem ZY (p:cC)(hN:Has w (fj A N))(hO:eZ m N)(hm:m+1≤50000000)(hE:bF w E q xU)(hq:d7 (fj A N) q) :
  aa prog 152 #[.pointer (some ⟨A.n,0,none⟩),.agg (iN p).toArray] w fun v w'=>v=.tuple #[.agg (iN (N.inside p).2.1).toArray,gC E (N.inside p).1]∧ak w w' (fj A N) (fj A (N.inside p).2.2):=by
 have ef:∀b,cp (fj A N) b→q≤b:=hq;have tH:=hq.size hN;refine zN func152 ntmps152 ?_;have hS:=hN.start;refine hS.new (fun bp w' qe hS=>?_);refine hS.new (fun br w' lr hS=>?_);refine hS.lX 7 ?_;refine hS.cn (Lq p _ ((hE.ext hS.ext ef).sub rfl)) fun w2 hS=>?_
 by_cases hp:p.err=0
 case neg =>
  obtain⟨j,hj⟩:∃j,p.err=j+1:=⟨p.err-1,by omega⟩;rw[show N.inside p=(p.err,i7,N) from if_pos hp,hj];repeat' first|refine zP ?_|refine hS.sT 8 fun w' hS=>?_|refine hS.lX 8 ?_
  exact⟨rfl,(hS.keep 7).turns⟩
 rw[hp];refine hS.lD 0 ?_;refine(Aw (hS.blk 1 rfl)).mono ?_;rintro v w3 ⟨rfl,rfl⟩;cases ha:N.role.aE
 ·rw[show N.inside p=(9,i7,N) by unfold NodeS.inside;rw[if_neg (fun h=>h hp),if_pos ha]];(conv=>whnf);refine hS.dr [] (fun b=>b=br) [0,1,2,3] fun w1 hS=>?_
  have hK:=hS.ref (fun b=>b=br);refine hS.cV (hE.at_ 9 rfl) (bF.out hE 9 rfl ef) (hE.ne 9 rfl (Nat.le_trans tH lr)) ?_;refine hS.kD hK 8 rfl zl rfl rfl (fun w' hK hS=>ae.mk hK ?_);repeat' first|refine zP ?_|refine hS.lX 8 ?_
  exact⟨rfl,(hS.keep 7).turns⟩
 refine hS.new (fun bf w' rQ hS=>?_);replace hS:St w (cp (fj A N)) w' (fj A N++[blk bp 149 (iN p),blk br 149 (iN i7),blk bf 216 (dW fN)]):=hS;(conv=>whnf)
 (refine ir aj mixed [] No [0,1,2,3,4,5,6,7,8,9,10,11,12,13,14,15] zk ?_;rintro w1 rfl;replace hS:=hS.drew)
 repeat' ((conv=>whnf);first|refine hS.fK 7 rfl rfl id ?_|refine hS.bU 7 rfl rfl id ?_|refine hS.bU 0 rfl rfl id ?_)
 refine(Ml _ _ _ _ _ (hS.blk 3 rfl) hO.aL.len).mono ?_;rintro v w4 ⟨rfl,hx⟩;replace hS:=hS.no hx;refine ae.mk hx ?_;(conv=>whnf);refine aM (fun hf=>?_) (fun hf=>?_)
 ·rw[show ug (N.aL.find p.proto p.sa p.sp p.da p.dp)=N.aL.find p.proto p.sa p.sp p.da p.dp from if_neg zo]
  rw[show N.inside p=(0,⟨p.proto,1,(ik N.aL (N.aL.find p.proto p.sa p.sp p.da p.dp)).port,p.da,p.dp,p.flags⟩,N.pass (N.aL.find p.proto p.sa p.sp p.da p.dp) p.flags true) by
   unfold NodeS.inside;rw[if_neg (fun h=>h hp),if_neg (by rw[ha];decide),if_pos hf]]
  have lz:=(Gd hO.aL.len (pY p.proto p.sa p.sp p.da p.dp) hf).1;(conv=>whnf);refine hS.mF 7 rfl rfl ?_;(conv=>whnf);refine(SL _ p true hS.has.left hO zo lz (hE.ext hS.ext ef) hq).mono ?_;rintro v w5 ⟨rfl,ht⟩;replace hS:=St.call hS ht;refine hS.new (fun bx w' yL hS=>?_);refine hS.sT 10 fun w' hS=>?_
  refine hS.lX 10 ?_;refine hS.sT 9 fun w' hS=>?_
  refine hS.lD 9 ?_;refine hS.sT 7 fun w' hS=>?_
  refine hS.lX 7 ?_;refine hS.sT 8 fun w' hS=>?_
  refine hS.mF 8 rfl rfl ?_;repeat' ((conv=>whnf);first|apply aI.mk|refine bO.mk zd ?_|refine ag.mk zo zo ?_|refine ao.mk zo zo ?_|(first|apply aM|apply ca|apply cE|apply cD)<;>(intro))
  exact⟨rfl,(hS.keep 7).turns⟩
 ·have hI:N.inside p=if (N.begin p).1.2≠0 then ((N.begin p).1.2,i7,(N.begin p).2) else (0,⟨p.proto,1,(ik (N.begin p).2.aL (N.begin p).1.1).port,p.da,p.dp,p.flags⟩,(N.begin p).2):=by
   unfold NodeS.inside;rw[if_neg (fun h=>h hp),if_neg (by rw[ha];decide),if_neg hf]
  rw[hI];(conv=>whnf);refine hS.mF 7 rfl rfl ?_;(conv=>whnf);refine(zqQ p hS.has.left hO zo hp (hE.ext hS.ext ef) hq).mono ?_;rintro v w5 ⟨rfl,ht⟩;replace hS:=St.call hS ht;have dG:=hO.begin p;have ez:=SR hO p;generalize N.begin p=r at hS dG ez ⊢;obtain⟨⟨k,kk⟩,N2⟩:=r;cases kk with
  | succ j =>
   rw[if_pos (show((k,j+1),N2).1.2≠0 by simp)];repeat' first|refine zP ?_|refine hS.sT 8 fun w' hS=>?_|refine hS.lX 8 ?_
   exact⟨rfl,(hS.keep 7).turns⟩
  | zero =>
   rw[if_neg (show ¬((k,0),N2).1.2≠0 by simp)];obtain⟨h0,h1⟩:=ez rfl;obtain⟨c,hc,lS⟩:=RM dG k h0 h1;dsimp only at hS hc lS h0 h1 ⊢;rw[←lS];refine hS.lD 0 ?_;refine hS.cn (TZ k (hS.blk 3 rfl) h0 h1 hc) fun w6 hS=>?_
   refine hS.new (fun bx w' yL hS=>?_);refine hS.sT 10 fun w' hS=>?_
   refine hS.lX 10 ?_;refine hS.sT 9 fun w' hS=>?_
   refine hS.lD 9 ?_;refine hS.sT 7 fun w' hS=>?_
   refine hS.lX 7 ?_;refine hS.sT 8 fun w' hS=>?_
   refine hS.lX 8 ?_;refine zE ?_;exact⟨rfl,(hS.keep 7).turns⟩
theorem ZD (p:cC)(hN:Has w (fj A N))(hO:eZ m N)(hm:m+1≤50000000)(hE:bF w E q xU)(hq:d7 (fj A N) q) :
  aa prog 155 #[.pointer (some ⟨A.n,0,none⟩),.agg (iN p).toArray] w fun v w'=>v=.tuple #[.agg (iN (N.outside p).2.1).toArray,gC E (N.outside p).1]∧ak w w' (fj A N) (fj A (N.outside p).2.2):=by
 have ef:∀b,cp (fj A N) b→q≤b:=hq;have tH:=hq.size hN;refine zN func155 ntmps155 ?_;have hS:=hN.start;refine hS.new (fun bp w' qe hS=>?_);refine hS.new (fun br w' lr hS=>?_);replace hS:St w (cp (fj A N)) w' (fj A N++[blk bp 149 (iN p),blk br 149 (iN i7)]):=hS;refine hS.lX 7 ?_;refine(Lq p _ ((hE.ext hS.ext ef).sub rfl)).mono ?_;rintro v w2 ⟨rfl,hx⟩;replace hS:=hS.no hx;by_cases hp:p.err=0
 case neg =>
  obtain⟨j,hj⟩:∃j,p.err=j+1:=⟨p.err-1,by omega⟩;rw[show N.outside p=(p.err,i7,N) from if_pos hp,hj];repeat' first|refine zP ?_|refine hS.sT 8 fun w' hS=>?_|refine hS.lX 8 ?_
  exact⟨rfl,(hS.keep 7).turns⟩
 rw[hp];refine hS.lD 0 ?_;refine(Aw (hS.blk 1 rfl)).mono ?_;rintro v w3 ⟨rfl,rfl⟩;cases ha:N.role.aE
 ·rw[show N.outside p=(9,i7,N) by unfold NodeS.outside;rw[if_neg (fun h=>h hp),if_pos ha]];(conv=>whnf);refine hS.dr [] (fun b=>b=br) [0,1,2,3] fun w1 hS=>?_
  have hK:=hS.ref (fun b=>b=br);refine hS.cV (hE.at_ 9 rfl) (bF.out hE 9 rfl ef) (hE.ne 9 rfl (Nat.le_trans tH lr)) ?_;refine hS.kD hK 8 rfl zl rfl rfl (fun w' hK hS=>ae.mk hK ?_);repeat' first|refine zP ?_|refine hS.lX 8 ?_
  exact⟨rfl,(hS.keep 7).turns⟩
 refine hS.lD 7 ?_;refine ca (fun hd=>?_) (fun hd=>?_)
 ·rw[show N.outside p=(3,i7,N) by unfold NodeS.outside;rw[if_neg (fun h=>h hp),if_neg (by rw[ha];decide),if_pos hd]];(conv=>whnf);refine hS.dr [] (fun b=>b=br) [0,1,2,3] fun w1 hS=>?_
  have hK:=hS.ref (fun b=>b=br);refine hS.cV (hE.at_ 3 rfl) (bF.out hE 3 rfl ef) (hE.ne 3 rfl (Nat.le_trans tH lr)) ?_;refine hS.kD hK 8 rfl zl rfl rfl (fun w' hK hS=>ae.mk hK ?_);repeat' first|refine zP ?_|refine hS.lX 8 ?_
  exact⟨rfl,(hS.keep 7).turns⟩
 conv=>whnf
 refine hS.dr [] No [0,1,2,3,4,5,6,7,8,9,10,11,12,13,14,15,16] fun w1 hS=>?_
 repeat' ((conv=>whnf);first|refine hS.fK 7 rfl rfl id ?_|refine hS.bU 7 rfl rfl id ?_|refine hS.bU 0 rfl rfl id ?_)
 refine(Mk _ _ _ _ (hS.blk 3 rfl) hO.aL.len).mono ?_;rintro v w4 ⟨rfl,hx⟩;replace hS:=hS.no hx;refine ae.mk hx ?_;(conv=>whnf);refine cE (fun hf=>?_) (fun hf=>?_)
 ·replace hf:=of_decide_eq_false hf;rw[show N.outside p=(4,i7,N) by unfold NodeS.outside;rw[if_neg (fun h=>h hp),if_neg (by rw[ha];decide),if_neg (fun h=>h hd),if_pos zo]];(conv=>whnf)
  (refine ir aj mixed [] (fun b=>b=br) [0,1,2,3] zk ?_;rintro w1 rfl;replace hS:=hS.drew)
  have hK:=hS.ref (fun b=>b=br);(conv=>whnf);refine hS.cV (hE.at_ 4 rfl) (bF.out hE 4 rfl ef) (hE.ne 4 rfl (Nat.le_trans tH lr)) ?_;(conv=>whnf);refine hS.kD hK 8 rfl zl rfl rfl (fun w' hK hS=>ae.mk hK ?_);repeat' ((conv=>whnf);first|apply aI.mk|refine bO.mk zd ?_|refine ag.mk zo zo ?_|refine ao.mk zo zo ?_|refine hS.mF 8 rfl rfl ?_|(first|apply aM|apply ca|apply cE|apply cD)<;>(intro))
  exact⟨rfl,(hS.keep 7).turns⟩
 ·replace hf:=of_decide_eq_true hf;rw[show ug (N.aL.back p.proto p.dp p.sa p.sp)=N.aL.back p.proto p.dp p.sa p.sp from if_neg zo]
  rw[show N.outside p=(0,⟨p.proto,p.sa,p.sp,(ik N.aL (N.aL.back p.proto p.dp p.sa p.sp)).ia,(ik N.aL (N.aL.back p.proto p.dp p.sa p.sp)).ip,p.flags⟩,N.pass (N.aL.back p.proto p.dp p.sa p.sp) p.flags false) by
   unfold NodeS.outside;rw[if_neg (fun h=>h hp),if_neg (by rw[ha];decide),if_neg (fun h=>h hd),if_neg zo]]
  have lz:=(Gd hO.aL.len (pX p.proto p.dp p.sa p.sp) hf).1;(conv=>whnf);refine hS.mF 7 rfl rfl ?_;(conv=>whnf);refine(SL _ p false hS.has.left hO zo lz (hE.ext hS.ext ef) hq).mono ?_;rintro v w5 ⟨rfl,ht⟩;replace hS:=St.call hS ht;refine hS.new (fun bx w' yL hS=>?_);refine hS.sT 9 fun w' hS=>?_
  refine hS.lX 9 ?_;refine hS.sT 7 fun w' hS=>?_
  refine hS.lX 7 ?_;refine hS.sT 8 fun w' hS=>?_
  refine hS.lX 8 ?_;refine zE ?_;exact⟨rfl,(hS.keep 7).turns⟩
end
end
end Go.Proofs.YtggfpjldhglmeaaGreatDoor