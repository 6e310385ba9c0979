/-
  Texts of this claim, joined: NodeI, NodeT, NodeN, LivesS, WorldS, ErrNum, PlayS, RowE, Notes, NotesB, WorldH, WorldA.
-/
import Derived.Test.YtogjajjdaoihdaaGreatDoorScriptPlaysD
import Derived.Lib.AppendZerosOnto
import Derived.Lib.Overlaps

namespace Go.Proofs.YtogjajjdaoihdaaGreatDoor
set_option maxRecDepth 20000
open Go Ev
section
variable {w : World} {A : NodeA} {N : NodeS}
theorem zpS:inF (zaC A N) A.n:=⟨_,List.mem_of_getElem? (i:=0) rfl,List.mem_singleton.2 rfl⟩
theorem zsH:inF (zaC A N) A.r:=⟨_,List.mem_of_getElem? (i:=1) rfl,List.mem_singleton.2 rfl⟩
theorem zs4:inF (zaC A N) A.c:=⟨_,List.mem_of_getElem? (i:=2) rfl,List.mem_singleton.2 rfl⟩
theorem zpF:inF (zaC A N) A.t:=⟨_,List.mem_of_getElem? (i:=3) rfl,List.mem_singleton.2 rfl⟩
theorem zo3:inF (zaC A N) A.m:=⟨_,List.mem_of_getElem? (i:=5) rfl,List.mem_singleton.2 rfl⟩
theorem High.size {q:Nat}(hq:High (zaC A N) q) (hN:Has w (zaC A N)):q≤w.heap.size:=by
 have h1:=hq A.n zpS;have h2:=hN.lt _ (List.mem_of_getElem? (i:=0) rfl) A.n (List.mem_singleton.2 rfl);omega
theorem znM {E:Nat→Addr}{q m:Nat}(p:PktS) (hN:Has w (zaC A N)) (hO:NOk m N) (hm:m+1≤50000000) (hE:Errs w E q zfU) (hq:High (zaC A N) q) :
  CallC Tryz.prog 134 #[.pointer (some ⟨A.n,0,none⟩),.agg (zao p).toArray] w fun v w'=>v = .tuple #[.agg (zao (N.inside p).2.1).toArray,zc9 E (N.inside p).1]∧Turns w w' (zaC A N) (zaC A (N.inside p).2.2):=by
 have hqF:∀ b,inF (zaC A N) b→q≤b:=hq;have hqw:=hq.size hN;refine zaa tabOk Tryz.func134 (by kernel_rfl) rfl Tryz.ntmps134 (lbO rfl) ?_;have hS:=hN.start;(conv=>whnf);refine hS.new (fun bp w' hbp hS=>?_);(conv=>whnf);refine hS.new (fun br w' hbr hS=>?_);replace hS:St w (inF (zaC A N)) w' (zaC A N++[blk bp 41 (zao p),blk br 41 (zao zaP)]):=hS;(conv=>whnf);refine hS.laX 7 rfl rfl ?_;(conv=>whnf);refine (zfk p _ ((hE.ext hS.ext hqF).sub rfl)).mono ?_;rintro v w2 ⟨rfl,hx⟩;replace hS:=hS.no hx;by_cases hp:p.err=0
 case neg =>
  obtain ⟨j,hj⟩:∃ j,p.err=j+1:=⟨p.err - 1,by omega⟩;rw [show N.inside p=(p.err,zaP,N) from if_pos hp,hj];repeat' ((conv=>whnf);first|apply RetC.mk|refine rgO ?_|refine ixO ?_|refine hS.st 8 rfl (lbO rfl) rfl (fun w' hS=>?_)|refine hS.laX 8 rfl rfl ?_|(first|apply brD|apply zad|apply brN|apply brI)<;>(intro))
  exact ⟨rfl,(hS.keep 7).turns⟩
 rw [hp];(conv=>whnf);refine hS.ld 0 rfl rfl ?_;(conv=>whnf);refine (zby (hS.blk 1 rfl)).mono ?_;rintro v w3 ⟨rfl,rfl⟩;cases ha:N.role.active
 ·rw [show N.inside p=(9,zaP,N) by unfold NodeS.inside;rw [if_neg (fun h=>h hp),if_pos ha]];(conv=>whnf)
  (refine zah tabOk mixed [] (fun b=>b=br) [0,1,2,3] (by kernel_rfl) ?_;rintro w1 rfl;replace hS:=hS.drew)
  have hK:=hS.ref (fun b=>b=br);(conv=>whnf);refine hS.ldrF (hE.at_ 9 rfl) (Errs.out hE 9 rfl hqF) (hE.ne 9 rfl (Nat.le_trans hqw hbr)) ?_;(conv=>whnf);refine hS.stK hK 8 rfl (lbO rfl) rfl rfl (fun w' hK hS=>KeepC.mk hK ?_);repeat' ((conv=>whnf);first|apply RetC.mk|refine rgO ?_|refine ixO ?_|refine hS.laX 8 rfl rfl ?_|(first|apply brD|apply zad|apply brN|apply brI)<;>(intro))
  exact ⟨rfl,(hS.keep 7).turns⟩
 conv=>whnf
 refine hS.new (fun bf w' hbf hS=>?_);replace hS:St w (inF (zaC A N)) w' (zaC A N++[blk bp 41 (zao p),blk br 41 (zao zaP),blk bf 207 (zai zay)]):=hS;(conv=>whnf)
 (refine zah tabOk mixed [] No [0,1,2,3,4,5,6,7,8,9,10,11,12,13,14,15] (by kernel_rfl) ?_;rintro w1 rfl;replace hS:=hS.drew)
 repeat' ((conv=>whnf);first|refine hS.laXF 7 rfl rfl id ?_|refine hS.ldF 7 rfl rfl id ?_|refine hS.ldF 0 rfl rfl id ?_)
 refine (zje _ _ _ _ _ (hS.blk 3 rfl) hO.tab.len).mono ?_;rintro v w4 ⟨rfl,hx⟩;replace hS:=hS.no hx;refine KeepC.mk hx ?_;(conv=>whnf);refine brD (fun hf=>?_) (fun hf=>?_)
 ·rw [show atI (N.tab.find p.proto p.sa p.sp p.da p.dp)=N.tab.find p.proto p.sa p.sp p.da p.dp from if_neg (by omega)]
  rw [show N.inside p=(0,⟨p.proto,1,(zaD N.tab (N.tab.find p.proto p.sa p.sp p.da p.dp)).port,p.da,p.dp,p.flags⟩,N.pass (N.tab.find p.proto p.sa p.sp p.da p.dp) p.flags true) by
   unfold NodeS.inside;rw [if_neg (fun h=>h hp),if_neg (by rw [ha];decide),if_pos hf]]
  have herr:=(zbR hO.tab.len (zlt p.proto p.sa p.sp p.da p.dp) hf).1;(conv=>whnf);refine hS.laX 7 rfl rfl ?_;(conv=>whnf);refine (zl2 _ p true hS.has.left hO (by omega) herr (hE.ext hS.ext hqF) hq).mono ?_;rintro v w5 ⟨rfl,ht⟩;replace hS:=St.call hS ht;(conv=>whnf);refine hS.new (fun bx w' hbx hS=>?_);replace hS:St w (inF (zaC A N)) w' (zaC A (N.pass (N.tab.find p.proto p.sa p.sp p.da p.dp) p.flags true)++[blk bp 41 (zao p),blk br 41 (zao zaP),blk bf 207 (zai zay),blk bx 207 (zai zay)]):=hS;(conv=>whnf);refine hS.st 10 rfl (lbO rfl) rfl (fun w' hS=>?_);(conv=>whnf);refine hS.laX 10 rfl rfl ?_;(conv=>whnf);refine hS.st 9 rfl (lbO rfl) rfl (fun w' hS=>?_);(conv=>whnf);refine hS.ld 9 rfl rfl ?_;(conv=>whnf);refine hS.st 7 rfl (lbO rfl) rfl (fun w' hS=>?_);(conv=>whnf);refine hS.laX 7 rfl rfl ?_;(conv=>whnf);refine hS.st 8 rfl (lbO rfl) rfl (fun w' hS=>?_);(conv=>whnf);refine hS.laX 8 rfl rfl ?_;repeat' ((conv=>whnf);first|apply RetC.mk|refine rgO ?_|refine ixO ?_|(first|apply brD|apply zad|apply brN|apply brI)<;>(intro))
  exact ⟨rfl,(hS.keep 7).turns⟩
 ·have hI:N.inside p=if (N.begin p).1.2≠0 then ((N.begin p).1.2,zaP,(N.begin p).2) else (0,⟨p.proto,1,(zaD (N.begin p).2.tab (N.begin p).1.1).port,p.da,p.dp,p.flags⟩,(N.begin p).2):=by
   unfold NodeS.inside;rw [if_neg (fun h=>h hp),if_neg (by rw [ha];decide),if_neg hf]
  rw [hI];(conv=>whnf);refine hS.laX 7 rfl rfl ?_;(conv=>whnf);refine (zpI p hS.has.left hO (by omega) hp (hE.ext hS.ext hqF) hq).mono ?_;rintro v w5 ⟨rfl,ht⟩;replace hS:=St.call hS ht;have hO2:=hO.begin p;have hin:=zmX hO p;generalize N.begin p=r at hS hO2 hin ⊢;obtain ⟨⟨k,kk⟩,N2⟩:=r;cases kk with
  | succ j =>
   rw [if_pos (show ((k,j+1),N2).1.2≠0 by simp)];repeat' ((conv=>whnf);first|apply RetC.mk|refine rgO ?_|refine ixO ?_|refine hS.st 8 rfl (lbO rfl) rfl (fun w' hS=>?_)|refine hS.laX 8 rfl rfl ?_|(first|apply brD|apply zad|apply brN|apply brI)<;>(intro))
   exact ⟨rfl,(hS.keep 7).turns⟩
  | zero =>
   rw [if_neg (show ¬ ((k,0),N2).1.2≠0 by simp)];obtain ⟨h0,h1⟩:=hin rfl;obtain ⟨c,hc,hcf⟩:=zkn hO2 k h0 h1;dsimp only at hS hc hcf h0 h1 ⊢;rw [← hcf];(conv=>whnf);refine hS.ld 0 rfl rfl ?_;(conv=>whnf);refine (zqe k (hS.blk 3 rfl) h0 h1 hc).mono ?_;rintro v w6 ⟨rfl,hx⟩;replace hS:=hS.no hx;(conv=>whnf);refine hS.new (fun bx w' hbx hS=>?_);replace hS:St w (inF (zaC A N)) w' (zaC A N2++[blk bp 41 (zao p),blk br 41 (zao zaP),blk bf 207 (zai zay),blk bx 209 (zac ⟨0,0,zay⟩)]):=hS;(conv=>whnf);refine hS.st 10 rfl (lbO rfl) rfl (fun w' hS=>?_);(conv=>whnf);refine hS.laX 10 rfl rfl ?_;(conv=>whnf);refine hS.st 9 rfl (lbO rfl) rfl (fun w' hS=>?_);(conv=>whnf);refine hS.ld 9 rfl rfl ?_;(conv=>whnf);refine hS.st 7 rfl (lbO rfl) rfl (fun w' hS=>?_);(conv=>whnf);refine hS.laX 7 rfl rfl ?_;(conv=>whnf);refine hS.st 8 rfl (lbO rfl) rfl (fun w' hS=>?_);(conv=>whnf);refine hS.laX 8 rfl rfl ?_;repeat' ((conv=>whnf);first|apply RetC.mk|refine rgO ?_|refine ixO ?_|(first|apply brD|apply zad|apply brN|apply brI)<;>(intro))
   exact ⟨rfl,(hS.keep 7).turns⟩
theorem zk2 {E:Nat→Addr}{q m:Nat}(p:PktS) (hN:Has w (zaC A N)) (hO:NOk m N) (hm:m+1≤50000000) (hE:Errs w E q zfU) (hq:High (zaC A N) q) :
  CallC Tryz.prog 135 #[.pointer (some ⟨A.n,0,none⟩),.agg (zao p).toArray] w fun v w'=>v = .tuple #[.agg (zao (N.outside p).2.1).toArray,zc9 E (N.outside p).1]∧Turns w w' (zaC A N) (zaC A (N.outside p).2.2):=by
 have hqF:∀ b,inF (zaC A N) b→q≤b:=hq;have hqw:=hq.size hN;refine zaa tabOk Tryz.func135 (by kernel_rfl) rfl Tryz.ntmps135 (lbO rfl) ?_;have hS:=hN.start;(conv=>whnf);refine hS.new (fun bp w' hbp hS=>?_);(conv=>whnf);refine hS.new (fun br w' hbr hS=>?_);replace hS:St w (inF (zaC A N)) w' (zaC A N++[blk bp 41 (zao p),blk br 41 (zao zaP)]):=hS;(conv=>whnf);refine hS.laX 7 rfl rfl ?_;(conv=>whnf);refine (zfk p _ ((hE.ext hS.ext hqF).sub rfl)).mono ?_;rintro v w2 ⟨rfl,hx⟩;replace hS:=hS.no hx;by_cases hp:p.err=0
 case neg =>
  obtain ⟨j,hj⟩:∃ j,p.err=j+1:=⟨p.err - 1,by omega⟩;rw [show N.outside p=(p.err,zaP,N) from if_pos hp,hj];repeat' ((conv=>whnf);first|apply RetC.mk|refine rgO ?_|refine ixO ?_|refine hS.st 8 rfl (lbO rfl) rfl (fun w' hS=>?_)|refine hS.laX 8 rfl rfl ?_|(first|apply brD|apply zad|apply brN|apply brI)<;>(intro))
  exact ⟨rfl,(hS.keep 7).turns⟩
 rw [hp];(conv=>whnf);refine hS.ld 0 rfl rfl ?_;(conv=>whnf);refine (zby (hS.blk 1 rfl)).mono ?_;rintro v w3 ⟨rfl,rfl⟩;cases ha:N.role.active
 ·rw [show N.outside p=(9,zaP,N) by unfold NodeS.outside;rw [if_neg (fun h=>h hp),if_pos ha]];(conv=>whnf)
  (refine zah tabOk mixed [] (fun b=>b=br) [0,1,2,3] (by kernel_rfl) ?_;rintro w1 rfl;replace hS:=hS.drew)
  have hK:=hS.ref (fun b=>b=br);(conv=>whnf);refine hS.ldrF (hE.at_ 9 rfl) (Errs.out hE 9 rfl hqF) (hE.ne 9 rfl (Nat.le_trans hqw hbr)) ?_;(conv=>whnf);refine hS.stK hK 8 rfl (lbO rfl) rfl rfl (fun w' hK hS=>KeepC.mk hK ?_);repeat' ((conv=>whnf);first|apply RetC.mk|refine rgO ?_|refine ixO ?_|refine hS.laX 8 rfl rfl ?_|(first|apply brD|apply zad|apply brN|apply brI)<;>(intro))
  exact ⟨rfl,(hS.keep 7).turns⟩
 conv=>whnf
 refine hS.ld 7 rfl rfl ?_;(conv=>whnf);refine zad (fun hd=>?_) (fun hd=>?_)
 ·rw [show N.outside p=(3,zaP,N) by unfold NodeS.outside;rw [if_neg (fun h=>h hp),if_neg (by rw [ha];decide),if_pos hd]];(conv=>whnf)
  (refine zah tabOk mixed [] (fun b=>b=br) [0,1,2,3] (by kernel_rfl) ?_;rintro w1 rfl;replace hS:=hS.drew)
  have hK:=hS.ref (fun b=>b=br);(conv=>whnf);refine hS.ldrF (hE.at_ 3 rfl) (Errs.out hE 3 rfl hqF) (hE.ne 3 rfl (Nat.le_trans hqw hbr)) ?_;(conv=>whnf);refine hS.stK hK 8 rfl (lbO rfl) rfl rfl (fun w' hK hS=>KeepC.mk hK ?_);repeat' ((conv=>whnf);first|apply RetC.mk|refine rgO ?_|refine ixO ?_|refine hS.laX 8 rfl rfl ?_|(first|apply brD|apply zad|apply brN|apply brI)<;>(intro))
  exact ⟨rfl,(hS.keep 7).turns⟩
 conv=>whnf
 (refine zah tabOk mixed [] No [0,1,2,3,4,5,6,7,8,9,10,11,12,13,14,15,16] (by kernel_rfl) ?_;rintro w1 rfl;replace hS:=hS.drew)
 repeat' ((conv=>whnf);first|refine hS.laXF 7 rfl rfl id ?_|refine hS.ldF 7 rfl rfl id ?_|refine hS.ldF 0 rfl rfl id ?_)
 refine (ziS _ _ _ _ (hS.blk 3 rfl) hO.tab.len).mono ?_;rintro v w4 ⟨rfl,hx⟩;replace hS:=hS.no hx;refine KeepC.mk hx ?_;(conv=>whnf);refine brN (fun hf=>?_) (fun hf=>?_)
 ·replace hf:=of_decide_eq_false hf;rw [show N.outside p=(4,zaP,N) by unfold NodeS.outside;rw [if_neg (fun h=>h hp),if_neg (by rw [ha];decide),if_neg (fun h=>h hd),if_pos (by omega)]];(conv=>whnf)
  (refine zah tabOk mixed [] (fun b=>b=br) [0,1,2,3] (by kernel_rfl) ?_;rintro w1 rfl;replace hS:=hS.drew)
  have hK:=hS.ref (fun b=>b=br);(conv=>whnf);refine hS.ldrF (hE.at_ 4 rfl) (Errs.out hE 4 rfl hqF) (hE.ne 4 rfl (Nat.le_trans hqw hbr)) ?_;(conv=>whnf);refine hS.stK hK 8 rfl (lbO rfl) rfl rfl (fun w' hK hS=>KeepC.mk hK ?_);repeat' ((conv=>whnf);first|apply RetC.mk|refine rgO ?_|refine ixO ?_|refine hS.laX 8 rfl rfl ?_|(first|apply brD|apply zad|apply brN|apply brI)<;>(intro))
  exact ⟨rfl,(hS.keep 7).turns⟩
 ·replace hf:=of_decide_eq_true hf;rw [show atI (N.tab.back p.proto p.dp p.sa p.sp)=N.tab.back p.proto p.dp p.sa p.sp from if_neg (by omega)]
  rw [show N.outside p=(0,⟨p.proto,p.sa,p.sp,(zaD N.tab (N.tab.back p.proto p.dp p.sa p.sp)).ia,(zaD N.tab (N.tab.back p.proto p.dp p.sa p.sp)).ip,p.flags⟩,N.pass (N.tab.back p.proto p.dp p.sa p.sp) p.flags false) by
   unfold NodeS.outside;rw [if_neg (fun h=>h hp),if_neg (by rw [ha];decide),if_neg (fun h=>h hd),if_neg (by omega)]]
  have herr:=(zbR hO.tab.len (zlx p.proto p.dp p.sa p.sp) hf).1;(conv=>whnf);refine hS.laX 7 rfl rfl ?_;(conv=>whnf);refine (zl2 _ p false hS.has.left hO (by omega) herr (hE.ext hS.ext hqF) hq).mono ?_;rintro v w5 ⟨rfl,ht⟩;replace hS:=St.call hS ht;(conv=>whnf);refine hS.new (fun bx w' hbx hS=>?_);replace hS:St w (inF (zaC A N)) w' (zaC A (N.pass (N.tab.back p.proto p.dp p.sa p.sp) p.flags false)++[blk bp 41 (zao p),blk br 41 (zao zaP),blk bx 207 (zai zay)]):=hS;(conv=>whnf);refine hS.st 9 rfl (lbO rfl) rfl (fun w' hS=>?_);(conv=>whnf);refine hS.laX 9 rfl rfl ?_;(conv=>whnf);refine hS.st 7 rfl (lbO rfl) rfl (fun w' hS=>?_);(conv=>whnf);refine hS.laX 7 rfl rfl ?_;(conv=>whnf);refine hS.st 8 rfl (lbO rfl) rfl (fun w' hS=>?_);(conv=>whnf);refine hS.laX 8 rfl rfl ?_;repeat' ((conv=>whnf);first|apply RetC.mk|refine rgO ?_|refine ixO ?_|(first|apply brD|apply zad|apply brN|apply brI)<;>(intro))
  exact ⟨rfl,(hS.keep 7).turns⟩
end

theorem Ev.St.upd2 {w0 w w':World}{S T:Nat→Prop}{H:List Ent}{e1 e2 d1 d2:Ent}(h:St w0 S w (e1::e2::H)) (k:Ext T w w') (hT:∀ b,T b→b∈e1.foot∨b∈e2.foot) (l1:d1.Local) (h1:d1.holds w') (f1:d1.foot=e1.foot) (l2:d2.Local) (h2:d2.holds w') (f2:d2.foot=e2.foot):St w0 S w' (d1::d2::H):=by
 have hap:=List.pairwise_cons.1 h.apart;have hap2:=List.pairwise_cons.1 hap.2;have hme1:e1∈e1::e2::H:=List.mem_cons_self;have hme2:e2∈e1::e2::H:=List.mem_cons_of_mem _ List.mem_cons_self;have hmH:∀ f∈H,f∈e1::e2::H:=fun f hf=>List.mem_cons_of_mem _ (List.mem_cons_of_mem _ hf)
 have hnT:∀ f∈H,∀ b∈f.foot,¬ T b:=fun f hf b hb ht=>(hT b ht).elim (fun h1=>hap.1 f (List.mem_cons_of_mem _ hf) b h1 hb) fun h2=>hap2.1 f hf b h2 hb
 refine ⟨h.ext.then k fun b hb=>(hT b hb).elim (fun hb=>(h.may e1 hme1 b hb).1) fun hb=>(h.may e2 hme2 b hb).1,?_,?_,?_,?_⟩
 ·intro e he;rcases List.mem_cons.1 he with rfl|he
  ·exact h1
  rcases List.mem_cons.1 he with rfl|he
  ·exact h2
  ·exact h.loc e (hmH e he) w w' (fun b hb=>k.block b (h.may e (hmH e he) b hb).2 (hnT e he b hb)) (h.each e (hmH e he))
 ·intro e he;rcases List.mem_cons.1 he with rfl|he
  ·exact l1
  rcases List.mem_cons.1 he with rfl|he
  ·exact l2
  ·exact h.loc e (hmH e he)
 ·intro e he b hb
  have key:∃ f∈e1::e2::H,b∈f.foot:=by
   rcases List.mem_cons.1 he with rfl|he
   ·exact ⟨e1,hme1,f1 ▸ hb⟩
   rcases List.mem_cons.1 he with rfl|he
   ·exact ⟨e2,hme2,f2 ▸ hb⟩
   ·exact ⟨e,hmH e he,hb⟩
  obtain ⟨f,hf,hb⟩:=key;exact ⟨(h.may f hf b hb).1,Nat.lt_of_lt_of_le (h.may f hf b hb).2 k.size⟩
 ·refine .cons (fun f hf b hb=>?_) (.cons (fun f hf b hb=>?_) hap2.2)
  ·rw [f1] at hb;rcases List.mem_cons.1 hf with rfl|hf
   ·rw [f2];exact hap.1 e2 List.mem_cons_self b hb
   ·exact hap.1 f (List.mem_cons_of_mem _ hf) b hb
  ·rw [f2] at hb;exact hap2.1 f hf b hb

theorem ztw {P:Program}{τ:Tab}{N:Nat}{σ:zar}{w:World}(hτ:TabOk P τ) (hm:P.follows .mixedOrders=true) {ops:Array Oper}{Q:zar→World→Prop}(late:List Nat) (S:World→World→Prop) (order:List Nat)
  (hok:(Region.noSelect ops&&Nat.beq order.length ops.size&&zdA ops late order (Array.replicate ops.size false))=true)
  (h:∀ w1,w1={ w with drawn:=w.drawn+1 }→S w1 w1∧zfX P τ N ops late (S w1) order Q σ w1):DrawC P τ N ops Q σ w :=
 zsY hτ hm late S order hok (h _ rfl).1 (by have:=(h _ rfl).2;rwa [zeu] at this)
theorem LdF.imp {S S':World→Prop}{b o:Nat}{k:Value→Prop}(hi:∀ w,S' w→S w) (h:LdF S b o k):LdF S' b o k:=by
 obtain ⟨v,hv,hk⟩:=h;exact ⟨v,fun w hw=>hv w (hi w hw),hk⟩
def zaU (A:NodeA) (N:NodeS) (B:BytS):List Ent:=zaC A N++[blk A.b 253 (zaE B)]
section
variable {w : World} {A : NodeA} {N : NodeS} {B : BytS}
theorem zhJ {b:Nat}(h:inF (zaC A N) b):inF (zaU A N B) b:=inF_app.2 (.inl h)
theorem zsS:inF (zaU A N B) A.b:=⟨_,List.mem_of_getElem? (i:=7) rfl,List.mem_singleton.2 rfl⟩
theorem zo9 {E:Nat→Addr}{q m:Nat}(hN:Has w (zaU A N B)) (hO:NOk m N) (hB:BOk B) (ha:N.role.active=false) (hm:m+33≤50000000) (hE:Errs w E q zgA) (hq:High (zaU A N B) q) :
  CallC Tryz.prog 320 #[.pointer (some ⟨A.n,0,none⟩)] w fun v w'=>v = .tuple #[.bool (N.claim B).1.1,zc9 E (N.claim B).1.2]∧Turns w w' (zaU A N B) (zaU A (N.claim B).2.1 (N.claim B).2.2):=by
 have hqF:∀ b,inF (zaU A N B) b→q≤b:=hq;refine zaa tabOk Tryz.func320 (by kernel_rfl) rfl Tryz.ntmps320 (lbO rfl) ?_;have hS:=hN.start;(conv=>whnf);refine hS.ld 0 rfl rfl ?_;(conv=>whnf);refine (zkM (hS.blk 1 rfl) hO.role (hE.sub rfl)).mono ?_;rintro v w2 ⟨rfl,hx⟩;replace hS:=hS.no hx;by_cases hnx:N.role.next.2=0
 case neg =>
  obtain ⟨j,hj⟩:∃ j,N.role.next.2=j+1:=⟨N.role.next.2 - 1,by omega⟩;rw [show N.claim B=((false,0),N,B) from if_pos hnx,hj];repeat' ((conv=>whnf);first|apply RetC.mk|refine nzO ?_|refine rgO ?_|refine ixO ?_|(first|apply brD|apply zad|apply brN|apply brI)<;>(intro))
  exact ⟨rfl,hS.turns⟩
 have hcl:=RoleS.claim_next ha hnx;have hpos:=RoleS.next_pos hO.role hnx;rw [hnx];have hn1:=hS.ne 0 2 rfl rfl (by decide);have hn2:=hS.ne 0 7 rfl rfl (by decide);(conv=>whnf)
 (refine zah tabOk mixed [] (fun b=>b=A.b∨b=A.c) [0,1,2,3,4,5,6,7,8,9,10,11] (by kernel_rfl) ?_;rintro w1 rfl;replace hS:=hS.drew)
 have hK:=hS.ref (fun b=>b=A.b∨b=A.c);repeat' ((conv=>whnf);first|refine hS.ldF 0 rfl rfl (fun h=>h.elim hn2 hn1) ?_)
 refine (zbY (hS.blk 2 rfl)).mono ?_;rintro v w3 ⟨rfl,hx⟩;replace hS:=hS.no hx;replace hK:=hK.trans hx.of_no;refine KeepC.mk hK ?_;(conv=>whnf);refine (zpY N.role.next.1 N.cell.li (hS.blk 2 rfl) (hS.blk 7 rfl) hB hO.num ((hE.ext hS.ext hqF).sub rfl) (hqF A.b zsS) (hqF A.c (zhJ zs4))).mono ?_;rintro v w4 ⟨rfl,hx,hB1,hC1⟩;have hs0:=hS.sel [7,2,0,1,3,4,5,6] (by decide);have hs1:=(Ev.St.upd2 hs0 hx (by simp [blk]) (zab _ _ _) hB1 rfl (zab _ _ _) hC1 rfl).sel [2,3,1,4,5,6,7,0] (by decide);replace hK:=hK.trans hx;refine KeepC.mk hK ?_;clear hS hs0 hB1 hC1 hx;by_cases hp:(N.cell.put B N.role.next.1 N.cell.li).1=0
 case neg =>
  obtain ⟨j,hj⟩:∃ j,(N.cell.put B N.role.next.1 N.cell.li).1=j+1:=⟨(N.cell.put B N.role.next.1 N.cell.li).1 - 1,by omega⟩
  rw [show N.claim B=((false,(N.cell.put B N.role.next.1 N.cell.li).1),{ N with cell:=(N.cell.put B N.role.next.1 N.cell.li).2.2 },(N.cell.put B N.role.next.1 N.cell.li).2.1) by
   unfold NodeS.claim;rw [if_neg (fun h=>h hnx),if_pos hp],hj]
  repeat' ((conv=>whnf);first|apply RetC.mk|refine nzO ?_|refine rgO ?_|refine ixO ?_|(first|apply brD|apply zad|apply brN|apply brI)<;>(intro))
  exact ⟨rfl,St.turns hs1⟩
 rw [show N.claim B=((true,0),{ N with cell:=(N.cell.put B N.role.next.1 N.cell.li).2.2,role:=(N.role.claim N.role.next.1).2,tab:=zcC N.now N.tab (zaV N.mir.cells) },(N.cell.put B N.role.next.1 N.cell.li).2.1) by
  unfold NodeS.claim;rw [if_neg (fun h=>h hnx),if_neg (fun h=>h hp)],hp]
 generalize (N.cell.put B N.role.next.1 N.cell.li).2=BC at hs1 ⊢;obtain ⟨B2,C2⟩:=BC;have hS:St w (inF (zaU A N B)) w4 (zaU A { N with cell:=C2 } B2):=hs1;clear hs1;(conv=>whnf);refine hS.ld 0 rfl rfl ?_;(conv=>whnf);refine (zn0 N.role.next.1 (hS.blk 1 rfl) hO.role ((hE.ext hS.ext hqF).sub rfl) (hqF A.r (zhJ zsH))).mono ?_;rintro v w' ⟨rfl,hx,hB⟩;replace hS:=hS.upd 1 rfl hx (fun c hc=>by subst hc;exact List.mem_singleton.2 rfl) (zab _ _ _) hB (fun c hc=>.inl hc);clear hx hB;replace hS:St w (inF (zaU A N B)) w' (zaU A { N with cell:=C2,role:=(N.role.claim N.role.next.1).2 } B2):=hS;rw [show (N.role.claim N.role.next.1).1=0 by rw [hcl]];(conv=>whnf);refine hS.ld 0 rfl rfl ?_;(conv=>whnf);refine (zrv (hS.blk 5 rfl) hO.mir).mono ?_;rintro v w' ⟨a,c,rfl,hx,ho,hf⟩;replace hS:=hS.made hx zaj ho (fun g hg=>hf g (by simpa [zaf,own] using hg));clear hx ho hf;have hlen:=zcY N.mir.cells;rw [hO.mir] at hlen;generalize zaV N.mir.cells=l at hS hlen ⊢;generalize (N.role.claim N.role.next.1).2=r2 at hS ⊢;have hn0:=hO.n0;have hn9:=hO.n1;(conv=>whnf)
 refine zaL tabOk (fun σ w' q=>∃ k:Nat,σ=[(49,.int .i64 k),(48,.int .i64 l.length),(47,.slice a l.length c),(0,.pointer (some ⟨A.n,0,none⟩))]∧q=l.length - k∧k≤l.length∧St w (inF (zaU A N B)) w' (zaU A { N with cell:=C2,role:=r2,tab:=zcC N.now N.tab (l.take k) } B2++[zaf 207 8 zai (.slice a l.length c) l]))
  (σ':=[(49,.int .i64 ((0:Nat):Int)),(48,.int .i64 l.length),(47,.slice a l.length c),(0,.pointer (some ⟨A.n,0,none⟩))]) (n:=l.length) ⟨rfl,rfl,rfl,rfl,trivial⟩ ⟨0,rfl,rfl,Nat.zero_le _,hS⟩ ?_
 clear hS;rintro _ w1 q' ⟨k,rfl,rfl,hk,hS⟩;(conv=>whnf);refine brD (fun h3=>?_) (fun h3=>?_)
 ·obtain ⟨b0,o0,x,hxk,_,rfl,hb0,hc⟩:=(zap (G:=fun _=>True) zf2 (hS.get 8 rfl) (fun _ _=>trivial)).at (k:=k) (by omega);have hstep:=zhu N.now N.tab hxk;have hTk:=zfD N.now (l.take k) hO.tab;have hlk:(l.take k).length≤32:=by rw [List.length_take];omega
  generalize zcC N.now N.tab (l.take k)=T at hS hstep hTk;(conv=>whnf);refine ixO ?_;(conv=>whnf);refine ⟨zai x,rfl,hc,?_⟩;(conv=>whnf);refine hS.new (fun bf w' hbf hS=>?_);(conv=>whnf);refine hS.st 9 rfl (lbO rfl) rfl (fun w' hS=>?_);replace hS:St w (inF (zaU A N B)) w' (zaU A { N with cell:=C2,role:=r2,tab:=T } B2++[zaf 207 8 zai (.slice (some ⟨b0,o0,none⟩) l.length c) l,blk bf 207 (zai x)]):=hS;have hf1:=hS.ne 0 9 rfl rfl (by decide);have hf3:=hS.ne 9 3 rfl rfl (by decide);have hf4:=hS.ne 0 3 rfl rfl (by decide);have htb:=zch x.proto x.state;(conv=>whnf);refine ztw tabOk mixed [] (fun w1 w'=>Ext (· = bf) w1 w'∧∃ y,Blk w' bf 207 (zai { x with til:=y })) [0,1,2,3,4,5,6,7,8,9,10,11] (by kernel_rfl) ?_;rintro w1 rfl;replace hS:=hS.drew;refine ⟨⟨Ext.refl _ _,x.til,hS.blk 9 rfl⟩,?_⟩;have hK:=hS.ref (· = bf);(conv=>whnf);refine LdF.imp (fun _ h=>h.1) (hS.ldF 0 rfl rfl hf1 ?_);(conv=>whnf);refine ⟨.int .i64 x.proto,fun w' h=>by obtain ⟨_,y,h⟩:=h;rw [h.cell];rfl,?_⟩;(conv=>whnf);refine ⟨.int .i64 x.state,fun w' h=>by obtain ⟨_,y,h⟩:=h;rw [h.cell];rfl,?_⟩;(conv=>whnf);refine (zlJ _ _ _).mono ?_;rintro v w' ⟨rfl,hx⟩;replace hS:=hS.no hx;replace hK:=hK.trans hx.of_no;refine KeepC.mk ⟨hK,x.til,hS.blk 9 rfl⟩ ?_;(conv=>whnf);refine RngC.mk (by dsimp only;omega) (by dsimp only;omega) ?_;(conv=>whnf);refine hS.stK hK 9 rfl (lbO rfl) rfl rfl (fun w' hK hS=>KeepC.mk ⟨hK,N.now+zc4 x.proto x.state,hS.blk 9 rfl⟩ ?_);clear hK hx;(conv=>whnf)
  (refine zah tabOk mixed [] (fun b=>b=A.t) [0,1,2,3,4,5,6,7,8] (by kernel_rfl) ?_;rintro w1 rfl;replace hS:=hS.drew)
  repeat' ((conv=>whnf);first|refine hS.laXF 9 rfl rfl hf3 ?_|refine hS.ldF 0 rfl rfl hf4 ?_)
  refine (ztj { x with til:=N.now+zc4 x.proto x.state } (hS.blk 3 rfl) hTk.len (hTk.verOk (by omega)) ((hE.ext hS.ext hqF).sub rfl) (hqF A.t (zhJ zpF))).mono ?_;rintro v w' ⟨rfl,hx,hB⟩;refine KeepC.mk hx ?_;replace hS:=hS.upd 3 rfl hx (fun c hc=>by subst hc;exact List.mem_singleton.2 rfl) (zab _ _ _) hB (fun c hc=>.inl hc);rw [← hstep] at hS;(conv=>whnf);refine rgO ?_;(conv=>whnf);refine LoopE.mk ⟨_,[(49,.int .i64 ((k+1:Nat):Int)),(48,_),(47,_),(0,_)],?_,⟨rfl,rfl,rfl,rfl,trivial⟩,⟨k+1,rfl,rfl,by omega,hS.keep 9⟩⟩;omega
 ·obtain rfl:k=l.length:=by omega
  rw [List.take_length] at hS;repeat' ((conv=>whnf);first|apply RetC.mk|refine nzO ?_|refine rgO ?_|refine ixO ?_|(first|apply brD|apply zad|apply brN|apply brI)<;>(intro))
  exact ⟨rfl,St.turns (hS.keep 8)⟩
end

structure NoteV where
 fro:Int
 life:Int
 epoch:Int
 claim:Bool
 a:Option Addr
 n:Nat
 c:Nat
def zae (x:NoteV):List Value:=[.int .i64 x.fro,.int .i64 x.life,.int .i64 x.epoch,.bool x.claim,.slice x.a x.n x.c]
theorem zak:Codec 5 zae:=⟨fun _=>rfl,fun _=>rfl,by decide⟩
def zcx:NoteV:=⟨0,0,0,false,none,0,0⟩
def za8 (x:Option Addr) (y:Nat) (n:NoteS):NoteV:=⟨n.fro,n.life,n.epoch,n.claim,if n.claim=true then none else x,n.cells.length,if n.claim=true then 0 else y⟩
def zaH (l:List NoteS):List CellS:=l.flatMap (·.cells)
def zkE (a:Option Addr) (c:Nat) (x:Option Addr) (y:Nat) (l:List NoteS):List Ent:=[zaf 350 5 zae (.slice a (l.map (za8 x y)).length c) (l.map (za8 x y)),zaf 209 10 zac (.slice x (zaH l).length y) (zaH l)]
theorem Ev.St.addNil {α:Type}{w0 w:World}{S:Nat→Prop}{H:List Ent}(h:St w0 S w H) (e:TypeId) (sz:Nat) (enc:α→List Value):St w0 S w (H++[zaf e sz enc (.slice none 0 0) []]) :=
 h.add zaj (zcy _ _ _) (by simp [zaf,own,Value.ownBlock]) (by simp [zaf,own,Value.ownBlock])
theorem Ev.St.high {q:Nat}{w0 w:World}{S:Nat→Prop}{H:List Ent}(h:St w0 S w H) (h1:∀ b,S b→q≤b) (h2:q≤w0.heap.size):High H q:=fun b ⟨e,he,hb⟩=>(h.may e he b hb).1.elim (h1 b) (fun h=>Nat.le_trans h2 h)
theorem Ev.St.turned {w0 w w':World}{S:Nat→Prop}{H H':List Ent}(h:St w0 S w H) (k:Turns w w' H H'):St w0 S w' H':=by
 have:=St.call (B:=[]) (by simpa using h) k;simpa using this
theorem zbu {N:NodeS}(h:N.beat=false):N.notes false=([],N):=by
 unfold NodeS.notes;rw [h];rfl
theorem zck {N:NodeS}(h:N.beat=false):N.notes true=([⟨N.id,N.cell.li,N.role.epoch,true,[]⟩],N):=by
 unfold NodeS.notes;rw [h];rfl
theorem zcz {N:NodeS}{cl:Bool}(h:N.beat=true):N.notes cl=([⟨N.id,N.cell.li,N.role.epoch,true,[]⟩,⟨N.id,N.cell.li,N.role.epoch,false,zcj N.tab.cells (N.tel.picks N.tab.cells)⟩],{ N with tel:=N.tel.next N.tab.cells }):=by
 unfold NodeS.notes;rw [h,if_pos (.inr rfl),if_pos rfl,if_pos rfl];rfl
section
variable {w : World} {A : NodeA} {N : NodeS} {B : BytS}
theorem zqF {E:Nat→Addr}{q m:Nat}(hN:Has w (zaU A N B)) (hO:NOk m N) (hBB:BOk B) (hm:m+34≤50000000) (hE:Errs w E q zgA) (hq:High (zaU A N B) q) :
  CallC Tryz.prog 277 #[.pointer (some ⟨A.n,0,none⟩)] w fun v w'=>∃ a c x y,v = .tuple #[.slice a ((N.tick B).2.1.map (za8 x y)).length c,zc9 E (N.tick B).1]∧Turns w w' (zaU A N B) (zaU A (N.tick B).2.2.1 (N.tick B).2.2.2++zkE a c x y (N.tick B).2.1):=by
 have hqF:∀ b,inF (zaU A N B) b→q≤b:=hq
 have hqw:q≤w.heap.size:=by
  have h1:=hq A.n (zhJ zpS);have h2:=hN.lt _ (List.mem_of_getElem? (i:=0) rfl) A.n (List.mem_singleton.2 rfl);omega
 have hn0:=hO.n0;refine zaa tabOk Tryz.func277 (by kernel_rfl) rfl Tryz.ntmps277 (lbO rfl) ?_;have hS:=hN.start;(conv=>whnf);refine hS.ld 0 rfl rfl ?_;(conv=>whnf);refine brD (fun hn=>?_) (fun hn=>?_)
 ·rw [show N.tick B=(2,[],N,B) from if_pos hn];(conv=>whnf)
  (refine zah tabOk mixed [] No [0,1,2] (by kernel_rfl) ?_;rintro w1 rfl;replace hS:=hS.drew)
  (conv=>whnf);refine hS.ldrF (hE.at_ 2 rfl) (Errs.out hE 2 rfl hqF) id ?_;repeat' ((conv=>whnf);first|apply RetC.mk|refine nzO ?_|refine rgO ?_|refine ixO ?_|(first|apply brD|apply zad|apply brN|apply brI)<;>(intro))
  exact ⟨none,0,none,0,rfl,St.turns ((hS.addNil 350 5 zae).addNil 209 10 zac)⟩
 conv=>whnf
 refine hS.ld 0 rfl rfl ?_;(conv=>whnf);refine rgO ?_;(conv=>whnf);refine hS.st 0 rfl (lbO rfl) rfl (fun w' hS=>?_);replace hS:St w (inF (zaU A N B)) w' (zaU A { N with now:=N.now+1 } B):=hS;have hn3:=hS.ne 0 3 rfl rfl (by decide);(conv=>whnf)
 (refine zah tabOk mixed [] (fun b=>b=A.t) [0,1,2,3,4,5,6,7,8] (by kernel_rfl) ?_;rintro w1 rfl;replace hS:=hS.drew)
 repeat' ((conv=>whnf);first|refine hS.ldF 0 rfl rfl hn3 ?_)
 refine (znA (N.now+1) (hS.blk 3 rfl) hO.tab (by omega) ((hE.ext hS.ext hqF).sub rfl) (hqF A.t (zhJ zpF))).mono ?_;rintro v w' ⟨⟨a',c',rfl⟩,hx,hB1,_,_⟩;refine KeepC.mk hx ?_;have hB:=hB1;replace hS:=hS.upd 3 rfl hx (fun c hc=>by subst hc;exact List.mem_singleton.2 rfl) (zab _ _ _) hB (fun c hc=>.inl hc);(conv=>whnf);refine hS.ld 0 rfl rfl ?_;(conv=>whnf);refine (zqf (hS.blk 1 rfl) hO.role).mono ?_;rintro v w' ⟨rfl,hx,hB⟩;replace hS:=hS.upd 1 rfl hx (fun c hc=>by subst hc;exact List.mem_singleton.2 rfl) (zab _ _ _) hB (fun c hc=>.inl hc);replace hS:St w (inF (zaU A N B)) w' (zaU A N.step.2 B):=hS;have hO1:=hO.step (by omega) (by omega);clear hx hB hB1;cases hs:N.role.tick.1
 ·have hO2:=hO1
  rw [show N.tick B=(0,(N.step.2.notes false).1,(N.step.2.notes false).2,B) by
   unfold NodeS.tick;rw [if_neg hn,if_neg (by rw [show N.step.1=N.role.tick.1 from rfl,hs];decide)]]
  generalize N.step.2=N2 at hS hO2 ⊢;(conv=>whnf);refine hS.ld 0 rfl rfl ?_;(conv=>whnf);refine (zby (hS.blk 1 rfl)).mono ?_;rintro v w9 ⟨rfl,rfl⟩;replace hS:=hS.addNil 350 5 zae;cases hact:(N2).role.active
  ·have hbt:(N2).beat=false:=by
    unfold NodeS.beat;rw [hact];rfl
   repeat' ((conv=>whnf);first|apply RetC.mk|refine nzO ?_|refine rgO ?_|refine ixO ?_|(first|apply brD|apply zad|apply brN|apply brI)<;>(intro))
   rw [zbu hbt];exact ⟨none,0,none,0,rfl,St.turns (hS.addNil 209 10 zac)⟩
  ·skip
   (conv=>whnf);refine hS.ld 0 rfl rfl ?_;(conv=>whnf);refine nzO ?_;(conv=>whnf);refine brD (fun hz=>?_) (fun hz=>?_)
   ·have hbt:(N2).beat=true:=by
     unfold NodeS.beat;rw [hact,decide_eq_true hz];rfl
    conv=>whnf
    (refine zah tabOk mixed [] (No) [0,1,2,3,4,5,6,7,8,10,11,12,13,9,14,15,16,17,18] (by kernel_rfl) ?_;rintro w1 rfl;replace hS:=hS.drew)
    have hK:=hS.ref No;repeat' ((conv=>whnf);first|refine hS.ldF 0 rfl rfl id ?_)
    refine (zbY (hS.blk 2 rfl)).mono ?_;rintro v w' ⟨rfl,hx⟩;replace hS:=hS.no hx;replace hK:=hK.trans hx;refine KeepC.mk hK ?_;clear hx;(conv=>whnf);refine (zbq (hS.blk 1 rfl)).mono ?_;rintro v w2 ⟨rfl,rfl⟩;refine KeepC.mk hK ?_;(conv=>whnf);refine hS.litX Tryz.underlying160 (sz:=5) (by kernel_rfl) (z:=.agg (zae zcx).toArray) (by kernel_rfl) rfl rfl (cs:=zae ⟨(N2).id,(N2).cell.li,(N2).role.epoch,true,none,0,0⟩) (by rfl) (fun b9 w3 hb9 hx hS=>?_);replace hK:=hK.trans hx;refine KeepC.mk hK ?_;clear hx;(conv=>whnf);refine hS.appX zak 8 (ys:=[⟨(N2).id,(N2).cell.li,(N2).role.epoch,true,none,0,0⟩]) (G:=fun _=>True) Tryz.underlying160 (bytes:=56) (by kernel_rfl) (z:=.agg (zae zcx).toArray) (by kernel_rfl) rfl rfl (Slc.of_blk zak (hS.blk 9 rfl) rfl (by simp) (fun _ _=>trivial) rfl) (by unfold maxLen;decide) (by decide) (fun a1 c1 w4 hx hS=>?_);replace hK:=hK.trans (hx.mono fun q h=>by simp [Value.ownBlock] at h);refine KeepC.mk hK ?_;clear hx hK;replace hS:=hS.keep 9;replace hS:St w (inF (zaU A N B)) w4 (zaU A (N2) (B)++[zaf 350 5 zae (.slice a1 1 c1) [⟨(N2).id,(N2).cell.li,(N2).role.epoch,true,none,0,0⟩]]):=hS;(conv=>whnf);refine brD (fun _=>?_) (fun h=>absurd hz h);(conv=>whnf);have hn4:=hS.ne 0 4 rfl rfl (by decide);have hn8:¬ (Value.slice a1 1 c1).ownBlock=some A.n:=fun h=>hS.apartAt 0 8 rfl rfl (by decide) _ (List.mem_singleton.2 rfl) (by simp only [zaf,own];rw [h];simp)
    (refine zah tabOk mixed [] (fun b=>b=A.x∨(Value.slice a1 1 c1).ownBlock=some b) [0,1,2,3,4,5,6,7,8,10,11,12,13,15,16,17,18,9,14,19,20,21,22,23] (by kernel_rfl) ?_;rintro w1 rfl;replace hS:=hS.drew)
    have hK:=hS.ref (fun b=>b=A.x∨(Value.slice a1 1 c1).ownBlock=some b);repeat' ((conv=>whnf);first|refine hS.ldF 0 rfl rfl (fun h=>h.elim hn4 hn8) ?_)
    refine (zbY (hS.blk 2 rfl)).mono ?_;rintro v w' ⟨rfl,hx⟩;replace hS:=hS.no hx;replace hK:=hK.trans hx.of_no;refine KeepC.mk hK ?_;clear hx;(conv=>whnf);refine (zbq (hS.blk 1 rfl)).mono ?_;rintro v w2 ⟨rfl,rfl⟩;refine KeepC.mk hK ?_;(conv=>whnf);refine (zgZ (hS.blk 4 rfl) (hS.blk 3 rfl) hO2.tab.len hO2.told hO2.cur).mono ?_;rintro v w' ⟨⟨x,y,rfl⟩,hx,hB,ho,hf⟩;replace hS:=hS.updMade 4 rfl hx (fun c hc=>by subst hc;exact List.mem_singleton.2 rfl) (zab _ _ _) hB (fun c hc=>hc) zaj ho (fun g hg=>hf g (by simpa [zaf,own] using hg));replace hK:=hK.trans (hx.mono fun b h=>.inl h);refine KeepC.mk hK ?_;clear hx hB ho hf;(conv=>whnf);refine hS.litX Tryz.underlying160 (sz:=5) (by kernel_rfl) (z:=.agg (zae zcx).toArray) (by kernel_rfl) rfl rfl (cs:=zae ⟨(N2).id,(N2).cell.li,(N2).role.epoch,false,x,((N2).tel.picks (N2).tab.cells).length,y⟩) (by rfl) (fun b9 w3 hb9 hx hS=>?_);replace hK:=hK.trans hx.of_no;refine KeepC.mk hK ?_;clear hx;(conv=>whnf);refine hS.appX zak 8 (ys:=[⟨(N2).id,(N2).cell.li,(N2).role.epoch,false,x,((N2).tel.picks (N2).tab.cells).length,y⟩]) (G:=fun _=>True) Tryz.underlying160 (bytes:=56) (by kernel_rfl) (z:=.agg (zae zcx).toArray) (by kernel_rfl) rfl rfl (Slc.of_blk zak (hS.blk 10 rfl) rfl (by simp) (fun _ _=>trivial) rfl) (by unfold maxLen;show 1+1≤_;decide) (by show (1+1) * 56≤_;decide) (fun a2 c2 w4 hx hS=>?_);replace hK:=hK.trans (hx.mono fun q h=>.inr h);refine KeepC.mk hK ?_;clear hx hK;replace hS:=hS.keep 10;repeat' ((conv=>whnf);first|apply RetC.mk|refine nzO ?_|refine rgO ?_|refine ixO ?_|(first|apply brD|apply zad|apply brN|apply brI)<;>(intro))
    rw [zcz hbt]
    replace hS:St w (inF (zaU A N B)) w4 (zaU A { (N2) with tel:=(N2).tel.next (N2).tab.cells } (B)++zkE a2 c2 x y [⟨(N2).id,(N2).cell.li,(N2).role.epoch,true,[]⟩,⟨(N2).id,(N2).cell.li,(N2).role.epoch,false,zcj (N2).tab.cells ((N2).tel.picks (N2).tab.cells)⟩]):=by
     have hc:zaH [⟨(N2).id,(N2).cell.li,(N2).role.epoch,true,[]⟩,⟨(N2).id,(N2).cell.li,(N2).role.epoch,false,zcj (N2).tab.cells ((N2).tel.picks (N2).tab.cells)⟩]=zcj (N2).tab.cells ((N2).tel.picks (N2).tab.cells):=by simp [zaH]
     have hv:[(⟨(N2).id,(N2).cell.li,(N2).role.epoch,true,[]⟩:NoteS),⟨(N2).id,(N2).cell.li,(N2).role.epoch,false,zcj (N2).tab.cells ((N2).tel.picks (N2).tab.cells)⟩].map (za8 x y)=[⟨(N2).id,(N2).cell.li,(N2).role.epoch,true,none,0,0⟩,⟨(N2).id,(N2).cell.li,(N2).role.epoch,false,x,((N2).tel.picks (N2).tab.cells).length,y⟩]:=by simp [za8,zaF]
     unfold zkE;rw [hc,hv,zaF];exact hS
    exact ⟨a2,c2,x,y,rfl,St.turns hS⟩
   ·have hbt:(N2).beat=false:=by
     unfold NodeS.beat;rw [decide_eq_false hz,Bool.and_false]
    (conv=>whnf);refine brD (fun h=>absurd h hz) (fun _=>?_);repeat' ((conv=>whnf);first|apply RetC.mk|refine nzO ?_|refine rgO ?_|refine ixO ?_|(first|apply brD|apply zad|apply brN|apply brI)<;>(intro))
    rw [zbu hbt];exact ⟨none,0,none,0,rfl,St.turns (hS.addNil 209 10 zac)⟩
 ·have hs1:N.step.1=true:=hs;(conv=>whnf);refine (zo9 hS.has hO1 hBB (zdr hs1) (by omega) (hE.ext hS.ext hqF) (hS.high hqF hqw)).mono ?_;rintro v w' ⟨rfl,ht⟩;replace hS:=hS.turned ht;have hO2:=hO1.claim (zdr hs1) B
  rw [show N.tick B=if (N.step.2.claim B).1.2≠0 then ((N.step.2.claim B).1.2,[],(N.step.2.claim B).2.1,(N.step.2.claim B).2.2) else (0,((N.step.2.claim B).2.1.notes (N.step.2.claim B).1.1).1,((N.step.2.claim B).2.1.notes (N.step.2.claim B).1.1).2,(N.step.2.claim B).2.2) by
   unfold NodeS.tick;rw [if_neg hn,if_pos hs1]]
  generalize N.step.2.claim B=R at hS hO2 ⊢;obtain ⟨⟨cl,e⟩,N2,B2⟩:=R;replace hS:St w (inF (zaU A N B)) w' (zaU A N2 B2):=hS;replace hO2:NOk (m+1+33) N2:=hO2;cases e with
  | succ j =>
   rw [if_pos (show ((cl,j+1),N2,B2).1.2≠0 by simp)];repeat' ((conv=>whnf);first|apply RetC.mk|refine nzO ?_|refine rgO ?_|refine ixO ?_|(first|apply brD|apply zad|apply brN|apply brI)<;>(intro))
   exact ⟨none,0,none,0,rfl,St.turns ((hS.addNil 350 5 zae).addNil 209 10 zac)⟩
  | zero =>
   rw [if_neg (show ¬ ((cl,0),N2,B2).1.2≠0 by simp)];dsimp only;cases cl
   ·skip
    (conv=>whnf);refine hS.ld 0 rfl rfl ?_;(conv=>whnf);refine (zby (hS.blk 1 rfl)).mono ?_;rintro v w9 ⟨rfl,rfl⟩;replace hS:=hS.addNil 350 5 zae;cases hact:(N2).role.active
    ·have hbt:(N2).beat=false:=by
      unfold NodeS.beat;rw [hact];rfl
     repeat' ((conv=>whnf);first|apply RetC.mk|refine nzO ?_|refine rgO ?_|refine ixO ?_|(first|apply brD|apply zad|apply brN|apply brI)<;>(intro))
     rw [zbu hbt];exact ⟨none,0,none,0,rfl,St.turns (hS.addNil 209 10 zac)⟩
    ·skip
     (conv=>whnf);refine hS.ld 0 rfl rfl ?_;(conv=>whnf);refine nzO ?_;(conv=>whnf);refine brD (fun hz=>?_) (fun hz=>?_)
     ·have hbt:(N2).beat=true:=by
       unfold NodeS.beat;rw [hact,decide_eq_true hz];rfl
      conv=>whnf
      (refine zah tabOk mixed [] (No) [0,1,2,3,4,5,6,7,8,10,11,12,13,9,14,15,16,17,18] (by kernel_rfl) ?_;rintro w1 rfl;replace hS:=hS.drew)
      have hK:=hS.ref No;repeat' ((conv=>whnf);first|refine hS.ldF 0 rfl rfl id ?_)
      refine (zbY (hS.blk 2 rfl)).mono ?_;rintro v w' ⟨rfl,hx⟩;replace hS:=hS.no hx;replace hK:=hK.trans hx;refine KeepC.mk hK ?_;clear hx;(conv=>whnf);refine (zbq (hS.blk 1 rfl)).mono ?_;rintro v w2 ⟨rfl,rfl⟩;refine KeepC.mk hK ?_;(conv=>whnf);refine hS.litX Tryz.underlying160 (sz:=5) (by kernel_rfl) (z:=.agg (zae zcx).toArray) (by kernel_rfl) rfl rfl (cs:=zae ⟨(N2).id,(N2).cell.li,(N2).role.epoch,true,none,0,0⟩) (by rfl) (fun b9 w3 hb9 hx hS=>?_);replace hK:=hK.trans hx;refine KeepC.mk hK ?_;clear hx;(conv=>whnf);refine hS.appX zak 8 (ys:=[⟨(N2).id,(N2).cell.li,(N2).role.epoch,true,none,0,0⟩]) (G:=fun _=>True) Tryz.underlying160 (bytes:=56) (by kernel_rfl) (z:=.agg (zae zcx).toArray) (by kernel_rfl) rfl rfl (Slc.of_blk zak (hS.blk 9 rfl) rfl (by simp) (fun _ _=>trivial) rfl) (by unfold maxLen;decide) (by decide) (fun a1 c1 w4 hx hS=>?_);replace hK:=hK.trans (hx.mono fun q h=>by simp [Value.ownBlock] at h);refine KeepC.mk hK ?_;clear hx hK;replace hS:=hS.keep 9;replace hS:St w (inF (zaU A N B)) w4 (zaU A (N2) (B2)++[zaf 350 5 zae (.slice a1 1 c1) [⟨(N2).id,(N2).cell.li,(N2).role.epoch,true,none,0,0⟩]]):=hS;(conv=>whnf);refine brD (fun _=>?_) (fun h=>absurd hz h);(conv=>whnf);have hn4:=hS.ne 0 4 rfl rfl (by decide);have hn8:¬ (Value.slice a1 1 c1).ownBlock=some A.n:=fun h=>hS.apartAt 0 8 rfl rfl (by decide) _ (List.mem_singleton.2 rfl) (by simp only [zaf,own];rw [h];simp)
      (refine zah tabOk mixed [] (fun b=>b=A.x∨(Value.slice a1 1 c1).ownBlock=some b) [0,1,2,3,4,5,6,7,8,10,11,12,13,15,16,17,18,9,14,19,20,21,22,23] (by kernel_rfl) ?_;rintro w1 rfl;replace hS:=hS.drew)
      have hK:=hS.ref (fun b=>b=A.x∨(Value.slice a1 1 c1).ownBlock=some b);repeat' ((conv=>whnf);first|refine hS.ldF 0 rfl rfl (fun h=>h.elim hn4 hn8) ?_)
      refine (zbY (hS.blk 2 rfl)).mono ?_;rintro v w' ⟨rfl,hx⟩;replace hS:=hS.no hx;replace hK:=hK.trans hx.of_no;refine KeepC.mk hK ?_;clear hx;(conv=>whnf);refine (zbq (hS.blk 1 rfl)).mono ?_;rintro v w2 ⟨rfl,rfl⟩;refine KeepC.mk hK ?_;(conv=>whnf);refine (zgZ (hS.blk 4 rfl) (hS.blk 3 rfl) hO2.tab.len hO2.told hO2.cur).mono ?_;rintro v w' ⟨⟨x,y,rfl⟩,hx,hB,ho,hf⟩;replace hS:=hS.updMade 4 rfl hx (fun c hc=>by subst hc;exact List.mem_singleton.2 rfl) (zab _ _ _) hB (fun c hc=>hc) zaj ho (fun g hg=>hf g (by simpa [zaf,own] using hg));replace hK:=hK.trans (hx.mono fun b h=>.inl h);refine KeepC.mk hK ?_;clear hx hB ho hf;(conv=>whnf);refine hS.litX Tryz.underlying160 (sz:=5) (by kernel_rfl) (z:=.agg (zae zcx).toArray) (by kernel_rfl) rfl rfl (cs:=zae ⟨(N2).id,(N2).cell.li,(N2).role.epoch,false,x,((N2).tel.picks (N2).tab.cells).length,y⟩) (by rfl) (fun b9 w3 hb9 hx hS=>?_);replace hK:=hK.trans hx.of_no;refine KeepC.mk hK ?_;clear hx;(conv=>whnf);refine hS.appX zak 8 (ys:=[⟨(N2).id,(N2).cell.li,(N2).role.epoch,false,x,((N2).tel.picks (N2).tab.cells).length,y⟩]) (G:=fun _=>True) Tryz.underlying160 (bytes:=56) (by kernel_rfl) (z:=.agg (zae zcx).toArray) (by kernel_rfl) rfl rfl (Slc.of_blk zak (hS.blk 10 rfl) rfl (by simp) (fun _ _=>trivial) rfl) (by unfold maxLen;show 1+1≤_;decide) (by show (1+1) * 56≤_;decide) (fun a2 c2 w4 hx hS=>?_);replace hK:=hK.trans (hx.mono fun q h=>.inr h);refine KeepC.mk hK ?_;clear hx hK;replace hS:=hS.keep 10;repeat' ((conv=>whnf);first|apply RetC.mk|refine nzO ?_|refine rgO ?_|refine ixO ?_|(first|apply brD|apply zad|apply brN|apply brI)<;>(intro))
      rw [zcz hbt]
      replace hS:St w (inF (zaU A N B)) w4 (zaU A { (N2) with tel:=(N2).tel.next (N2).tab.cells } (B2)++zkE a2 c2 x y [⟨(N2).id,(N2).cell.li,(N2).role.epoch,true,[]⟩,⟨(N2).id,(N2).cell.li,(N2).role.epoch,false,zcj (N2).tab.cells ((N2).tel.picks (N2).tab.cells)⟩]):=by
       have hc:zaH [⟨(N2).id,(N2).cell.li,(N2).role.epoch,true,[]⟩,⟨(N2).id,(N2).cell.li,(N2).role.epoch,false,zcj (N2).tab.cells ((N2).tel.picks (N2).tab.cells)⟩]=zcj (N2).tab.cells ((N2).tel.picks (N2).tab.cells):=by simp [zaH]
       have hv:[(⟨(N2).id,(N2).cell.li,(N2).role.epoch,true,[]⟩:NoteS),⟨(N2).id,(N2).cell.li,(N2).role.epoch,false,zcj (N2).tab.cells ((N2).tel.picks (N2).tab.cells)⟩].map (za8 x y)=[⟨(N2).id,(N2).cell.li,(N2).role.epoch,true,none,0,0⟩,⟨(N2).id,(N2).cell.li,(N2).role.epoch,false,x,((N2).tel.picks (N2).tab.cells).length,y⟩]:=by simp [za8,zaF]
       unfold zkE;rw [hc,hv,zaF];exact hS
      exact ⟨a2,c2,x,y,rfl,St.turns hS⟩
     ·have hbt:(N2).beat=false:=by
       unfold NodeS.beat;rw [decide_eq_false hz,Bool.and_false]
      (conv=>whnf);refine brD (fun h=>absurd h hz) (fun _=>?_);repeat' ((conv=>whnf);first|apply RetC.mk|refine nzO ?_|refine rgO ?_|refine ixO ?_|(first|apply brD|apply zad|apply brN|apply brI)<;>(intro))
      rw [zbu hbt];exact ⟨none,0,none,0,rfl,St.turns (hS.addNil 209 10 zac)⟩
   ·skip
    (conv=>whnf);refine hS.ld 0 rfl rfl ?_;(conv=>whnf);refine (zby (hS.blk 1 rfl)).mono ?_;rintro v w9 ⟨rfl,rfl⟩;replace hS:=hS.addNil 350 5 zae;cases hact:(N2).role.active
    ·have hbt:(N2).beat=false:=by
      unfold NodeS.beat;rw [hact];rfl
     conv=>whnf
     (refine zah tabOk mixed [] (No) [0,1,2,3,4,5,6,7,8,10,11,12,13,9,14,15,16,17,18] (by kernel_rfl) ?_;rintro w1 rfl;replace hS:=hS.drew)
     have hK:=hS.ref No;repeat' ((conv=>whnf);first|refine hS.ldF 0 rfl rfl id ?_)
     refine (zbY (hS.blk 2 rfl)).mono ?_;rintro v w' ⟨rfl,hx⟩;replace hS:=hS.no hx;replace hK:=hK.trans hx;refine KeepC.mk hK ?_;clear hx;(conv=>whnf);refine (zbq (hS.blk 1 rfl)).mono ?_;rintro v w2 ⟨rfl,rfl⟩;refine KeepC.mk hK ?_;(conv=>whnf);refine hS.litX Tryz.underlying160 (sz:=5) (by kernel_rfl) (z:=.agg (zae zcx).toArray) (by kernel_rfl) rfl rfl (cs:=zae ⟨(N2).id,(N2).cell.li,(N2).role.epoch,true,none,0,0⟩) (by rfl) (fun b9 w3 hb9 hx hS=>?_);replace hK:=hK.trans hx;refine KeepC.mk hK ?_;clear hx;(conv=>whnf);refine hS.appX zak 8 (ys:=[⟨(N2).id,(N2).cell.li,(N2).role.epoch,true,none,0,0⟩]) (G:=fun _=>True) Tryz.underlying160 (bytes:=56) (by kernel_rfl) (z:=.agg (zae zcx).toArray) (by kernel_rfl) rfl rfl (Slc.of_blk zak (hS.blk 9 rfl) rfl (by simp) (fun _ _=>trivial) rfl) (by unfold maxLen;decide) (by decide) (fun a1 c1 w4 hx hS=>?_);replace hK:=hK.trans (hx.mono fun q h=>by simp [Value.ownBlock] at h);refine KeepC.mk hK ?_;clear hx hK;replace hS:=hS.keep 9;repeat' ((conv=>whnf);first|apply RetC.mk|refine nzO ?_|refine rgO ?_|refine ixO ?_|(first|apply brD|apply zad|apply brN|apply brI)<;>(intro))
     rw [zck hbt];exact ⟨a1,c1,none,0,rfl,St.turns (hS.addNil 209 10 zac)⟩
    ·skip
     (conv=>whnf);refine hS.ld 0 rfl rfl ?_;(conv=>whnf);refine nzO ?_;by_cases hz:(N2).now.tmod 3=0
     ·have hbt:(N2).beat=true:=by
       unfold NodeS.beat;rw [hact,decide_eq_true hz];rfl
      conv=>whnf
      (refine zah tabOk mixed [] (No) [0,1,2,3,4,5,6,7,8,10,11,12,13,9,14,15,16,17,18] (by kernel_rfl) ?_;rintro w1 rfl;replace hS:=hS.drew)
      have hK:=hS.ref No;repeat' ((conv=>whnf);first|refine hS.ldF 0 rfl rfl id ?_)
      refine (zbY (hS.blk 2 rfl)).mono ?_;rintro v w' ⟨rfl,hx⟩;replace hS:=hS.no hx;replace hK:=hK.trans hx;refine KeepC.mk hK ?_;clear hx;(conv=>whnf);refine (zbq (hS.blk 1 rfl)).mono ?_;rintro v w2 ⟨rfl,rfl⟩;refine KeepC.mk hK ?_;(conv=>whnf);refine hS.litX Tryz.underlying160 (sz:=5) (by kernel_rfl) (z:=.agg (zae zcx).toArray) (by kernel_rfl) rfl rfl (cs:=zae ⟨(N2).id,(N2).cell.li,(N2).role.epoch,true,none,0,0⟩) (by rfl) (fun b9 w3 hb9 hx hS=>?_);replace hK:=hK.trans hx;refine KeepC.mk hK ?_;clear hx;(conv=>whnf);refine hS.appX zak 8 (ys:=[⟨(N2).id,(N2).cell.li,(N2).role.epoch,true,none,0,0⟩]) (G:=fun _=>True) Tryz.underlying160 (bytes:=56) (by kernel_rfl) (z:=.agg (zae zcx).toArray) (by kernel_rfl) rfl rfl (Slc.of_blk zak (hS.blk 9 rfl) rfl (by simp) (fun _ _=>trivial) rfl) (by unfold maxLen;decide) (by decide) (fun a1 c1 w4 hx hS=>?_);replace hK:=hK.trans (hx.mono fun q h=>by simp [Value.ownBlock] at h);refine KeepC.mk hK ?_;clear hx hK;replace hS:=hS.keep 9;replace hS:St w (inF (zaU A N B)) w4 (zaU A (N2) (B2)++[zaf 350 5 zae (.slice a1 1 c1) [⟨(N2).id,(N2).cell.li,(N2).role.epoch,true,none,0,0⟩]]):=hS;(conv=>whnf);refine brD (fun _=>?_) (fun h=>absurd hz h);(conv=>whnf);have hn4:=hS.ne 0 4 rfl rfl (by decide);have hn8:¬ (Value.slice a1 1 c1).ownBlock=some A.n:=fun h=>hS.apartAt 0 8 rfl rfl (by decide) _ (List.mem_singleton.2 rfl) (by simp only [zaf,own];rw [h];simp)
      (refine zah tabOk mixed [] (fun b=>b=A.x∨(Value.slice a1 1 c1).ownBlock=some b) [0,1,2,3,4,5,6,7,8,10,11,12,13,15,16,17,18,9,14,19,20,21,22,23] (by kernel_rfl) ?_;rintro w1 rfl;replace hS:=hS.drew)
      have hK:=hS.ref (fun b=>b=A.x∨(Value.slice a1 1 c1).ownBlock=some b);repeat' ((conv=>whnf);first|refine hS.ldF 0 rfl rfl (fun h=>h.elim hn4 hn8) ?_)
      refine (zbY (hS.blk 2 rfl)).mono ?_;rintro v w' ⟨rfl,hx⟩;replace hS:=hS.no hx;replace hK:=hK.trans hx.of_no;refine KeepC.mk hK ?_;clear hx;(conv=>whnf);refine (zbq (hS.blk 1 rfl)).mono ?_;rintro v w2 ⟨rfl,rfl⟩;refine KeepC.mk hK ?_;(conv=>whnf);refine (zgZ (hS.blk 4 rfl) (hS.blk 3 rfl) hO2.tab.len hO2.told hO2.cur).mono ?_;rintro v w' ⟨⟨x,y,rfl⟩,hx,hB,ho,hf⟩;replace hS:=hS.updMade 4 rfl hx (fun c hc=>by subst hc;exact List.mem_singleton.2 rfl) (zab _ _ _) hB (fun c hc=>hc) zaj ho (fun g hg=>hf g (by simpa [zaf,own] using hg));replace hK:=hK.trans (hx.mono fun b h=>.inl h);refine KeepC.mk hK ?_;clear hx hB ho hf;(conv=>whnf);refine hS.litX Tryz.underlying160 (sz:=5) (by kernel_rfl) (z:=.agg (zae zcx).toArray) (by kernel_rfl) rfl rfl (cs:=zae ⟨(N2).id,(N2).cell.li,(N2).role.epoch,false,x,((N2).tel.picks (N2).tab.cells).length,y⟩) (by rfl) (fun b9 w3 hb9 hx hS=>?_);replace hK:=hK.trans hx.of_no;refine KeepC.mk hK ?_;clear hx;(conv=>whnf);refine hS.appX zak 8 (ys:=[⟨(N2).id,(N2).cell.li,(N2).role.epoch,false,x,((N2).tel.picks (N2).tab.cells).length,y⟩]) (G:=fun _=>True) Tryz.underlying160 (bytes:=56) (by kernel_rfl) (z:=.agg (zae zcx).toArray) (by kernel_rfl) rfl rfl (Slc.of_blk zak (hS.blk 10 rfl) rfl (by simp) (fun _ _=>trivial) rfl) (by unfold maxLen;show 1+1≤_;decide) (by show (1+1) * 56≤_;decide) (fun a2 c2 w4 hx hS=>?_);replace hK:=hK.trans (hx.mono fun q h=>.inr h);refine KeepC.mk hK ?_;clear hx hK;replace hS:=hS.keep 10;repeat' ((conv=>whnf);first|apply RetC.mk|refine nzO ?_|refine rgO ?_|refine ixO ?_|(first|apply brD|apply zad|apply brN|apply brI)<;>(intro))
      rw [zcz hbt]
      replace hS:St w (inF (zaU A N B)) w4 (zaU A { (N2) with tel:=(N2).tel.next (N2).tab.cells } (B2)++zkE a2 c2 x y [⟨(N2).id,(N2).cell.li,(N2).role.epoch,true,[]⟩,⟨(N2).id,(N2).cell.li,(N2).role.epoch,false,zcj (N2).tab.cells ((N2).tel.picks (N2).tab.cells)⟩]):=by
       have hc:zaH [⟨(N2).id,(N2).cell.li,(N2).role.epoch,true,[]⟩,⟨(N2).id,(N2).cell.li,(N2).role.epoch,false,zcj (N2).tab.cells ((N2).tel.picks (N2).tab.cells)⟩]=zcj (N2).tab.cells ((N2).tel.picks (N2).tab.cells):=by simp [zaH]
       have hv:[(⟨(N2).id,(N2).cell.li,(N2).role.epoch,true,[]⟩:NoteS),⟨(N2).id,(N2).cell.li,(N2).role.epoch,false,zcj (N2).tab.cells ((N2).tel.picks (N2).tab.cells)⟩].map (za8 x y)=[⟨(N2).id,(N2).cell.li,(N2).role.epoch,true,none,0,0⟩,⟨(N2).id,(N2).cell.li,(N2).role.epoch,false,x,((N2).tel.picks (N2).tab.cells).length,y⟩]:=by simp [za8,zaF]
       unfold zkE;rw [hc,hv,zaF];exact hS
      exact ⟨a2,c2,x,y,rfl,St.turns hS⟩
     ·have hbt:(N2).beat=false:=by
       unfold NodeS.beat;rw [decide_eq_false hz,Bool.and_false]
      conv=>whnf
      (refine zah tabOk mixed [] (No) [0,1,2,3,4,5,6,7,8,10,11,12,13,9,14,15,16,17,18] (by kernel_rfl) ?_;rintro w1 rfl;replace hS:=hS.drew)
      have hK:=hS.ref No;repeat' ((conv=>whnf);first|refine hS.ldF 0 rfl rfl id ?_)
      refine (zbY (hS.blk 2 rfl)).mono ?_;rintro v w' ⟨rfl,hx⟩;replace hS:=hS.no hx;replace hK:=hK.trans hx;refine KeepC.mk hK ?_;clear hx;(conv=>whnf);refine (zbq (hS.blk 1 rfl)).mono ?_;rintro v w2 ⟨rfl,rfl⟩;refine KeepC.mk hK ?_;(conv=>whnf);refine hS.litX Tryz.underlying160 (sz:=5) (by kernel_rfl) (z:=.agg (zae zcx).toArray) (by kernel_rfl) rfl rfl (cs:=zae ⟨(N2).id,(N2).cell.li,(N2).role.epoch,true,none,0,0⟩) (by rfl) (fun b9 w3 hb9 hx hS=>?_);replace hK:=hK.trans hx;refine KeepC.mk hK ?_;clear hx;(conv=>whnf);refine hS.appX zak 8 (ys:=[⟨(N2).id,(N2).cell.li,(N2).role.epoch,true,none,0,0⟩]) (G:=fun _=>True) Tryz.underlying160 (bytes:=56) (by kernel_rfl) (z:=.agg (zae zcx).toArray) (by kernel_rfl) rfl rfl (Slc.of_blk zak (hS.blk 9 rfl) rfl (by simp) (fun _ _=>trivial) rfl) (by unfold maxLen;decide) (by decide) (fun a1 c1 w4 hx hS=>?_);replace hK:=hK.trans (hx.mono fun q h=>by simp [Value.ownBlock] at h);refine KeepC.mk hK ?_;clear hx hK;replace hS:=hS.keep 9;(conv=>whnf);refine brD (fun h=>absurd h hz) (fun _=>?_);repeat' ((conv=>whnf);first|apply RetC.mk|refine nzO ?_|refine rgO ?_|refine ixO ?_|(first|apply brD|apply zad|apply brN|apply brI)<;>(intro))
      rw [zck hbt];exact ⟨a1,c1,none,0,rfl,St.turns (hS.addNil 209 10 zac)⟩
end
theorem Ev.Slc.extN {α:Type}{w w':World}{S:Nat→Prop}{sz n:Nat}{enc:α→List Value}{G:α→Prop}{a:Option Addr}{xs:List α}(h:Slc w sz enc G a n xs) (hx:Ext S w w') (hS:0 < n→∀ b o,a=some ⟨b,o,none⟩→¬ S b):Slc w' sz enc G a n xs:=by
 rcases Nat.eq_zero_or_pos n with h0|h0
 ·subst h0;obtain rfl:xs=[]:=List.length_eq_zero_iff.1 h.len;exact ⟨h.len,h.max,fun k x hk=>by simp at hk,h.good⟩
 ·exact h.ext hx (hS h0)
section
variable {w : World} {A : NodeA} {N : NodeS} {B : BytS}
theorem zjI {G:RuleS→Prop}{a:Option Addr}{n c:Nat}{xs:List RuleS}(hx:Slc w 5 zal G a n xs) (hn:n≤1000) :
  CallC Tryz.prog 72 #[.slice a n c] w fun v w'=>∃ a' c',v = .slice a' n c'∧Ext No w w'∧(zaf 98 5 zal v xs).holds w'∧zc0 w w' v:=by
 have hl:=hx.len;refine zaa tabOk Tryz.func72 (by kernel_rfl) rfl Tryz.ntmps72 (lbO rfl) ?_;have hS:=St.start w No;cases a with
 | none =>
  have hn0:n=0:=by
   rcases Nat.eq_zero_or_pos n with h|h
   ·exact h
   ·obtain ⟨_,_,_,_,_,h,_⟩:=hx.at h;cases h
  subst hn0;obtain rfl:xs=[]:=List.length_eq_zero_iff.1 hl;repeat' ((conv=>whnf);first|apply RetC.mk|refine rgO ?_|refine ixO ?_|(first|apply brD|apply zad|apply brN|apply brI)<;>(intro))
  have hS:=hS.addNil 98 5 zal;exact ⟨none,0,rfl,hS.ext,hS.get 0 rfl,hS.freshAt 0 rfl⟩
 | some a0 =>
  (conv=>whnf);refine hS.lit0 Tryz.underlying28 (sz:=5) (by kernel_rfl) (fun b0 w1 hS=>?_);(conv=>whnf);refine hS.appS zeQ 0 (xs:=[]) Tryz.underlying28 (bytes:=32) (by kernel_rfl) (z:=.agg (zal zb8).toArray) (by kernel_rfl) rfl rfl (hx.no hS.ext) (by unfold maxLen;simp;omega) (by simp;omega) (fun a' c' w' hS=>?_);repeat' ((conv=>whnf);first|apply RetC.mk|refine rgO ?_|refine ixO ?_|(first|apply brD|apply zad|apply brN|apply brI)<;>(intro))
  have hn0:([]:List RuleS).length+n=n:=by simp
  rw [hn0] at hS ⊢;exact ⟨a',c',rfl,hS.ext,hS.get 0 rfl,hS.freshAt 0 rfl⟩
theorem zrh {E:Nat→Addr}{q m:Nat}{G:CellS→Prop}(x:NoteV) (cs:List CellS) (hx:Slc w 10 zac G x.a x.n cs) (hsrc:0 < x.n→∀ b0 o0,x.a=some ⟨b0,o0,none⟩→¬ inF (zaC A N) b0) (hN:Has w (zaC A N)) (hO:NOk m N) (hE:Errs w E q zgA) (hq:High (zaC A N) q) :
  CallC Tryz.prog 235 #[.pointer (some ⟨A.n,0,none⟩),.agg (zae x).toArray] w fun v w'=>v=zc9 E (N.hear ⟨x.fro,x.life,x.epoch,x.claim,cs⟩).1∧Turns w w' (zaC A N) (zaC A (N.hear ⟨x.fro,x.life,x.epoch,x.claim,cs⟩).2):=by
 have hqF:∀ b,inF (zaC A N) b→q≤b:=hq;have hid:=hO.id;refine zaa tabOk Tryz.func235 (by kernel_rfl) rfl Tryz.ntmps235 (lbO rfl) ?_;have hS:=hN.start;(conv=>whnf);refine hS.new (fun bx w' hbx hS=>?_);replace hS:St w (inF (zaC A N)) w' (zaC A N++[blk bx 350 (zae x)]):=hS;(conv=>whnf)
 (refine zah tabOk mixed [] No [0,1,2,3,4,5,6,7,8,9,10,11,12,13,14,15,16,17,18] (by kernel_rfl) ?_;rintro w1 rfl;replace hS:=hS.drew)
 repeat' ((conv=>whnf);first|refine hS.ldF 7 rfl rfl id ?_|refine hS.ldF 0 rfl rfl id ?_|refine rgO ?_)
 have bound:∀ {σ':Prop},σ'→σ':=fun h=>h
 generalize hxs:(⟨x.fro,x.life,x.epoch,x.claim,cs⟩:NoteS)=xs
 have hcond:(x.fro≠1 - N.id∨x.epoch < 0∨x.epoch > 1073741824)→N.hear xs=(2,N):=fun h=>by
  subst hxs;exact if_pos h
 conv=>whnf
 refine zad (fun h1=>?_) (fun h1=>?_)
 ·rw [hcond (.inl h1)];repeat' ((conv=>whnf);first|apply RetC.mk|refine rgO ?_|refine ixO ?_|refine hS.ldr (hE.at_ 2 rfl) (Errs.out hE 2 rfl hqF) ?_|(first|apply brD|apply zad|apply brN|apply brI)<;>(intro))
  exact ⟨rfl,(hS.keep 7).turns⟩
 conv=>whnf
 refine hS.ldF 7 rfl rfl id ?_;(conv=>whnf);refine brD (fun h2=>?_) (fun h2=>?_)
 ·rw [hcond (.inr (.inl h2))];repeat' ((conv=>whnf);first|apply RetC.mk|refine rgO ?_|refine ixO ?_|refine hS.ldr (hE.at_ 2 rfl) (Errs.out hE 2 rfl hqF) ?_|(first|apply brD|apply zad|apply brN|apply brI)<;>(intro))
  exact ⟨rfl,(hS.keep 7).turns⟩
 conv=>whnf
 refine hS.ldF 7 rfl rfl id ?_;(conv=>whnf);refine brD (fun h3=>?_) (fun h3=>?_)
 ·rw [hcond (.inr (.inr h3))];repeat' ((conv=>whnf);first|apply RetC.mk|refine rgO ?_|refine ixO ?_|refine hS.ldr (hE.at_ 2 rfl) (Errs.out hE 2 rfl hqF) ?_|(first|apply brD|apply zad|apply brN|apply brI)<;>(intro))
  exact ⟨rfl,(hS.keep 7).turns⟩
 conv=>whnf
 refine hS.ld 7 rfl rfl ?_;cases hcl:x.claim
 case true =>
  rw [show N.hear xs=(3,N) by subst hxs;unfold NodeS.hear;rw [if_neg (by dsimp only;omega),if_pos hcl]];repeat' ((conv=>whnf);first|apply RetC.mk|refine rgO ?_|refine ixO ?_|refine hS.ldr (hE.at_ 3 rfl) (Errs.out hE 3 rfl hqF) ?_|(first|apply brD|apply zad|apply brN|apply brI)<;>(intro))
  exact ⟨rfl,(hS.keep 7).turns⟩
 have hh:N.hear xs=if (N.mir.tell x.life cs).1≠0 then ((N.mir.tell x.life cs).1,{ N with mir:=(N.mir.tell x.life cs).2 }) else (0,{ N with mir:=(N.mir.tell x.life cs).2,role:=(N.role.hear x.epoch).2 }):=by
  subst hxs;unfold NodeS.hear;rw [if_neg (by dsimp only;omega),if_neg (by show ¬ x.claim=true;rw [hcl];decide)]
 have hn5:=hS.ne 0 5 rfl rfl (by decide);have hn7:=hS.ne 7 5 rfl rfl (by decide);(conv=>whnf)
 (refine zah tabOk mixed [] (fun b=>b=A.m) [0,1,2,3,4,5,6,7,8,9] (by kernel_rfl) ?_;rintro w1 rfl;replace hS:=hS.drew)
 repeat' ((conv=>whnf);first|refine hS.ldF 0 rfl rfl hn5 ?_|refine hS.ldF 7 rfl rfl hn7 ?_)
 refine (ztH x.life (hS.blk 5 rfl) hO.mir ((hE.ext hS.ext hqF).sub rfl) (hqF A.m zo3) (hx.extN hS.ext hsrc) (fun h b0 o0 ha hb=>hsrc h b0 o0 ha (hb ▸ zo3))).mono ?_;rintro v w' ⟨rfl,hx',hB⟩;refine KeepC.mk hx' ?_;replace hS:=hS.upd 5 rfl hx' (fun c hc=>by subst hc;exact List.mem_singleton.2 rfl) (zab _ _ _) hB (fun c hc=>.inl hc);rw [hh];clear hh hcond bound hxs;generalize N.mir.tell x.life cs=R at hS ⊢;obtain ⟨k,M⟩:=R;cases k with
 | succ j =>
  rw [if_pos (show ((j+1,M):Nat × MirS).1≠0 by simp)];repeat' ((conv=>whnf);first|apply RetC.mk|refine rgO ?_|refine ixO ?_|(first|apply brD|apply zad|apply brN|apply brI)<;>(intro))
  exact ⟨rfl,(hS.keep 7).turns⟩
 | zero =>
  rw [if_neg (show ¬ ((0,M):Nat × MirS).1≠0 by simp)];replace hS:St w (inF (zaC A N)) w' (zaC A { N with mir:=M }++[blk bx 350 (zae x)]):=hS;have hn1:=hS.ne 0 1 rfl rfl (by decide);have hn8:=hS.ne 7 1 rfl rfl (by decide);(conv=>whnf)
  (refine zah tabOk mixed [] (fun b=>b=A.r) [0,1,2,3,4,5,6] (by kernel_rfl) ?_;rintro w1 rfl;replace hS:=hS.drew)
  repeat' ((conv=>whnf);first|refine hS.ldF 0 rfl rfl hn1 ?_|refine hS.ldF 7 rfl rfl hn8 ?_)
  refine (zqj x.epoch (hS.blk 1 rfl)).mono ?_;rintro v w' ⟨rfl,hx',hB⟩;refine KeepC.mk hx' ?_;replace hS:=hS.upd 1 rfl hx' (fun c hc=>by subst hc;exact List.mem_singleton.2 rfl) (zab _ _ _) hB (fun c hc=>.inl hc);repeat' ((conv=>whnf);first|apply RetC.mk|refine rgO ?_|refine ixO ?_|(first|apply brD|apply zad|apply brN|apply brI)<;>(intro))
  exact ⟨rfl,(hS.keep 7).turns⟩
theorem zrc (hN:Has w (zaC A N)):CallC Tryz.prog 169 #[.pointer (some ⟨A.n,0,none⟩)] w fun v w'=>v = .int .i64 (N.cell.li:Int)∧Ext No w w':=by
 refine zaa tabOk Tryz.func169 (by kernel_rfl) rfl Tryz.ntmps169 (lbO rfl) ?_;have hS:=hN.start;(conv=>whnf);refine hS.ld 0 rfl rfl ?_;(conv=>whnf);refine (zbY (hS.blk 2 rfl)).mono ?_;rintro v w' ⟨rfl,hx⟩;repeat' ((conv=>whnf);first|apply RetC.mk|refine rgO ?_|refine ixO ?_|(first|apply brD|apply zad|apply brN|apply brI)<;>(intro))
 exact ⟨rfl,hx⟩
theorem zpu (hN:Has w (zaC A N)) (hl:N.tab.cells.length=32):CallC Tryz.prog 163 #[.pointer (some ⟨A.n,0,none⟩)] w fun v w'=>∃ a' c',v = .slice a' 32 c'∧Ext No w w'∧(zaf 209 10 zac v N.tab.cells).holds w'∧zc0 w w' v:=by
 refine zaa tabOk Tryz.func163 (by kernel_rfl) rfl Tryz.ntmps163 (lbO rfl) ?_;have hS:=hN.start;(conv=>whnf);refine hS.ld 0 rfl rfl ?_;(conv=>whnf);refine (zkT (hS.blk 3 rfl) hl).mono ?_;rintro v w' ⟨a,c,rfl,hx,ho,hf⟩;repeat' ((conv=>whnf);first|apply RetC.mk|refine rgO ?_|refine ixO ?_|(first|apply brD|apply zad|apply brN|apply brI)<;>(intro))
 exact ⟨a,c,rfl,hx,ho,hf⟩
theorem znW (hN:Has w (zaC A N)) (hl:N.mir.cells.length=32):CallC Tryz.prog 165 #[.pointer (some ⟨A.n,0,none⟩)] w fun v w'=>∃ a' c',v = .slice a' 32 c'∧Ext No w w'∧(zaf 209 10 zac v N.mir.cells).holds w'∧zc0 w w' v:=by
 refine zaa tabOk Tryz.func165 (by kernel_rfl) rfl Tryz.ntmps165 (lbO rfl) ?_;have hS:=hN.start;(conv=>whnf);refine hS.ld 0 rfl rfl ?_;(conv=>whnf);refine (zqH (hS.blk 5 rfl) hl).mono ?_;rintro v w' ⟨a,c,rfl,hx,ho,hf⟩;repeat' ((conv=>whnf);first|apply RetC.mk|refine rgO ?_|refine ixO ?_|(first|apply brD|apply zad|apply brN|apply brI)<;>(intro))
 exact ⟨a,c,rfl,hx,ho,hf⟩
theorem zlL {E:Nat→Addr}{q b:Nat}{G:RuleS→Prop}{a:Option Addr}{n c:Nat}{xs:List RuleS}(id:Int) (hid:id=0∨id=1) (hx:Slc w 5 zal G a n xs) (hn:n≤1000) (h0:(za2 xs).1=0) (hsrc:0 < n→∀ b0 o0,a=some ⟨b0,o0,none⟩→b0≠b)
  (hb:Blk w b 253 (zaE B)) (hB:BOk B) (hon:B.off=false) (hE:Errs w E q zgA) (hq:q≤b) :
  CallC Tryz.prog 74 #[.int .i64 id,.pointer (some ⟨b,0,none⟩),.slice a n c] w fun v w' =>
   ((zbL id B xs).1=0∧∃ A:NodeA,A.b=b∧v = .tuple #[.pointer (some ⟨A.n,0,none⟩),.nilIface]∧Turns w w' [blk b 253 (zaE B)] (zaU A (zbL id B xs).2.1 (zbL id B xs).2.2)) ∨
   ((zbL id B xs).1≠0∧v = .tuple #[.pointer none,zc9 E (zbL id B xs).1]∧Ext (· = b) w w'∧Blk w' b 253 (zaE (zbL id B xs).2.2)):=by
 have hl:=hx.len;have hH:Has w [blk b 253 (zaE B)]:=((St.start w (· = b)).add (zab b _ _) hb (by simp [blk];exact hb.lt) (by simp)).has
 have hin:∀ d,inF [blk b 253 (zaE B)] d→d=b:=fun d ⟨e,he,hd⟩=>by
  obtain rfl:=List.mem_singleton.1 he;exact List.mem_singleton.1 hd
 have hqF:∀ d,inF [blk b 253 (zaE B)] d→q≤d:=fun d hd=>by rw [hin d hd];exact hq
 have hqw:q≤w.heap.size:=Nat.le_trans hq (Nat.le_of_lt hb.lt);have hsr:0 < n→∀ b0 o0,a=some ⟨b0,o0,none⟩→¬ inF [blk b 253 (zaE B)] b0:=fun h b0 o0 ha hd=>hsrc h b0 o0 ha (hin _ hd)
 have hS:=hH.start;clear hb;refine zaa tabOk Tryz.func74 (by kernel_rfl) rfl Tryz.ntmps74 (lbO rfl) ?_;(conv=>whnf);refine (ztX id w hid).mono ?_;rintro v w1 ⟨bt,rfl,hb,hx',hB1⟩;replace hS:=hS.made hx' (zab _ _ _) hB1 (by simp [blk];exact ⟨hb,hB1.lt⟩);clear hx' hB1;(conv=>whnf);refine (zff (hx.extN hS.ext hsr) ((hE.ext hS.ext hqF).sub rfl)).mono ?_;rintro v w2 ⟨hF,hx'⟩;replace hS:=hS.no hx';clear hx'
 obtain rfl:v = .nilIface:=by
  rw [h0] at hF;rcases hF with ⟨_,h⟩ | ⟨_,h,_⟩
  ·exact h
  ·exact absurd h (by decide)
 clear hF;(conv=>whnf);refine (zrP (hS.blk 0 rfl) hB.len hon).mono ?_;rintro v w3 ⟨bc,rfl,hbc,hx',hB1⟩;replace hS:=hS.made hx' (zab _ _ _) hB1 (by simp [blk];exact ⟨hbc,hB1.lt⟩);have hqc:q≤bc:=hS.high hqF hqw bc ⟨_,List.mem_of_getElem? (i:=2) rfl,List.mem_singleton.2 rfl⟩;clear hx' hB1;have hlt:=zgy B.data 2;generalize hC:zav B.data=C at hS;have hlt:C.num < 4294967296∧C.ep < 4294967296∧C.li < 4294967296:=by rw [← hC];exact hlt
 conv=>whnf
 refine (zkt (hS.blk 2 rfl)).mono ?_;rintro v w4 ⟨rfl,hx'⟩;replace hS:=hS.no hx';(conv=>whnf);refine (zbY (hS.blk 2 rfl)).mono ?_;rintro v w5 ⟨rfl,hx'⟩;replace hS:=hS.no hx';(conv=>whnf);refine rgO ?_;(conv=>whnf);refine (zpY C.ep (C.li+1) (hS.blk 2 rfl) (hS.blk 0 rfl) hB hlt.1 ((hE.ext hS.ext hqF).sub rfl) hq hqc).mono ?_;rintro v w6 ⟨rfl,hx',hB1,hC1⟩;have hs0:=hS.sel [0,2,1] (by decide);have hs1:=(Ev.St.upd2 hs0 hx' (by simp [blk]) (zab _ _ _) hB1 rfl (zab _ _ _) hC1 rfl).sel [0,2,1] (by decide);clear hs0 hS hB1 hC1 hx';have hnew:zbL id B xs=((C.put B C.ep (C.li+1)).1,.born id (C.put B C.ep (C.li+1)).2.2 xs,(C.put B C.ep (C.li+1)).2.1):=by rw [← hC];rfl
 have hep:=zjj C B C.ep (C.li+1);rw [hnew];generalize C.put B C.ep (C.li+1)=R at hs1 hep ⊢;obtain ⟨k,B2,C2⟩:=R;have hS:St w (inF [blk b 253 (zaE B)]) w6 [blk b 253 (zaE B2),blk bt 330 (zaZ ⟨2000+id * 24,emptyCells⟩),blk bc 332 (zdl b C2)]:=hs1;clear hs1;dsimp only at hep ⊢;cases k with
 | succ j =>
  repeat' ((conv=>whnf);first|apply RetC.mk|refine rgO ?_|refine ixO ?_|(first|apply brD|apply zad|apply brN|apply brI)<;>(intro))
  exact .inr ⟨Nat.succ_ne_zero j,rfl,hS.ext.mono hin,hS.blk 0 rfl⟩
 | zero =>
  obtain ⟨he,_⟩:=hep rfl;(conv=>whnf);refine (zkt (hS.blk 2 rfl)).mono ?_;rintro v w7 ⟨rfl,hx'⟩;replace hS:=hS.no hx';clear hx';(conv=>whnf);refine (zrM id C2.ep _ hid (by omega) (by omega)).mono ?_;rintro v w8 ⟨br,rfl,hbr,hx',hB1⟩;replace hS:=hS.made hx' (zab _ _ _) hB1 (by simp [blk];exact ⟨hbr,hB1.lt⟩);clear hx' hB1;(conv=>whnf);refine (zqs bt _).mono ?_;rintro v w9 ⟨bx,rfl,hbx,hx',hB1⟩;replace hS:=hS.made hx' (zab _ _ _) hB1 (by simp [blk];exact ⟨hbx,hB1.lt⟩);clear hx' hB1;(conv=>whnf);refine (zuI _).mono ?_;rintro v w10 ⟨bm,rfl,hbm,hx',hB1⟩;replace hS:=hS.made hx' (zab _ _ _) hB1 (by simp [blk];exact ⟨hbm,hB1.lt⟩);clear hx' hB1;(conv=>whnf);refine (zjI (hx.extN hS.ext hsr) hn).mono ?_;rintro v w11 ⟨ra,rc,rfl,hx',ho,hf⟩;replace hS:=hS.made hx' zaj ho (fun g hg=>hf g (by simpa [zaf,own] using hg));clear hx' ho hf;(conv=>whnf);refine hS.new (fun bn w12 hbn hS=>?_)
  replace hS:St w (inF [blk b 253 (zaE B)]) w12 [blk b 253 (zaE B2),blk bt 330 (zaZ ⟨2000+id * 24,emptyCells⟩),blk bc 332 (zdl b C2),blk br 335 (za0 ⟨id,C2.ep,0,false⟩),blk bx 338 (zaW bt zoa),blk bm 340 (zaZ ⟨0,emptyCells⟩),zaf 98 5 zal (.slice ra n rc) xs,blk bn 268 (zp2 ⟨bn,br,bc,bt,bx,bm,b,ra,rc⟩ (.born id C2 xs))]:=by
   rw [show n=xs.length from hl.symm] at hS ⊢;exact hS
  have hS2:=hS.sel [7,3,2,1,4,5,6,0] (by decide);repeat' ((conv=>whnf);first|apply RetC.mk|refine rgO ?_|refine ixO ?_|(first|apply brD|apply zad|apply brN|apply brI)<;>(intro))
  refine .inl ⟨rfl,⟨bn,br,bc,bt,bx,bm,b,ra,rc⟩,rfl,rfl,?_⟩;rw [show n=xs.length from hl.symm] at hS2;exact St.turns hS2
theorem ztY {id:Int}{C:CelS}{xs:List RuleS}(hid:id=0∨id=1) (h1:C.num < 4294967296) (h2:C.ep≤1073741824) (h3:C.li≤1073741824) (h0:(za2 xs).1=0):NOk 0 (.born id C xs) :=
 ⟨hid,Int.le_refl _,by show (0:Int)≤_;decide,⟨hid,Int.natCast_nonneg _,by show (C.ep:Int)≤_;omega,Int.le_refl _,by show (0:Int)≤_;decide⟩,rfl,Int.le_refl _,h1,h2,h3,TOk.empty _,rfl,by simp [NodeS.born,zoa],by simp [NodeS.born,zoa],zaS,fault_good.1 h0⟩
theorem zoy {id:Int}{B:BytS}{xs:List RuleS}(hid:id=0∨id=1) (hB:BOk B) (h0:(za2 xs).1=0):BOk (zbL id B xs).2.2∧((zbL id B xs).1=0→NOk 0 (zbL id B xs).2.1):=by
 have hlt:=zgy B.data 2;refine ⟨zou _ _ _ _ hB,fun h=>?_⟩;have:=zjj _ _ _ _ h;exact ztY hid (zju _ _ _ _ hlt.1) this.1 this.2 h0
end
structure Pow (B:BytS):Prop where
 bok:BOk B
 off:B.off=false
 left:B.left = -1
theorem zfd:∀ (s:List UInt8) (B:BytS) (p:Nat),B.off=false→B.left = -1→(B.write p s).1=true∧(B.write p s).2.off=false∧(B.write p s).2.left = -1
 | [],B,p,h1,h2=>⟨rfl,h1,h2⟩
 | x::r,B,p,h1,h2=>by
  rw [zbT,if_neg (by rw [h1,h2];decide)];exact zfd r _ _ h1 (by rw [h2];rfl)
theorem zrs (B:BytS) (p:Nat) (h1:B.off=false) (h2:B.left = -1):(mark B p).1=true∧(mark B p).2.off=false∧(mark B p).2.left = -1:=by
 unfold mark;split
 ·split
  ·exact ⟨rfl,h1,h2⟩
  ·exact zfd _ _ _ h1 h2
 ·exact ⟨rfl,h1,h2⟩
theorem ziy (B:BytS) (n e l:Nat) (h1:B.off=false) (h2:B.left = -1):(cwrite B n e l).1=true∧(cwrite B n e l).2.off=false∧(cwrite B n e l).2.left = -1:=by
 obtain ⟨a1,a2,a3⟩:=zrs B (n % 2 * 20+16) h1 h2;obtain ⟨b1,b2,b3⟩:=zfd (zbs n e l) (mark B (n % 2 * 20+16)).2 (n % 2 * 20) a2 a3;unfold cwrite;rw [if_neg (by rw [h1];decide),if_pos a1,if_pos b1];exact zfd _ _ _ b2 b3
theorem ztG {B:BytS}{C:CelS}{e l:Nat}(hP:Pow B) (hC:zav B.data=C) (hn:C.num+1 < 4294967296) (he:C.ep≤e∧e≤1073741824) (hl:C.li≤l∧l≤1073741824) :
  (C.put B e l).1=0∧Pow (C.put B e l).2.1∧zav (C.put B e l).2.1.data=(C.put B e l).2.2∧(C.put B e l).2.2=⟨C.num+1,e,l,false⟩:=by
 have hd:C.dead=false:=by rw [← hC];exact zna _
 obtain ⟨w1,w2,w3⟩:=ziy B (C.num+1) e l hP.off hP.left;have hk:=hP.bok.cwrite (C.num+1) e l;have hlaw:=znL (e:=e) (l:=l) hP.bok hP.off (by rw [hC];exact hn) (by omega) (by omega);rw [hC] at hlaw
 have ho:zav (cwrite B (C.num+1) e l).2.data=⟨C.num+1,e,l,false⟩:=by
  rcases hlaw with ⟨_,h,_⟩ | ⟨h,_⟩
  ·exact h
  ·rw [w1] at h;cases h
 have hput:C.put B e l=(0,(cwrite B (C.num+1) e l).2,⟨C.num+1,e,l,C.dead⟩):=by
  unfold CelS.put;rw [if_neg (by rw [hd];decide),if_neg (by omega),if_neg (by omega),if_neg (by omega)];simp only [Int.toNat_natCast];rw [if_pos w1]
 rw [hput,hd];exact ⟨rfl,⟨hk,w2,w3⟩,ho,rfl⟩

structure Lived (ep li n k:Nat) (N:NodeS) (B:BytS):Prop where
 ok:NOk (34 * k) N
 pow:Pow B
 cell:zav B.data=N.cell
 now:N.now=k
 tab:N.tab.cells=emptyCells
 mir:N.mir.cells=emptyCells
 li:N.cell.li=li
 num:N.cell.num≤n+1
 at_:(k≤9∧N.role.active=false∧N.role.silence=k∧N.role.epoch=ep∧N.cell.ep=ep∧N.cell.num=n) ∨
  (9 < k∧N.role.active=true∧∃ e:Nat,N.role.epoch=e∧ep < e∧e≤ep+2∧N.cell.ep=e)
theorem Lived.born {id:Int}{B:BytS}{rules:List RuleS}(hid:id=0∨id=1) (hg:(za2 rules).1=0) (hP:Pow B) (hn:(zav B.data).num≤1000000) (he:(zav B.data).ep≤1000000) (hl:(zav B.data).li≤1000000) :
  (zbL id B rules).1=0∧Lived (zav B.data).ep ((zav B.data).li+1) ((zav B.data).num+1) 0 (zbL id B rules).2.1 (zbL id B rules).2.2:=by
 obtain ⟨p1,p2,p3,p4⟩:=ztG (B:=B) (C:=zav B.data) (e:=(zav B.data).ep) (l:=(zav B.data).li+1) hP rfl (by omega) (by omega) (by omega);have h1:=(zoy (id:=id) (xs:=rules) hid hP.bok hg).2 p1;refine ⟨p1,h1,p2,p3,rfl,rfl,rfl,?_,?_,.inl ⟨by decide,rfl,rfl,?_,?_,?_⟩⟩
 ·show ((zav B.data).put B (zav B.data).ep ((zav B.data).li+1)).2.2.li=_;rw [show (((zav B.data).li:Int)+1)=(((zav B.data).li+1:Nat):Int) from rfl,p4]
 ·show ((zav B.data).put B (zav B.data).ep ((zav B.data).li+1)).2.2.num≤_;rw [show (((zav B.data).li:Int)+1)=(((zav B.data).li+1:Nat):Int) from rfl,p4];exact Nat.le_succ _
 ·show ((((zav B.data).put B (zav B.data).ep ((zav B.data).li+1)).2.2.ep:Nat):Int)=_;rw [show (((zav B.data).li:Int)+1)=(((zav B.data).li+1:Nat):Int) from rfl,p4]
 ·show ((zav B.data).put B (zav B.data).ep ((zav B.data).li+1)).2.2.ep=_;rw [show (((zav B.data).li:Int)+1)=(((zav B.data).li+1:Nat):Int) from rfl,p4]
 ·show ((zav B.data).put B (zav B.data).ep ((zav B.data).li+1)).2.2.num=_;rw [show (((zav B.data).li:Int)+1)=(((zav B.data).li+1:Nat):Int) from rfl,p4]
structure SideS where
 node:Option NodeS
 byt:BytS
structure WorldS where
 a:SideS
 b:SideS
 rules:List RuleS
 fly:List NoteS
 to:Int
 epoch:Int
 events:List (Int × Int)
def WorldS.side (W:WorldS) (n:Int):SideS:=if n=0 then W.a else W.b
def WorldS.setSide (W:WorldS) (n:Int) (s:SideS):WorldS:=if n=0 then { W with a:=s } else { W with b:=s }
def WorldS.upErr (W:WorldS) (n:Int):Nat:=if n≠0∧n≠1 then 2 else match (W.side n).node with
 | none=>7
 | some _=>0
def WorldS.ticked (W:WorldS) (n:Int) (N:NodeS) (T:Nat × List NoteS × NodeS × BytS):Nat × WorldS :=
 if T.2.2.2.off=true then (T.1,W.setSide n ⟨none,T.2.2.2⟩) else
 if T.1≠0 then (T.1,W.setSide n ⟨some T.2.2.1,T.2.2.2⟩) else
 (0,{ W.setSide n ⟨some T.2.2.1,T.2.2.2⟩ with
  events:=if N.role.active=false∧T.2.2.1.role.active=true∧W.events.length < 1000 then W.events++[(n,T.2.2.1.role.epoch)] else W.events
  fly:=W.fly++T.2.1.take (200 - W.fly.length) })
def WorldS.tick (W:WorldS) (n:Int):Nat × WorldS :=
 if n≠0∧n≠1 then (2,W) else match (W.side n).node with
 | none=>(7,W)
 | some N=>W.ticked n N (N.tick (W.side n).byt)
def WorldS.handErr (W:WorldS):Nat:=if W.to < 0 then 4 else W.upErr W.to
def WorldS.inside (W:WorldS) (p:PktS):Nat × PktS × WorldS :=
 if W.handErr≠0 then (W.handErr,zaP,W) else match (W.side W.to).node with
 | none=>(7,zaP,W)
 | some N=>((N.inside p).1,(N.inside p).2.1,W.setSide W.to ⟨some (N.inside p).2.2,(W.side W.to).byt⟩)
def WorldS.outside (W:WorldS) (p:PktS):Nat × PktS × WorldS :=
 if W.handErr≠0 then (W.handErr,zaP,W) else match (W.side W.to).node with
 | none=>(7,zaP,W)
 | some N=>((N.outside p).1,(N.outside p).2.1,W.setSide W.to ⟨some (N.outside p).2.2,(W.side W.to).byt⟩)
def WorldS.at_ (W:WorldS) (k:Int):Nat:=if k < 0∨k≥W.fly.length then 4 else 0
def WorldS.off (W:WorldS) (k:Int):WorldS:={ W with fly:=W.fly.eraseIdx k.toNat }
def WorldS.got (W:WorldS) (x:NoteS):WorldS :=
 if x.claim=true then (if x.epoch > W.epoch∨W.to < 0 then { W with to:=x.fro,epoch:=x.epoch } else W) else
 if 1 - x.fro≠0∧1 - x.fro≠1 then W else match (W.side (1 - x.fro)).node with
 | none=>W
 | some N=>W.setSide (1 - x.fro) ⟨some (N.hear x).2,(W.side (1 - x.fro)).byt⟩
def WorldS.deliver (W:WorldS) (k:Int):Nat × WorldS :=
 if W.at_ k≠0 then (W.at_ k,W) else match W.fly[k.toNat]? with
 | none=>(4,W)
 | some x=>(0,(W.off k).got x)
def WorldS.drop (W:WorldS) (k:Int):Nat × WorldS:=if W.at_ k≠0 then (W.at_ k,W) else (0,W.off k)
def WorldS.twice (W:WorldS) (k:Int):Nat × WorldS :=
 if W.at_ k≠0 then (W.at_ k,W) else if W.fly.length≥200 then (6,W) else match W.fly[k.toNat]? with
 | none=>(4,W)
 | some x=>(0,{ W with fly:=W.fly.take (k.toNat+1)++x::W.fly.drop (k.toNat+1) })
def WorldS.down (W:WorldS) (n:Int):Nat × WorldS :=
 if W.upErr n≠0 then (W.upErr n,W) else (0,W.setSide n ⟨none,{ (W.side n).byt with off:=true }⟩)
def onB (B:BytS):BytS:=⟨B.data,false,-1⟩
def WorldS.up (W:WorldS) (n:Int):Nat × WorldS :=
 if n≠0∧n≠1 then (2,W) else match (W.side n).node with
 | some _=>(11,W)
 | none=>if (zbL n (onB (W.side n).byt) W.rules).1≠0 then ((zbL n (onB (W.side n).byt) W.rules).1,W.setSide n ⟨none,(zbL n (onB (W.side n).byt) W.rules).2.2⟩)
  else (0,W.setSide n ⟨some (zbL n (onB (W.side n).byt) W.rules).2.1,(zbL n (onB (W.side n).byt) W.rules).2.2⟩)
def zsW (B:BytS) (k:Int):Nat:=if k < 0 then 2 else if B.off=true then 7 else 0
def zkW (B:BytS) (k:Int):BytS:=if k < 0∨B.off=true then B else ⟨B.data,B.off,k⟩
def WorldS.cut (W:WorldS) (n k:Int):Nat × WorldS :=
 if W.upErr n≠0 then (W.upErr n,W) else (zsW (W.side n).byt k,W.setSide n ⟨(W.side n).node,zkW (W.side n).byt k⟩)
def SideS.ruled (s:SideS) (l:List RuleS):SideS:={ s with node:=s.node.map fun N=>{ N with rules:=l } }
def WorldS.rule (W:WorldS) (l:List RuleS):WorldS:={ W with rules:=l,a:=W.a.ruled l,b:=W.b.ruled l }
def WorldS.born (l:List RuleS):WorldS:=⟨⟨some (zbL 0 by0 l).2.1,(zbL 0 by0 l).2.2⟩,⟨some (zbL 1 by0 l).2.1,(zbL 1 by0 l).2.2⟩,l,[],-1,0,[]⟩

structure SideOk (m:Nat) (n:Int) (s:SideS):Prop where
 bok:BOk s.byt
 node:∀ N,s.node=some N→NOk m N∧N.id=n∧s.byt.off=false
structure WOk (m:Nat) (W:WorldS):Prop where
 a:SideOk m 0 W.a
 b:SideOk m 1 W.b
 rules:zgv W.rules
 fly:W.fly.length≤200
 notes:∀ x∈W.fly,(x.fro=0∨x.fro=1)∧x.cells.length≤8
 to:W.to = -1∨W.to=0∨W.to=1
 events:W.events.length≤1000
theorem WOk.side {m:Nat}{W:WorldS}(h:WOk m W) {n:Int}(hn:n=0∨n=1):SideOk m n (W.side n):=by
 rcases hn with rfl|rfl
 ·exact h.a
 ·exact h.b
theorem SideOk.mono {m k:Nat}{n:Int}{s:SideS}(h:SideOk m n s) (hk:m≤k):SideOk k n s:=⟨h.bok,fun N hN=>⟨(h.node N hN).1.mono hk,(h.node N hN).2⟩⟩
theorem WOk.mono {m k:Nat}{W:WorldS}(h:WOk m W) (hk:m≤k):WOk k W:=⟨h.a.mono hk,h.b.mono hk,h.rules,h.fly,h.notes,h.to,h.events⟩
theorem WOk.setSide {m:Nat}{W:WorldS}(h:WOk m W) {n:Int}(hn:n=0∨n=1) {s:SideS}(hs:SideOk m n s):WOk m (W.setSide n s):=by
 rcases hn with rfl|rfl
 ·exact ⟨hs,h.b,h.rules,h.fly,h.notes,h.to,h.events⟩
 ·exact ⟨h.a,hs,h.rules,h.fly,h.notes,h.to,h.events⟩
theorem zi3 (N:NodeS) (B:BytS):(N.claim B).2.1.id=N.id:=by
 unfold NodeS.claim;repeat' split
 all_goals rfl
theorem zmN (N:NodeS) (c:Bool):(N.notes c).2.id=N.id:=by
 unfold NodeS.notes;dsimp only;split<;>rfl
theorem ztd (N:NodeS) (B:BytS):(N.tick B).2.2.1.id=N.id:=by
 unfold NodeS.tick;split
 ·rfl
 split
 ·split
  ·exact zi3 _ _
  ·exact (zmN _ (N.step.2.claim B).1.1).trans (zi3 _ _)
 ·exact zmN _ false
theorem zrz (N:NodeS) (p:PktS):(N.begin p).2.id=N.id:=by
 unfold NodeS.begin;repeat' split
 all_goals rfl
theorem zpP (N:NodeS) (p:PktS):(N.inside p).2.2.id=N.id:=by
 unfold NodeS.inside;repeat' split
 all_goals first|rfl|exact zrz N p
theorem znH (N:NodeS) (p:PktS):(N.outside p).2.2.id=N.id:=by
 unfold NodeS.outside;repeat' split
 all_goals rfl
theorem ztD (N:NodeS) (x:NoteS):(N.hear x).2.id=N.id:=by
 unfold NodeS.hear;repeat' split
 all_goals rfl
theorem zkD (N:NodeS) (c:Bool):∀ x∈(N.notes c).1,x.fro=N.id:=by
 cases hb:N.beat
 ·cases c
  ·rw [zbu hb];intro x hx;cases hx
  ·rw [zck hb];intro x hx;obtain rfl:=List.mem_singleton.1 hx;rfl
 ·rw [zcz hb];intro x hx;rcases List.mem_cons.1 hx with rfl|hx
  ·rfl
  ·obtain rfl:=List.mem_singleton.1 hx;rfl
theorem zq0 (N:NodeS) (B:BytS):∀ x∈(N.tick B).2.1,x.fro=N.id:=by
 unfold NodeS.tick;split
 ·intro x hx;cases hx
 split
 ·split
  ·intro x hx;cases hx
  ·intro x hx;exact (zkD _ (N.step.2.claim B).1.1 x hx).trans (zi3 _ _)
 ·intro x hx;exact zkD N.step.2 false x hx
theorem zkx {N:NodeS}(h:N.tel.cursor < 32) (c:Bool):∀ x∈(N.notes c).1,x.cells.length≤8:=by
 cases hb:N.beat
 ·cases c
  ·rw [zbu hb];intro x hx;cases hx
  ·rw [zck hb];intro x hx;obtain rfl:=List.mem_singleton.1 hx;exact Nat.zero_le _
 ·rw [zcz hb];intro x hx;rcases List.mem_cons.1 hx with rfl|hx
  ·exact Nat.zero_le _
  ·obtain rfl:=List.mem_singleton.1 hx;show (zcj N.tab.cells (N.tel.picks N.tab.cells)).length≤8;unfold zcj;rw [List.length_map];exact Nat.le_of_eq (zfs N.tab.cells h).len
theorem zo2 (N:NodeS) (B:BytS):(N.claim B).2.1.tel=N.tel:=by
 unfold NodeS.claim;repeat' split
 all_goals rfl
theorem zmn {m:Nat}{N:NodeS}(h:NOk m N) (B:BytS):∀ x∈(N.tick B).2.1,x.cells.length≤8:=by
 unfold NodeS.tick;split
 ·intro x hx;cases hx
 split
 ·split
  ·intro x hx;cases hx
  ·intro x hx;exact zkx (by rw [zo2];exact h.cur) (N.step.2.claim B).1.1 x hx
 ·intro x hx;exact zkx (N:=N.step.2) h.cur false x hx
theorem WOk.tick {m:Nat}{W:WorldS}(h:WOk m W) (hm:m≤40000000) (n:Int):WOk (m+34) (W.tick n).2:=by
 unfold WorldS.tick;split
 ·exact h.mono (Nat.le_add_right _ _)
 rename_i hn;have hn:n=0∨n=1:=by omega
 have hs:=h.side hn;cases hN:(W.side n).node with
 | none=>exact h.mono (Nat.le_add_right _ _)
 | some N =>
  obtain ⟨g1,g2,g3⟩:=hs.node N hN;have hok:=g1.tick (by omega) (W.side n).byt;have hbk:=NodeS.tick_bok (N:=N) hs.bok;have hid:=ztd N (W.side n).byt;have hfr:=zq0 N (W.side n).byt;have hce:=zmn g1 (W.side n).byt;show WOk (m+34) (W.ticked n N (N.tick (W.side n).byt)).2;generalize N.tick (W.side n).byt=T at hok hbk hid hfr hce ⊢;obtain ⟨e,l,N',B'⟩:=T;dsimp only at hok hbk hid hfr hce ⊢;have hup:B'.off=false→SideOk (m+34) n ⟨some N',B'⟩:=fun ho=>⟨hbk,fun M hM=>by obtain rfl:=Option.some.inj hM;exact ⟨hok,hid.trans g2,ho⟩⟩
  have hdn:SideOk (m+34) n ⟨none,B'⟩:=⟨hbk,fun M hM=>by cases hM⟩;have h2:=h.mono (Nat.le_add_right m 34);unfold WorldS.ticked;dsimp only;split
  ·exact h2.setSide hn hdn
  rename_i ho;have ho:B'.off=false:=Bool.eq_false_iff.2 ho;split
  ·exact h2.setSide hn (hup ho)
  ·obtain ⟨w1,w2,w3,w4,w5,w6,w7⟩:=h2.setSide hn (hup ho);have hfly:(W.setSide n ⟨some N',B'⟩).fly=W.fly:=by unfold WorldS.setSide;split<;>rfl
   have hlen:=h.fly;refine ⟨w1,w2,w3,?_,?_,w6,?_⟩
   ·simp only [List.length_append,List.length_take];omega
   ·intro x hx;rcases List.mem_append.1 hx with hx|hx
    ·exact h.notes x hx
    ·refine ⟨?_,hce x (List.mem_of_mem_take hx)⟩;rw [hfr x (List.mem_of_mem_take hx),g2];exact hn
   ·show (if _ then _ else _:List (Int × Int)).length≤1000;have he:=h.events;split
    ·simp only [List.length_append,List.length_singleton];omega
    ·exact he
theorem WOk.hand {m:Nat}{W:WorldS}(h:WOk m W) (he:W.handErr=0):(W.to=0∨W.to=1)∧∃ N,(W.side W.to).node=some N:=by
 unfold WorldS.handErr at he;split at he
 ·exact absurd he (by decide)
 rename_i h1;have ht:W.to=0∨W.to=1:=by have:=h.to;omega
 refine ⟨ht,?_⟩;unfold WorldS.upErr at he;rw [if_neg (by omega)] at he;cases hN:(W.side W.to).node with
 | none=>rw [hN] at he;exact absurd he (by decide)
 | some N=>exact ⟨N,rfl⟩
theorem zua {m:Nat}{N:NodeS}(h:NOk m N) (p:PktS):NOk (m+1) (N.inside p).2.2:=by
 unfold NodeS.inside;split
 ·exact h.mono (Nat.le_succ _)
 split
 ·exact h.mono (Nat.le_succ _)
 split
 ·exact h.pass _ _ _
 split;all_goals exact h.begin p
theorem ztg {m:Nat}{N:NodeS}(h:NOk m N) (p:PktS):NOk (m+1) (N.outside p).2.2:=by
 unfold NodeS.outside;split
 ·exact h.mono (Nat.le_succ _)
 split
 ·exact h.mono (Nat.le_succ _)
 split
 ·exact h.mono (Nat.le_succ _)
 split
 ·exact h.mono (Nat.le_succ _)
 ·exact h.pass _ _ _
theorem WOk.inside {m:Nat}{W:WorldS}(h:WOk m W) (p:PktS):WOk (m+1) (W.inside p).2.2:=by
 unfold WorldS.inside;by_cases he:W.handErr=0
 ·obtain ⟨ht,N,hN⟩:=h.hand he;rw [if_neg (fun h=>h he),hN];obtain ⟨g1,g2,g3⟩:=(h.side ht).node N hN;exact (h.mono (Nat.le_succ m)).setSide ht ⟨(h.side ht).bok,fun M hM=>by obtain rfl:=Option.some.inj hM;exact ⟨zua g1 p,(zpP N p).trans g2,g3⟩⟩
 ·rw [if_pos he];exact h.mono (Nat.le_succ m)
theorem WOk.outside {m:Nat}{W:WorldS}(h:WOk m W) (p:PktS):WOk (m+1) (W.outside p).2.2:=by
 unfold WorldS.outside;by_cases he:W.handErr=0
 ·obtain ⟨ht,N,hN⟩:=h.hand he;rw [if_neg (fun h=>h he),hN];obtain ⟨g1,g2,g3⟩:=(h.side ht).node N hN;exact (h.mono (Nat.le_succ m)).setSide ht ⟨(h.side ht).bok,fun M hM=>by obtain rfl:=Option.some.inj hM;exact ⟨ztg g1 p,(znH N p).trans g2,g3⟩⟩
 ·rw [if_pos he];exact h.mono (Nat.le_succ m)
theorem WOk.off {m:Nat}{W:WorldS}(h:WOk m W) (k:Int):WOk m (W.off k):=by
 have h1:(W.fly.eraseIdx k.toNat).length≤W.fly.length:=List.length_eraseIdx_le _ _;have h2:=h.fly;exact ⟨h.a,h.b,h.rules,by show (W.fly.eraseIdx k.toNat).length≤200;omega,fun x hx=>h.notes x (List.mem_of_mem_eraseIdx hx),h.to,h.events⟩
theorem WOk.got {m:Nat}{W:WorldS}(h:WOk m W) {x:NoteS}(hx:x.fro=0∨x.fro=1):WOk m (W.got x):=by
 unfold WorldS.got;split
 ·split
  ·exact ⟨h.a,h.b,h.rules,h.fly,h.notes,.inr hx,h.events⟩
  ·exact h
 split
 ·exact h
 rename_i h1;have hn:1 - x.fro=0∨1 - x.fro=1:=by omega
 cases hN:(W.side (1 - x.fro)).node with
 | none=>exact h
 | some N =>
  obtain ⟨g1,g2,g3⟩:=(h.side hn).node N hN;exact h.setSide hn ⟨(h.side hn).bok,fun M hM=>by obtain rfl:=Option.some.inj hM;exact ⟨g1.hear x,(ztD N x).trans g2,g3⟩⟩
theorem WOk.deliver {m:Nat}{W:WorldS}(h:WOk m W) (k:Int):WOk m (W.deliver k).2:=by
 unfold WorldS.deliver;split
 ·exact h
 cases hx:W.fly[k.toNat]? with
 | none=>exact h
 | some x=>exact (h.off k).got (h.notes x (List.mem_of_getElem? hx)).1
theorem WOk.drop {m:Nat}{W:WorldS}(h:WOk m W) (k:Int):WOk m (W.drop k).2:=by
 unfold WorldS.drop;split
 ·exact h
 ·exact h.off k
theorem WOk.twice {m:Nat}{W:WorldS}(h:WOk m W) (k:Int):WOk m (W.twice k).2:=by
 unfold WorldS.twice;split
 ·exact h
 split
 ·exact h
 rename_i h2;cases hx:W.fly[k.toNat]? with
 | none=>exact h
 | some x =>
  refine ⟨h.a,h.b,h.rules,?_,fun y hy=>?_,h.to,h.events⟩
  ·show (W.fly.take (k.toNat+1)++x::W.fly.drop (k.toNat+1)).length≤200;simp only [List.length_append,List.length_take,List.length_cons,List.length_drop];omega
  ·rcases List.mem_append.1 hy with hy|hy
   ·exact h.notes y (List.mem_of_mem_take hy)
   ·rcases List.mem_cons.1 hy with rfl|hy
    ·exact h.notes y (List.mem_of_getElem? hx)
    ·exact h.notes y (List.mem_of_mem_drop hy)
theorem zcE {W:WorldS}{n:Int}(he:W.upErr n=0):(n=0∨n=1)∧∃ N,(W.side n).node=some N:=by
 unfold WorldS.upErr at he;split at he
 ·exact absurd he (by decide)
 rename_i h1;refine ⟨by omega,?_⟩;cases hN:(W.side n).node with
 | none=>rw [hN] at he;exact absurd he (by decide)
 | some N=>exact ⟨N,rfl⟩
theorem WOk.down {m:Nat}{W:WorldS}(h:WOk m W) (n:Int):WOk m (W.down n).2:=by
 unfold WorldS.down;by_cases he:W.upErr n=0
 ·obtain ⟨hn,N,hN⟩:=zcE he;rw [if_neg (fun h=>h he)];have hb:=(h.side hn).bok;exact h.setSide hn ⟨⟨hb.len,hb.lo,hb.hi⟩,fun M hM=>by cases hM⟩
 ·rw [if_pos he];exact h
theorem zpg {B:BytS}(h:BOk B):BOk (onB B):=⟨h.len,by show (-1:Int)≤-1;decide,by show (-1:Int)≤9223372036854775807;decide⟩
theorem zuO (C:CelS) (B:BytS) (e l:Int) (h1:B.off=false) (h2:B.left = -1):(C.put B e l).2.1.off=false:=by
 unfold CelS.put;repeat' split
 all_goals first|exact h1|exact (ziy _ _ _ _ h1 h2).2.1
theorem zuF (n:Int) (B:BytS) (l:List RuleS):(zbL n (onB B) l).2.2.off=false:=zuO _ _ _ _ rfl rfl
theorem WOk.up {m:Nat}{W:WorldS}(h:WOk m W) (n:Int):WOk m (W.up n).2:=by
 unfold WorldS.up;split
 ·exact h
 rename_i h1;have hn:n=0∨n=1:=by omega
 cases hN:(W.side n).node with
 | some N=>exact h
 | none =>
  obtain ⟨g1,g2⟩:=zoy (id:=n) (B:=onB (W.side n).byt) (xs:=W.rules) hn (zpg (h.side hn).bok) (fault_good.2 h.rules);dsimp only;split
  ·exact h.setSide hn ⟨g1,fun M hM=>by cases hM⟩
  ·rename_i h2;have h2:(zbL n (onB (W.side n).byt) W.rules).1=0:=Classical.byContradiction h2;exact h.setSide hn ⟨g1,fun M hM=>by obtain rfl:=Option.some.inj hM;exact ⟨(g2 h2).mono (Nat.zero_le m),rfl,zuF n (W.side n).byt W.rules⟩⟩
theorem ztU {B:BytS}(h:BOk B) (k:Int) (hk:k≤9223372036854775807):BOk (zkW B k):=by
 unfold zkW;split
 ·exact h
 ·exact ⟨h.len,by dsimp only;omega,hk⟩
theorem zqQ (B:BytS) (k:Int):(zkW B k).off=B.off:=by
 unfold zkW;split<;>rfl
theorem WOk.cut {m:Nat}{W:WorldS}(h:WOk m W) (n k:Int) (hk:k≤9223372036854775807):WOk m (W.cut n k).2:=by
 unfold WorldS.cut;by_cases he:W.upErr n=0
 ·obtain ⟨hn,N,hN⟩:=zcE he;rw [if_neg (fun h=>h he)]
  exact h.setSide hn ⟨ztU (h.side hn).bok k hk,fun M hM=>by
   obtain ⟨g1,g2,g3⟩:=(h.side hn).node M hM;exact ⟨g1,g2,(zqQ _ _).trans g3⟩⟩
 ·rw [if_pos he];exact h
theorem WOk.born {l:List RuleS}(hl:zgv l):(zbL 0 by0 l).1=0∧(zbL 1 by0 l).1=0∧WOk 0 (.born l):=by
 have h0:zav by0.data=⟨0,0,0,false⟩:=by decide +kernel
 have hb:BOk by0:=⟨by simp [by0],by decide,by decide⟩;obtain ⟨a1,a2⟩:=Lived.born (id:=0) (B:=by0) (rules:=l) (.inl rfl) (fault_good.2 hl) ⟨hb,rfl,rfl⟩ (by rw [h0];decide) (by rw [h0];decide) (by rw [h0];decide);obtain ⟨b1,b2⟩:=Lived.born (id:=1) (B:=by0) (rules:=l) (.inr rfl) (fault_good.2 hl) ⟨hb,rfl,rfl⟩ (by rw [h0];decide) (by rw [h0];decide) (by rw [h0];decide);refine ⟨a1,b1,⟨a2.pow.bok,fun N hN=>?_⟩,⟨b2.pow.bok,fun N hN=>?_⟩,hl,Nat.zero_le _,(fun x hx=>by cases hx),.inl rfl,Nat.zero_le _⟩
 ·obtain rfl:=Option.some.inj hN;exact ⟨a2.ok,rfl,a2.pow.off⟩
 ·obtain rfl:=Option.some.inj hN;exact ⟨b2.ok,rfl,b2.pow.off⟩
theorem zkA (p:PktS):p.err < 12:=p.err_code
theorem zqo (T:MirS) (a b c d e f g:Int):(T.add a b c d e f g).1.2 < 12:=by
 unfold MirS.add MirS.lay;repeat' split
 all_goals (dsimp only;omega)
theorem zn7 (N:NodeS) (p:PktS):(N.begin p).1.2 < 12:=by
 unfold NodeS.begin;split
 ·show 8 < 12;decide
 split
 ·exact zlo _ _
 ·exact zqo _ _ _ _ _ _ _ _
theorem zla (N:NodeS) (p:PktS):(N.inside p).1 < 12:=by
 unfold NodeS.inside;split
 ·exact zkA p
 split
 ·show 9 < 12;decide
 split
 ·show 0 < 12;decide
 split
 ·exact zn7 N p
 ·show 0 < 12;decide
theorem zkv (N:NodeS) (p:PktS):(N.outside p).1 < 12:=by
 unfold NodeS.outside;split
 ·exact zkA p
 repeat' split
 all_goals (dsimp only;omega)
theorem zj7 (C:CelS) (B:BytS) (e l:Int):(C.put B e l).1 < 12:=by
 unfold CelS.put;repeat' split
 all_goals dsimp only
 all_goals omega
theorem znn (N:NodeS) (B:BytS):(N.claim B).1.2 < 12:=by
 unfold NodeS.claim;split
 ·show 0 < 12;decide
 split
 ·exact zj7 _ _ _ _
 ·show 0 < 12;decide
theorem zkY (N:NodeS) (B:BytS):(N.tick B).1 < 12:=by
 unfold NodeS.tick;split
 ·show 2 < 12;decide
 split
 ·split
  ·exact znn _ _
  ·show 0 < 12;decide
 ·show 0 < 12;decide
def zod (l:List Int) (k:Int):Int:=(l[k.toNat]?).getD 0
def zlW (q:Int):PktS:=⟨1+q.tmod 2,10+(q.tdiv 2).tmod 3,100,77,80+(q.tdiv 6).tmod 2,if 1+q.tmod 2=2 then zod [1,2,6,8] ((q.tdiv 12).tmod 4) else 0⟩
def zjK (q:Int):PktS:=⟨1+q.tmod 2,77,80+(q.tdiv 2).tmod 2,1,2000+(q.tdiv 4).tmod 48,if 1+q.tmod 2=2 then zod [3,2,6,8] ((q.tdiv 4).tmod 4) else 0⟩
def WorldS.ticks (W:WorldS) (n:Int):Nat→Nat × WorldS
 | 0=>(0,W)
 | k+1=>if (W.tick n).1≠0 then W.tick n else (W.tick n).2.ticks n k
def WorldS.one (W:WorldS) (v:Int):Nat × WorldS :=
 if v.tmod 16 < 5∧W.fly.length=0 then (4,W) else
 if v.tmod 16 < 3 then W.deliver ((v.tdiv 16).tmod W.fly.length) else
 if v.tmod 16=3 then W.drop ((v.tdiv 16).tmod W.fly.length) else
 if v.tmod 16=4 then W.twice ((v.tdiv 16).tmod W.fly.length) else
 if v.tmod 16=5∨v.tmod 16=6 then W.tick ((v.tdiv 16).tmod 2) else
 if v.tmod 16=7 then W.ticks ((v.tdiv 16).tmod 2) 10 else
 if v.tmod 16=8∨v.tmod 16=9 then ((W.inside (zlW (v.tdiv 16))).1,(W.inside (zlW (v.tdiv 16))).2.2) else
 if v.tmod 16=10∨v.tmod 16=11 then ((W.outside (zjK (v.tdiv 16))).1,(W.outside (zjK (v.tdiv 16))).2.2) else
 if v.tmod 16=12 then W.down ((v.tdiv 16).tmod 2) else
 if v.tmod 16=13 then W.up ((v.tdiv 16).tmod 2) else
 if v.tmod 16=14 then W.cut ((v.tdiv 16).tmod 2) (((v.tdiv 16).tdiv 2).tmod 30) else (0,W)
def WorldS.run (W:WorldS):List Int→List Int × WorldS
 | []=>([],W)
 | v::l=>if v < 0 then (-1::(W.run l).1,(W.run l).2) else (((W.one v).1:Int)::((W.one v).2.run l).1,((W.one v).2.run l).2)
def WorldS.land (W:WorldS):Nat→WorldS
 | 0=>W
 | k+1=>if W.fly.length=0 then W else (W.deliver 0).2.land k
theorem zl0 (n:Int):∀ (k:Nat) {m:Nat}{W:WorldS},WOk m W→m+34 * k≤40000000→WOk (m+34 * k) (W.ticks n k).2
 | 0,_,_,h,_=>h
 | k+1,m,W,h,hm=>by
  unfold WorldS.ticks;have h1:=h.tick (by omega) n;split
  ·exact h1.mono (by omega)
  ·exact (zl0 n k h1 (by omega)).mono (by omega)
theorem zp8:∀ (k:Nat) {m:Nat}{W:WorldS},WOk m W→WOk m (W.land k)
 | 0,_,_,h=>h
 | k+1,m,W,h=>by
  unfold WorldS.land;split
  ·exact h
  ·exact zp8 k (h.deliver 0)
theorem zjB {n:Nat}(h:Nat.blt n 12=true):n < 12:=by simpa using h
theorem zqi (n:Int) (B:BytS) (l:List RuleS):(zbL n B l).1 < 12:=zj7 _ _ _ _
theorem zer (W:WorldS) (n:Int):W.upErr n < 12:=by
 unfold WorldS.upErr;repeat' split
 all_goals exact zjB rfl
theorem zgk (W:WorldS):W.handErr < 12:=by
 unfold WorldS.handErr;split
 ·exact zjB rfl
 ·exact zer _ _
theorem znK (W:WorldS) (n:Int):(W.tick n).1 < 12:=by
 unfold WorldS.tick;split
 ·exact zjB rfl
 split
 ·exact zjB rfl
 ·unfold WorldS.ticked;split
  ·exact zkY _ _
  split
  ·exact zkY _ _
  ·exact zjB rfl
theorem zd1 (W:WorldS) (p:PktS):(W.inside p).1 < 12:=by
 unfold WorldS.inside;split
 ·exact zgk W
 split
 ·exact zjB rfl
 ·exact zla _ _
theorem zdw (W:WorldS) (p:PktS):(W.outside p).1 < 12:=by
 unfold WorldS.outside;split
 ·exact zgk W
 split
 ·exact zjB rfl
 ·exact zkv _ _
theorem zjq (W:WorldS) (k:Int):W.at_ k < 12:=by
 unfold WorldS.at_;split<;>exact zjB rfl
theorem ze5 (W:WorldS) (k:Int):(W.deliver k).1 < 12:=by
 unfold WorldS.deliver;split
 ·exact zjq W k
 split<;>exact zjB rfl
theorem zip (W:WorldS) (k:Int):(W.drop k).1 < 12:=by
 unfold WorldS.drop;split
 ·exact zjq W k
 ·exact zjB rfl
theorem zgT (W:WorldS) (k:Int):(W.twice k).1 < 12:=by
 unfold WorldS.twice;split
 ·exact zjq W k
 split
 ·exact zjB rfl
 split<;>exact zjB rfl
theorem zie (W:WorldS) (n:Int):(W.down n).1 < 12:=by
 unfold WorldS.down;split
 ·exact zer W n
 ·exact zjB rfl
theorem zmG (W:WorldS) (n:Int):(W.up n).1 < 12:=by
 unfold WorldS.up;split
 ·exact zjB rfl
 split
 ·exact zjB rfl
 split
 ·exact zqi n (onB (W.side n).byt) W.rules
 ·exact zjB rfl
theorem zki (W:WorldS) (n k:Int):(W.cut n k).1 < 12:=by
 unfold WorldS.cut;split
 ·exact zer W n
 ·show zsW _ _ < 12;unfold zsW;repeat' split
  all_goals exact zjB rfl
theorem zeR (n:Int):∀ (k:Nat) (W:WorldS),(W.ticks n k).1 < 12
 | 0,_=>zjB rfl
 | k+1,W=>by
  unfold WorldS.ticks;split
  ·exact znK W n
  ·exact zeR n k _
end Go.Proofs.YtogjajjdaoihdaaGreatDoor

namespace Go.Proofs.YtogjajjdaoihdaaGreatDoor.Ev
set_option maxRecDepth 20000
open Go
variable {P : Program} {w w' : World}

theorem zf0 {e:TypeId}{sz n n' cap:Nat}{a:Option Addr}{xs:List Value}(h:(own e sz (.slice a n' cap) n xs).holds w) :
  (a=none∧n'=0∧cap=0∧n=0∧xs=[])∨∃ g cur,a=some ⟨g,0,none⟩∧n'=n∧Blk w g e cur∧n≤cap∧cap≤maxLen∧cur.length=cap * sz∧cur.take (n * sz)=xs:=by
 obtain ⟨h0,h⟩:=h;rcases h with ⟨h1,h2⟩ | ⟨g,c,cur,h1,_,hb,hn,hm,hs,ht⟩
 ·simp only [Value.slice.injEq] at h1;obtain ⟨rfl,rfl,rfl⟩:=h1;subst h2;exact .inl ⟨rfl,rfl,rfl,rfl,List.length_eq_zero_iff.1 (by rw [h0];simp)⟩
 ·simp only [Value.slice.injEq] at h1;obtain ⟨rfl,rfl,rfl⟩:=h1;exact .inr ⟨g,cur.toList,rfl,rfl,by unfold Blk;simpa using hb,hn,hm,by simpa using hs,ht⟩
theorem zlC {e:TypeId}{sz n cap g:Nat}{cur xs:List Value}(hb:Blk w g e cur) (hn:n≤cap) (hm:cap≤maxLen) (hl:cur.length=cap * sz) (ht:cur.take (n * sz)=xs):(own e sz (.slice (some ⟨g,0,none⟩) n cap) n xs).holds w:=by
 refine ⟨?_,.inr ⟨g,cap,cur.toArray,rfl,Nat.zero_le _,hb,hn,hm,by simpa using hl,by simpa using ht⟩⟩;rw [← ht,List.length_take,hl];exact Nat.min_eq_left (Nat.mul_le_mul_right sz hn)
theorem zht {b o:Nat}{l:List Value}(hc:CellsAt w b o l):(loadCells ⟨b,o,none⟩ l.length).run P w = .ok l.toArray w :=
 run_loadCells_list w ⟨b,o,none⟩ l (fun j v hj=>by rw [zbl];exact hc j v hj)
theorem ztc {t e:TypeId}{sz g b o m c n cap:Nat}{cur news:List Value}{k:Value→World→Prop}
  (hu:P.underlying t=some (.slice e)) (hs:(P.info? e).map (·.size)=some sz) (hb:Blk w g e cur) (hc:CellsAt w b o news) (hl:news.length=m * sz) (h1:news.all zcN=true) (hroom:n+m≤cap) (hfit:n * sz+news.length≤cur.length)
  (hk:k (.slice (some ⟨g,0,none⟩) (n+m) cap) (zbE w g e (zaO cur (n * sz) news))) :
  RunC P (Builtin.append_ #[t,t] 0 #[.slice (some ⟨g,0,none⟩) n cap,.slice (some ⟨b,o,none⟩) m c]) w k:=by
 obtain ⟨i,hi,rfl⟩:=Option.map_eq_some_iff.1 hs;have hf:=zht (P:=P) hc;rw [hl] at hf;have hst:=zcl (P:=P) g e news (n * i.size) 0 w cur hb (by simpa using h1) (by simpa using hfit);refine ⟨_,_,?_,hk⟩;simp [Builtin.append_,underlying,hu,sizeOf,typeInfo,hi,Builtin.lenOf,hroom,Builtin.firstCells,hf,zbl,hst]
theorem zqp {t e:TypeId}{g o n c:Nat}{z:Value}{cur zs:List Value}{k:Value→World→Prop}
  (hu:P.underlying t=some (.slice e)) (hz:(P.info? e).bind (·.zero)=some z) (hb:Blk w g e cur) (hn:0 < n) (hzs:(Builtin.zeroCells z.cells n).toList=zs) (h1:zs.all zcN=true) (hfit:o+zs.length≤cur.length)
  (hk:k (.tuple #[]) (zbE w g e (zaO cur o zs))) :
  RunC P (Builtin.clear_ #[t] 0 #[.slice (some ⟨g,o,none⟩) n c]) w k:=by
 obtain ⟨q,rfl⟩:∃ q,n=q+1:=⟨n - 1,by omega⟩;have hst:=zcl (P:=P) g e zs o 0 w cur hb (by simpa using h1) (by simpa using hfit);refine ⟨_,_,?_,hk⟩;simp [Builtin.clear_,underlying,hu,zl3 hz,hzs,hst]
theorem ziR {t tr ty e:TypeId}{sz g o dl dc b o' sl sc:Nat}{cur news:List Value}{k:Value→World→Prop}
  (hu:P.underlying t=some (.slice e)) (hs:(P.info? e).map (·.size)=some sz) (hb:Blk w g e cur) (hc:CellsAt w b o' news) (hl:news.length=Nat.min sl dl * sz) (h1:news.all zcN=true) (hfit:o+news.length≤cur.length)
  (hk:k (goInt (Nat.min sl dl)) (zbE w g e (zaO cur o news))) :
  RunC P (Builtin.copy_ #[t,tr] ty #[.slice (some ⟨g,o,none⟩) dl dc,.slice (some ⟨b,o',none⟩) sl sc]) w k:=by
 obtain ⟨i,hi,rfl⟩:=Option.map_eq_some_iff.1 hs;have hf:=zht (P:=P) hc;rw [hl] at hf;have hst:=zcl (P:=P) g e news o 0 w cur hb (by simpa using h1) (by simpa using hfit);refine ⟨_,_,?_,hk⟩;simp [Builtin.copy_,underlying,hu,sizeOf,typeInfo,hi,Builtin.lenOf,Builtin.firstCells,hf,hst]
theorem zr8 {t tn e:TypeId}{sz bytes n m g cap:Nat}{z:Value}{kq:IntKind}{y:Int}{cur:List Value}{k:Value→World→Prop}
  (hu:P.underlying t=some (.slice e)) (hun:P.underlying tn=some (.int .i64)) (hs:(P.info? e).map (fun i=>(i.size,i.bytes))=some (sz,bytes)) (hz:(P.info? e).bind (·.zero)=some z) (hzs:z.cells.size=sz)
  (hb:Blk w g e cur) (hnc:n≤cap) (hl:cur.length=cap * sz) (hy:y=(m:Int)) (h0:0 < m) (hs0:0 < sz) (hno:cap < n+m) (h63:n+m≤maxLen) (hbig:(n+m) * bytes≤140737488355328)
  (hk:∀ G cap' Z w',Ext No w w'→w.heap.size≤G→Blk w' G e (cur.take (n * sz)++Z)→n+m≤cap'→cap'≤maxLen→(cur.take (n * sz)++Z).length=cap' * sz→k (.slice (some ⟨G,0,none⟩) (n+m) cap') w') :
  RunC P (Builtin.append_ #[t,tn] 0 #[.slice (some ⟨g,0,none⟩) n cap,.int kq y]) w k:=by
 subst hy;obtain ⟨ie,e1,e2⟩:=Option.map_eq_some_iff.1 hs;obtain ⟨ie',e3,e4⟩:=Option.bind_eq_some_iff.1 hz;obtain rfl:=Option.some.inj (e1.symm.trans e3);simp only [Prod.mk.injEq] at e2;have hle:n * sz≤cur.length:=by rw [hl];exact Nat.mul_le_mul_right sz hnc
 have htl:(cur.take (n * sz)).length=n * sz:=by rw [List.length_take];exact Nat.min_eq_left hle
 have hcells:CellsAt w.drew g 0 (cur.take (n * sz)):=fun j v hj=>by
  rw [List.getElem?_take] at hj;split at hj
  ·have:=hb.cell (o:=0+j);rw [Nat.zero_add] at this ⊢;exact this.trans hj
  ·cases hj
 have hold:(Builtin.firstCells ie.size n (.slice (some ⟨g,0,none⟩) n cap)).run P w.drew = .ok (cur.take (n * sz)).toArray w.drew:=by
  have:=zht (P:=P) hcells;rw [htl] at this;simp [Builtin.firstCells,e2.1,this]
 have hr:=Lib.run_append_grow_zeros w t tn 0 e ie z kq .i64 hu hun e1 e4 (some ⟨g,0,none⟩) n cap (cur.take (n * sz)) hold m h0 (by omega) (by omega) (by unfold maxLen at h63;omega) (by
  rw [e2.2];have:=Nat.mul_le_mul_right bytes (Nat.le_add_left m n);omega) (by rw [e2.2];exact growslice_fits hno hbig)
 have hge:=grownCap_ge w (n+m) cap e;have hzc:∀ q,(Builtin.zeroCells z.cells q).size=q * sz:=fun q=>by simp [Builtin.zeroCells,hzs]
 refine ⟨_,_,hr,hk _ _ ((Builtin.zeroCells z.cells m).toList++(Builtin.zeroCells z.cells (grownCap w (n+m) cap e - (n+m))).toList) _ ⟨rfl,rfl,rfl,?_,fun b hb _=>?_⟩ (Nat.le_refl _) ?_ hge (grownCap_le_maxLen w (n+m) cap e h63) ?_⟩
 ·show w.heap.size≤(w.heap.push _).size;rw [Array.size_push];omega
 ·show (w.heap.push _)[b]?=_;rw [Array.getElem?_push,if_neg (by omega)]
 ·show (w.heap.push _)[w.heap.size]?=_;rw [Array.getElem?_push,if_pos rfl];congr 2;simp
 ·simp only [List.length_append,htl,Array.length_toList,hzc];rw [← Nat.add_mul,← Nat.add_mul];congr 1;omega

theorem ztV {t e:TypeId}{q:IntKind}{i:Int}{g o n c j:Nat}{k:Value→Prop}(hu:P.underlying t=some (.slice e)) (he:(P.info? e).isSome=true) (hi:i=(j:Int)) (hj:j≤c)
  (hk:k (.slice (some ⟨g,o,none⟩) j c)):PureC P (Instr.sliceAt t (.slice (some ⟨g,o,none⟩) n c) none (some (.int q i)) none) k:=by
 subst hi;have ht:P.underlying t=some (.slice (P.elem t)):=by rw [zb1 hu];exact hu
 refine ⟨_,fun w=>?_,hk⟩;rw [run_sliceAt_slice w t _ _ _ _ ht,run_slice_h w t _ n c ht q _ (by omega) (by omega),zb1 hu,zaQ he];simp [sliced,zbl]
theorem zkK {t e:TypeId}{q:IntKind}{i:Int}{g o n c j sz:Nat}{k:Value→Prop}(hu:P.underlying t=some (.slice e)) (he:(P.info? e).isSome=true) (hsz:P.cellsOf e=sz) (hi:i=(j:Int)) (hj:j≤n)
  (hk:k (.slice (some ⟨g,if c=j then o else o+j * sz,none⟩) (n - j) (c - j))):PureC P (Instr.sliceAt t (.slice (some ⟨g,o,none⟩) n c) (some (.int q i)) none none) k:=by
 subst hi;have ht:P.underlying t=some (.slice (P.elem t)):=by rw [zb1 hu];exact hu
 refine ⟨_,fun w=>?_,hk⟩;rw [run_sliceAt_slice w t _ _ _ _ ht,run_slice_l w t _ n c ht q _ (by omega) (by omega),zb1 hu,zaQ he,hsz];by_cases h:c=j
 ·simp [sliced,h]
 ·simp [sliced,h,zbl]
theorem zvd {t e:TypeId}{q q':IntKind}{i i':Int}{g o n c j h sz:Nat}{k:Value→Prop}(hu:P.underlying t=some (.slice e)) (he:(P.info? e).isSome=true) (hsz:P.cellsOf e=sz) (hi:i=(j:Int)) (hi':i'=(h:Int)) (hj:j≤h) (hh:h≤c)
  (hk:k (.slice (some ⟨g,if c=j then o else o+j * sz,none⟩) (h - j) (c - j))):PureC P (Instr.sliceAt t (.slice (some ⟨g,o,none⟩) n c) (some (.int q i)) (some (.int q' i')) none) k:=by
 subst hi hi';have ht:P.underlying t=some (.slice (P.elem t)):=by rw [zb1 hu];exact hu
 refine ⟨_,fun w=>?_,hk⟩;rw [run_sliceAt_slice w t _ _ _ _ ht,run_slice_lh w t _ n c ht q q' _ _ (by omega) (by omega) (by omega),zb1 hu,zaQ he,hsz];by_cases h:c=j
 ·simp [sliced,h]
 ·simp [sliced,h,zbl]
theorem zvi {t e:TypeId}{q q' q'':IntKind}{i i' i'':Int}{a:Option Addr}{n c:Nat}{k:Value→Prop}(hu:P.underlying t=some (.slice e)) (he:(P.info? e).isSome=true) (h0:0≤i) (hi:i≤i') (hi':i'≤i'') (hh:i''≤c)
  (hk:∀ v,k v):PureC P (Instr.sliceAt t (.slice a n c) (some (.int q i)) (some (.int q' i')) (some (.int q'' i''))) k:=by
 have ht:P.underlying t=some (.slice (P.elem t)):=by rw [zb1 hu];exact hu
 refine ⟨sliced a i.toNat i'.toNat i''.toNat (P.cellsOf e),fun w=>?_,hk _⟩;rw [run_sliceAt_slice w t _ _ _ _ ht,run_slice_lhm w t _ n c ht q q' q'' _ _ _ (by omega) (by omega) (by omega) (by omega),zb1 hu,zaQ he];rfl
theorem zvn {t e:TypeId}{q:IntKind}{i:Int}{a:Option Addr}{n c:Nat}{k:Value→Prop}(hu:P.underlying t=some (.slice e)) (he:(P.info? e).isSome=true) (h0:0≤i) (hi:i≤n)
  (hk:∀ v,k v):PureC P (Instr.sliceAt t (.slice a n c) (some (.int q i)) none none) k:=by
 have ht:P.underlying t=some (.slice (P.elem t)):=by rw [zb1 hu];exact hu
 refine ⟨sliced a i.toNat n c (P.cellsOf e),fun w=>?_,hk _⟩;rw [run_sliceAt_slice w t _ _ _ _ ht,run_slice_l w t _ n c ht q _ (by omega) (by omega),zb1 hu,zaQ he];rfl

theorem zdb {cs vs:List Value}{o:Nat}(h:o≤cs.length):(zaO cs o vs).take (o+vs.length)=cs.take o++vs:=by
 have hl:(cs.take o++vs).length=o+vs.length:=by rw [List.length_append,List.length_take,Nat.min_eq_left h]
 unfold zaO;rw [← hl,List.take_left'];rfl
theorem zgu {cs vs:List Value}{o p:Nat}(h:o≤cs.length) (hp:p≤o):(zaO cs o vs).take p=cs.take p:=by
 have h1:((zaO cs o vs).take (o+vs.length)).take p=(cs.take o++vs).take p:=by rw [zdb h]
 rw [List.take_take,Nat.min_eq_left (by omega)] at h1;rw [h1,List.take_append_of_le_length (by rw [List.length_take,Nat.min_eq_left h];exact hp),List.take_take,Nat.min_eq_left hp]
theorem zkj {cs vs:List Value}{o:Nat}(h:o≤cs.length):(zaO cs o vs).drop o=vs++cs.drop (o+vs.length):=by
 unfold zaO;rw [List.append_assoc,List.drop_left'];rw [List.length_take,Nat.min_eq_left h]
theorem zrw {cur B Z:List Value}{p:Nat}(h:p+B.length≤cur.length):(zaO (zaO cur p B) (p+B.length) Z).take (p+B.length)=cur.take p++B:=by
 rw [zgu (by rw [zcD h];exact h) (Nat.le_refl _),zdb (by omega)]
theorem zr6 {cur B X:List Value}{p:Nat}(h:p+X.length+B.length≤cur.length):(zaO (zaO cur (p+X.length) B) p X).take (p+X.length+B.length)=cur.take p++X++B:=by
 have h1:(zaO cur (p+X.length) B).take p=cur.take p:=zgu (by omega) (by omega);have h2:(zaO cur (p+X.length) B).drop (p+X.length)=B++cur.drop (p+X.length+B.length):=zkj (by omega)
 have h3:zaO (zaO cur (p+X.length) B) p X=(cur.take p++X++B)++cur.drop (p+X.length+B.length):=by
  show (zaO cur (p+X.length) B).take p++X++(zaO cur (p+X.length) B).drop (p+X.length)=_;rw [h1,h2];simp
 have hl:(cur.take p++X++B).length=p+X.length+B.length:=by rw [List.length_append,List.length_append,List.length_take,Nat.min_eq_left (by omega)]
 rw [h3,← hl,List.take_left'];rfl
theorem zpf {cur B X:List Value}{p:Nat}(h:p+X.length+B.length≤cur.length):(zaO (zaO cur p X) (p+X.length) B).take (p+X.length+B.length)=cur.take p++X++B:=by
 rw [zdb (by rw [zcD (by omega)];omega),zdb (by omega)]
theorem St.setB {w0 w:World}{S:Nat→Prop}{H:List Ent}(h:St w0 S w H) (i:Nat) {b:Nat}{t:TypeId}{cs:List Value}(hi:H[i]?=some (Ev.blk b t cs)) (cs':List Value):St w0 S (zbE w b t cs') (H.set i (Ev.blk b t cs')) :=
 h.upd i hi (Ext.set (S:=(· = b)) (b:=b) rfl t _) (fun c hc=>by simp [Ev.blk,hc]) (zab _ _ _) (zcd (h.blk i hi).lt) (fun c hc=>.inl hc)
end Go.Proofs.YtogjajjdaoihdaaGreatDoor.Ev

namespace Go.Proofs.YtogjajjdaoihdaaGreatDoor
set_option maxRecDepth 20000
open Go Ev
theorem Ev.Slc.here {α:Type}{w w':World}{sz n:Nat}{enc:α→List Value}{G:α→Prop}{a:Option Addr}{xs:List α}(h:Slc w sz enc G a n xs) (he:0 < n→∀ b o,a=some ⟨b,o,none⟩→w'.heap[b]?=w.heap[b]?):Slc w' sz enc G a n xs:=by
 refine ⟨h.len,h.max,fun k x hk=>?_,h.good⟩;obtain ⟨b,o,ha,hb,hc⟩:=h.cells k x hk
 have hn:0 < n:=by
  have:=(List.getElem?_eq_some_iff.1 hk).1;rw [h.len] at this;omega
 have e:=he hn b o ha;refine ⟨b,o,ha,?_,fun i v hi=>?_⟩
 ·have:w'.heap[b]?=some w.heap[b]:=e.trans (Array.getElem?_eq_getElem hb);exact (Array.getElem?_eq_some_iff.1 this).1
 ·have h1:w'.cell? ⟨b,o+k * sz+i,none⟩=w.cell? ⟨b,o+k * sz+i,none⟩:=by simp only [World.cell?,e]
  exact h1.trans (hc i v hi)
structure NoteIs (x:NoteV) (y:NoteS):Prop where
 fro:x.fro=y.fro
 life:x.life=y.life
 epoch:x.epoch=y.epoch
 claim:x.claim=y.claim
def zjD (x:NoteV):List Nat:=if x.n=0 then [] else (Value.slice x.a x.n x.c).ownBlock.toList
def zat (vs:List NoteV) (ns:List NoteS):Ent:=⟨vs.flatMap zjD,fun w=>vs.length=ns.length∧∀ (k:Nat) x y,vs[k]?=some x→ns[k]?=some y→NoteIs x y∧Slc w 10 zac (fun _=>True) x.a x.n y.cells⟩
theorem zi6 {x:NoteV}{b o:Nat}(hn:0 < x.n) (ha:x.a=some ⟨b,o,none⟩):b∈zjD x:=by
 unfold zjD;rw [if_neg (by omega),ha];simp [Value.ownBlock]
theorem zaJ {vs:List NoteV}{ns:List NoteS}:(zat vs ns).Local:=by
 intro w w' hb h;refine ⟨h.1,fun k x y hx hy=>⟨(h.2 k x y hx hy).1,(h.2 k x y hx hy).2.here fun hn b o ha=>hb b ?_⟩⟩;exact List.mem_flatMap.2 ⟨x,List.mem_of_getElem? hx,zi6 hn ha⟩
theorem zh0 (w:World):(zat [] []).holds w:=⟨rfl,fun k x y hx _=>by simp at hx⟩
theorem zf3 {w:World}{x:NoteV}{y:NoteS}(h:NoteIs x y) (hs:Slc w 10 zac (fun _=>True) x.a x.n y.cells):(zat [x] [y]).holds w:=by
 refine ⟨rfl,fun k u v hu hv=>?_⟩
 have hk:k=0:=by
  have:=(List.getElem?_eq_some_iff.1 hu).1;simp at this;exact this
 subst hk;simp only [List.getElem?_cons_zero,Option.some.injEq] at hu hv;subst hu hv;exact ⟨h,hs⟩
theorem zca {w:World}{vs:List NoteV}{ns:List NoteS}(h:(zat vs ns).holds w) {k:Nat}{x:NoteV}{y:NoteS}(hx:vs[k]?=some x) (hy:ns[k]?=some y):NoteIs x y∧Slc w 10 zac (fun _=>True) x.a x.n y.cells:=h.2 k x y hx hy
theorem cellsE_foot {vs:List NoteV}{ns:List NoteS}{b:Nat}:b∈(zat vs ns).foot↔∃ x∈vs,b∈zjD x:=List.mem_flatMap
theorem zdZ {w:World}{vs:List NoteV}{ns:List NoteS}(h:(zat vs ns).holds w) (k:Nat):(zat (vs.eraseIdx k) (ns.eraseIdx k)).holds w:=by
 refine ⟨by rw [List.length_eraseIdx,List.length_eraseIdx,h.1],fun i x y hx hy=>?_⟩;rw [List.getElem?_eraseIdx] at hx hy;split at hx
 ·exact h.2 i x y hx (by rwa [if_pos (by assumption)] at hy)
 ·exact h.2 (i+1) x y hx (by rwa [if_neg (by assumption)] at hy)
theorem zel {w:World}{vs us:List NoteV}{ns ms:List NoteS}(h:(zat vs ns).holds w) (g:(zat us ms).holds w):(zat (vs++us) (ns++ms)).holds w:=by
 have hl:=h.1;refine ⟨by rw [List.length_append,List.length_append,hl,g.1],fun i x y hx hy=>?_⟩;by_cases hi:i < vs.length
 ·rw [List.getElem?_append_left hi] at hx;rw [List.getElem?_append_left (by omega)] at hy;exact h.2 i x y hx hy
 ·rw [List.getElem?_append_right (by omega)] at hx;rw [List.getElem?_append_right (by omega),← hl] at hy;exact g.2 _ x y hx hy
theorem zlq {w:World}{vs:List NoteV}{ns:List NoteS}(h:(zat vs ns).holds w) (k:Nat):(zat (vs.take k) (ns.take k)).holds w:=by
 refine ⟨by rw [List.length_take,List.length_take,h.1],fun i x y hx hy=>?_⟩;rw [List.getElem?_take] at hx hy;split at hx
 ·exact h.2 i x y hx (by rwa [if_pos (by assumption)] at hy)
 ·cases hx
theorem zlK {w:World}{vs:List NoteV}{ns:List NoteS}(h:(zat vs ns).holds w) (k:Nat):(zat (vs.drop k) (ns.drop k)).holds w:=by
 refine ⟨by rw [List.length_drop,List.length_drop,h.1],fun i x y hx hy=>?_⟩;rw [List.getElem?_drop] at hx hy;exact h.2 _ x y hx hy

section
variable {w : World}
theorem zo8 {G:CellS→Prop}{a:Option Addr}{n c:Nat}{xs:List CellS}(hx:Slc w 10 zac G a n xs) (hn:n≤1000) :
  CallC Tryz.prog 304 #[.slice a n c] w fun v w'=>∃ a' c',v = .slice a' n c'∧Ext No w w'∧(zaf 209 10 zac v xs).holds w'∧zc0 w w' v:=by
 have hl:=hx.len;refine zaa tabOk Tryz.func304 (by kernel_rfl) rfl Tryz.ntmps304 (lbO rfl) ?_;have hS:=St.start w No;cases a with
 | none =>
  have hn0:n=0:=by
   rcases Nat.eq_zero_or_pos n with h|h
   ·exact h
   ·obtain ⟨_,_,_,_,_,h,_⟩:=hx.at h;cases h
  subst hn0;obtain rfl:xs=[]:=List.length_eq_zero_iff.1 hl;repeat' ((conv=>whnf);first|apply RetC.mk|refine rgO ?_|refine ixO ?_|(first|apply brD|apply zad|apply brN|apply brI)<;>(intro))
  have hS:=hS.addNil 209 10 zac;exact ⟨none,0,rfl,hS.ext,hS.get 0 rfl,hS.freshAt 0 rfl⟩
 | some a0 =>
  (conv=>whnf);refine hS.lit0 Tryz.underlying131 (sz:=10) (by kernel_rfl) (fun b0 w1 hS=>?_);(conv=>whnf);refine hS.appS zau 0 (xs:=[]) Tryz.underlying131 (bytes:=80) (by kernel_rfl) (z:=.agg (zac ⟨0,0,zay⟩).toArray) (by kernel_rfl) rfl rfl (hx.no hS.ext) (by unfold maxLen;simp;omega) (by simp;omega) (fun a' c' w' hS=>?_);repeat' ((conv=>whnf);first|apply RetC.mk|refine rgO ?_|refine ixO ?_|(first|apply brD|apply zad|apply brN|apply brI)<;>(intro))
  have hn0:([]:List CellS).length+n=n:=by simp
  rw [hn0] at hS ⊢;exact ⟨a',c',rfl,hS.ext,hS.get 0 rfl,hS.freshAt 0 rfl⟩
def NoteV.with (x:NoteV) (a:Option Addr) (c:Nat):NoteV:=⟨x.fro,x.life,x.epoch,x.claim,a,x.n,c⟩
theorem zoX {G:CellS→Prop}{x:NoteV}{cs:List CellS}(hx:Slc w 10 zac G x.a x.n cs) (hn:x.n≤1000) :
  CallC Tryz.prog 237 #[.agg (zae x).toArray] w fun v w'=>∃ a' c',v = .agg (zae (x.with a' c')).toArray∧Ext No w w'∧(zaf 209 10 zac (.slice a' x.n c') cs).holds w'∧zc0 w w' (.slice a' x.n c'):=by
 refine zaa tabOk Tryz.func237 (by kernel_rfl) rfl Tryz.ntmps237 (lbO rfl) ?_;have hS:=St.start w No;(conv=>whnf);refine hS.new (fun bx w1 hbx hS=>?_);(conv=>whnf);refine hS.new (fun br w2 hbr hS=>?_);replace hS:St w No w2 [blk bx 350 (zae x),blk br 350 (zae zcx)]:=hS;(conv=>whnf);refine hS.ld 0 rfl rfl ?_;(conv=>whnf);refine (zo8 (hx.no hS.ext) hn).mono ?_;rintro v w3 ⟨a',c',rfl,hx3,ho,hf⟩;have hf2:zc0 w w3 (.slice a' x.n c'):=fun g hg=>⟨Nat.le_trans hS.ext.size (hf g hg).1,(hf g hg).2⟩
 replace hS:=hS.made hx3 zaj ho (fun g hg=>hf g (by simpa [zaf,own] using hg));clear hx3 ho hf;(conv=>whnf);refine hS.st 0 rfl (lbO rfl) rfl (fun w4 hS=>?_);(conv=>whnf);refine hS.laX 0 rfl rfl ?_;(conv=>whnf);refine hS.st 1 rfl (lbO rfl) rfl (fun w5 hS=>?_);(conv=>whnf);refine hS.laX 1 rfl rfl ?_;repeat' ((conv=>whnf);first|apply RetC.mk|refine rgO ?_|refine ixO ?_|(first|apply brD|apply zad|apply brN|apply brI)<;>(intro))
 exact ⟨a',c',rfl,hS.ext,hS.get 2 rfl,hS.freshAt 2 rfl⟩
theorem zid {α:Type}{sz:Nat}{enc:α→List Value}(C:Codec sz enc) (xs:List α) (k:Nat):(xs.flatMap enc).take (k * sz)=(xs.take k).flatMap enc:=by
 by_cases hk:k≤xs.length
 ·conv=>lhs;rw [← List.take_append_drop k xs,List.flatMap_append]
  have hl:((xs.take k).flatMap enc).length=k * sz:=by rw [zas C,List.length_take,Nat.min_eq_left hk]
  rw [← hl,List.take_left'];rfl
 ·have h1:xs.length≤k:=by omega
  rw [List.take_of_length_le h1,List.take_of_length_le];rw [zas C];exact Nat.mul_le_mul_right sz h1
theorem ziw {α:Type}{sz:Nat}{enc:α→List Value}(C:Codec sz enc) (xs:List α) (k:Nat):(xs.flatMap enc).drop (k * sz)=(xs.drop k).flatMap enc:=by
 by_cases hk:k≤xs.length
 ·conv=>lhs;rw [← List.take_append_drop k xs,List.flatMap_append]
  have hl:((xs.take k).flatMap enc).length=k * sz:=by rw [zas C,List.length_take,Nat.min_eq_left hk]
  rw [← hl,List.drop_left'];rfl
 ·have h1:xs.length≤k:=by omega
  rw [List.drop_of_length_le h1,List.drop_of_length_le]
  ·rfl
  rw [zas C];exact Nat.mul_le_mul_right sz h1
theorem zdk {b o:Nat}{t:TypeId}{cur l:List Value}(hb:Blk w b t cur) (h:∀ i v,l[i]?=some v→cur[o+i]?=some v):CellsAt w b o l:=fun i v hi=>by
 rw [hb.cell];exact h i v hi
end
section
variable {w : World}
theorem Ev.Blk.shape {b:Nat}{t:TypeId}{cs:List Value}(h:Blk w b t cs):w.shape? b=some (t,cs.length):=by
 unfold Blk at h;simp [World.shape?,h]
theorem znP {g b o o' n c n' c':Nat}{t1 t2:TypeId}{cs1 cs2:List Value}(hb:Blk w b t1 cs1) (hg:Blk w g t2 cs2) (hne:b≠g) (hp:cs2.length≠0) :
  (callFunc 302 #[.slice (some ⟨b,o,none⟩) n c,.slice (some ⟨g,o',none⟩) n' c']).run Tryz.prog w = .ok (.value (.bool false)) w:=by
 have hz:∀ w,(Go.sizeOf 350).run Tryz.prog w = .ok 5 w:=fun w=>(tabOk 350 _ rfl).size_run w
 rw [run_callFunc_extern Tryz.func302 (by kernel_rfl) (by kernel_rfl) (by kernel_rfl) (e:=Extern.SlicesOverlaps.overlaps #[160,160] #[4]) (by kernel_rfl),
  Lib.run_overlaps_apart w 160 4 350 Tryz.underlying160 5 hz ⟨b,o,none⟩ ⟨g,o',none⟩ n c n' c' hne t1 t2 cs1.length cs2.length hb.shape hg.shape hp (hb.frozen o) (hb.frozen cs1.length)]
 rfl
theorem zpN {a:Option Addr}{c:Nat}{vs:List NoteV}{i:Nat}(ho:(zaf 350 5 zae (.slice a vs.length c) vs).holds w) (hi:i < vs.length) (hm:vs.length≤1000) :
  CallC Tryz.prog 234 #[.slice a vs.length c,.int .i64 (i:Int),.int .i64 ((i:Int)+1)] w fun v w' =>
   v = .slice a (vs.length - 1) c∧Ext (fun b=>(Value.slice a vs.length c).ownBlock=some b) w w'∧(zaf 350 5 zae (.slice a (vs.length - 1) c) (vs.eraseIdx i)).holds w':=by
 rcases zf0 ho with ⟨_,_,_,h0,_⟩ | ⟨g,cur,rfl,_,hb,hnc,hcm,hl,ht⟩
 ·omega
 have hS:=(St.start w (fun b=>(Value.slice (some ⟨g,0,none⟩) vs.length c).ownBlock=some b)).add (zab g _ _) hb (fun b hb'=>by obtain rfl:=List.mem_singleton.1 hb';exact ⟨.inl rfl,hb.lt⟩) (by simp);have hB:((vs.drop (i+1)).flatMap zae).length=(vs.length - (i+1)) * 5:=by rw [zas zak,List.length_drop]
 have hA:cur.take (i * 5)=(vs.take i).flatMap zae:=by
  rw [← zid zak,← ht,List.take_take,Nat.min_eq_left (by omega)]
 have hcB:∀ j v,((vs.drop (i+1)).flatMap zae)[j]?=some v→cur[(i+1) * 5+j]?=some v:=fun j v hj=>by
  rw [← ziw zak,List.getElem?_drop,← ht,List.getElem?_take] at hj;split at hj
  ·exact hj
  ·cases hj
 refine zaa tabOk Tryz.func234 (by kernel_rfl) rfl Tryz.ntmps234 (lbO rfl) ?_;(conv=>whnf);refine zvi Tryz.underlying160 (by kernel_rfl) (by omega) (by omega) (by omega) (by omega) (fun v0=>?_);(conv=>whnf);refine brD (fun h=>by omega) (fun _=>?_);(conv=>whnf)
 (refine zah tabOk mixed [] (fun b=>b=g) [0,1,2,3,4,5,6,7] (by kernel_rfl) ?_;rintro w1 rfl;replace hS:=hS.drew)
 have hK:=hS.ref (fun b=>b=g);(conv=>whnf);refine ztV Tryz.underlying160 (by kernel_rfl) rfl (by omega) ?_;(conv=>whnf);refine zkK (j:=i+1) (sz:=5) Tryz.underlying160 (by kernel_rfl) (by kernel_rfl) (by omega) (by omega) ?_;(conv=>whnf);refine ztc (sz:=5) (cur:=cur) (news:=(vs.drop (i+1)).flatMap zae) Tryz.underlying160 (by kernel_rfl) (hS.blk 0 rfl) ?_ hB (zdH zak _) (by omega) (by rw [hB,hl];omega) ?_
 ·by_cases hc:c=i+1
  ·have:(vs.drop (i+1)).flatMap zae=[]:=List.length_eq_zero_iff.1 (by rw [hB];omega);rw [this];intro j v hj;simp at hj
  ·rw [if_neg hc];exact zdk (hS.blk 0 rfl) (fun j v hj=>by rw [Nat.zero_add];exact hcB j v hj)
 replace hK:=hK.trans (Ext.set (S:=fun b=>b=g) (b:=g) rfl 350 (zaO cur (i * 5) ((vs.drop (i+1)).flatMap zae)));refine KeepC.mk hK ?_;replace hS:=hS.setB 0 rfl (zaO cur (i * 5) ((vs.drop (i+1)).flatMap zae));clear hK;have hn1:i+(vs.length - (i+1))=vs.length - 1:=by omega
 have hlB:(zaO cur (i * 5) ((vs.drop (i+1)).flatMap zae)).length=c * 5:=by rw [zcD (by rw [hB,hl];omega),hl]
 rw [hn1];(conv=>whnf);refine zvd (j:=vs.length - 1) (h:=vs.length) (sz:=5) Tryz.underlying160 (by kernel_rfl) (by kernel_rfl) rfl rfl (by omega) (by omega) ?_;rw [if_neg (by omega)];(conv=>whnf)
 refine zqp (zs:=zae zcx) (cur:=zaO cur (i * 5) ((vs.drop (i+1)).flatMap zae)) Tryz.underlying160 (z:=.agg (zae zcx).toArray) (by kernel_rfl) (hS.blk 0 rfl) (by omega) (by
  rw [show vs.length - (vs.length - 1)=1 by omega];show ((Array.range (1 * 5)).map _).toList=_;rw [zmP (.agg (zae zcx).toArray)];rfl) rfl (by rw [hlB];simp only [zae,List.length_cons,List.length_nil];omega) ?_
 replace hS:=hS.setB 0 rfl (zaO (zaO cur (i * 5) ((vs.drop (i+1)).flatMap zae)) (0+(vs.length - 1) * 5) (zae zcx));repeat' ((conv=>whnf);first|apply RetC.mk|refine rgO ?_|refine ixO ?_|(first|apply brD|apply zad|apply brN|apply brI)<;>(intro))
 refine ⟨rfl,hS.ext,?_⟩;have hle:(vs.eraseIdx i).length=vs.length - 1:=by rw [List.length_eraseIdx,if_pos hi]
 have:=zlC (sz:=5) (n:=vs.length - 1) (cap:=c) (xs:=(vs.eraseIdx i).flatMap zae) (hS.blk 0 rfl) (by omega) hcm (by rw [zcD (by rw [hlB];simp only [zae,List.length_cons,List.length_nil];omega),hlB]) (by
  have h5:(vs.length - 1) * 5=i * 5+((vs.drop (i+1)).flatMap zae).length:=by rw [hB];omega
  rw [Nat.zero_add,h5,zrw (by rw [hB,hl];omega),hA,List.eraseIdx_eq_take_drop_succ,List.flatMap_append])
 unfold zaf;rw [hle];exact this
theorem zs0 {a:Option Addr}{c b k:Nat}{vs:List NoteV}{x:NoteV}(hH:Has w [zaf 350 5 zae (.slice a vs.length c) vs,blk b 350 (zae x)]) (hk:k≤vs.length) (hm:vs.length≤1000) :
  CallC Tryz.prog 236 #[.slice a vs.length c,.int .i64 (k:Int),.slice (some ⟨b,0,none⟩) 1 1] w fun v w' =>
   ∃ a' c',v = .slice a' (vs.length+1) c'∧Turns w w' [zaf 350 5 zae (.slice a vs.length c) vs,blk b 350 (zae x)] [zaf 350 5 zae (.slice a' (vs.length+1) c') (vs.take k++x::vs.drop k),blk b 350 (zae x)]:=by
 have ho:(zaf 350 5 zae (.slice a vs.length c) vs).holds w:=hH.get 0 rfl
 have hcap:vs.length≤c:=by
  rcases zf0 ho with ⟨_,h,_,h0,_⟩ | ⟨_,_,_,_,_,h,_⟩
  ·omega
  ·exact h
 refine zaa tabOk Tryz.func236 (by kernel_rfl) rfl Tryz.ntmps236 (lbO rfl) ?_;have hS:=hH.start;(conv=>whnf);refine zvn Tryz.underlying160 (by kernel_rfl) (by omega) (by omega) (fun v0=>?_);(conv=>whnf);refine brD (fun h=>?_) (fun h=>?_)
 ·obtain rfl:k=vs.length:=by omega
  (conv=>whnf);refine hS.appS zak 0 (ys:=[x]) (G:=fun _=>True) Tryz.underlying160 (bytes:=56) (by kernel_rfl) (z:=.agg (zae zcx).toArray) (by kernel_rfl) rfl rfl (Slc.of_blk zak (hS.blk 1 rfl) rfl (by simp) (fun _ _=>trivial) rfl) (by unfold maxLen;omega) (by omega) (fun a2 c2 w4 hS=>?_);repeat' ((conv=>whnf);first|apply RetC.mk|refine rgO ?_|refine ixO ?_|(first|apply brD|apply zad|apply brN|apply brI)<;>(intro))
  refine ⟨a2,c2,rfl,?_⟩;rw [List.take_length,List.drop_length];exact St.turns hS
 have hkn:k < vs.length:=by omega
 rcases zf0 ho with ⟨_,_,_,h0,_⟩ | ⟨g,cur,rfl,_,hb,hnc,hcm,hl,ht⟩
 ·omega
 clear hcap
 have hA:cur.take (k * 5)=(vs.take k).flatMap zae:=by
  rw [← zid zak,← ht,List.take_take,Nat.min_eq_left (by omega)]
 have hB:((vs.drop k).flatMap zae).length=(vs.length - k) * 5:=by rw [zas zak,List.length_drop]
 have hX:(zae x).length=5:=rfl
 have hcB:∀ j v,((vs.drop k).flatMap zae)[j]?=some v→cur[k * 5+j]?=some v:=fun j v hj=>by
  rw [← ziw zak,List.getElem?_drop,← ht,List.getElem?_take] at hj;split at hj
  ·exact hj
  ·cases hj
 have hfin:(vs.length+1) * 5=k * 5+(zae x).length+((vs.drop k).flatMap zae).length:=by rw [hX,hB];omega
 have hk1:(k+1) * 5=k * 5+(zae x).length:=by rw [hX];omega
 have hflat:(vs.take k++x::vs.drop k).flatMap zae=(vs.take k).flatMap zae++zae x++(vs.drop k).flatMap zae:=by simp
 have hlen:(vs.take k++x::vs.drop k).length=vs.length+1:=by simp;omega
 have hgf:∀ n' c' (xs:List NoteV),(zaf 350 5 zae (.slice (some ⟨g,0,none⟩) n' c') xs).foot=[g]:=fun n' c' xs=>by simp [zaf,own,Value.ownBlock]
 have hne:g≠b:=fun h=>hS.apartAt 0 1 rfl rfl (by decide) g (by rw [hgf];exact List.mem_singleton.2 rfl) (by rw [h];exact List.mem_singleton.2 rfl)
 replace hS:St w (inF [zaf 350 5 zae (.slice (some ⟨g,0,none⟩) vs.length c) vs,blk b 350 (zae x)]) w [blk g 350 cur,blk b 350 (zae x)] :=
  hS.upd 0 rfl (T:=No) (Ext.refl _ _) (fun _ h=>h.elim) (zab _ _ _) hb (fun d hd=>.inl (by rw [hgf];exact hd))
 conv=>whnf
 refine rgO ?_;(conv=>whnf);refine brD (fun h3=>?_) (fun h3=>?_)
 ·(conv=>whnf)
  refine ztV Tryz.underlying160 (by kernel_rfl) rfl (by omega) ?_;(conv=>whnf);refine rgO ?_;(conv=>whnf);refine rgO ?_;(conv=>whnf);refine zr8 (sz:=5) (bytes:=56) (m:=vs.length+1 - k) (cur:=cur) Tryz.underlying160 Tryz.underlying3 (by kernel_rfl) (z:=.agg (zae zcx).toArray) (by kernel_rfl) rfl (hS.blk 0 rfl) (by omega) hl (by omega) (by omega) (by omega) (by omega) (by unfold maxLen;omega) (by omega) (fun G cap' Z w1 hx1 hG hB1 hc1 hc2 hl1=>?_);replace hS:=hS.made hx1 (zab _ _ _) hB1 (by simp [blk];exact ⟨hG,hB1.lt⟩);rw [hA] at hS hB1 hl1;rw [show k+(vs.length+1 - k)=vs.length+1 by omega]
  have hA1:((vs.take k).flatMap zae++Z).take (k * 5)=(vs.take k).flatMap zae:=by
   rw [List.take_append_of_le_length (by rw [zas zak,List.length_take];omega),List.take_of_length_le (by rw [zas zak,List.length_take];omega)]
  generalize (vs.take k).flatMap zae++Z=cur1 at hS hl1 hA1;clear hx1 hB1;(conv=>whnf);refine zkK (j:=k) (sz:=5) Tryz.underlying160 (by kernel_rfl) (by kernel_rfl) rfl (by omega) ?_;rw [if_neg (by omega)];(conv=>whnf);refine ziR (sz:=5) (cur:=cur1) (news:=zae x) Tryz.underlying160 (by kernel_rfl) (hS.blk 2 rfl) (zdk (hS.blk 1 rfl) (fun j v hj=>by rw [Nat.zero_add];exact hj)) (by rw [show Nat.min 1 (vs.length+1 - k)=1 from Nat.min_eq_left (by omega)];rfl) rfl (by rw [hX,hl1];omega) ?_;replace hS:=hS.setB 2 rfl (zaO cur1 (0+k * 5) (zae x));(conv=>whnf)
  (refine zah tabOk mixed [] (fun b=>b=G) [0,1,2,3,4,5,6,7,8] (by kernel_rfl) ?_;rintro w1 rfl;replace hS:=hS.drew)
  have hK:=hS.ref (fun b=>b=G);(conv=>whnf);refine rgO ?_;(conv=>whnf);refine zkK (j:=k+1) (sz:=5) Tryz.underlying160 (by kernel_rfl) (by kernel_rfl) (by omega) (by omega) ?_;(conv=>whnf);refine zkK (j:=k) (sz:=5) Tryz.underlying160 (by kernel_rfl) (by kernel_rfl) rfl (by omega) ?_;rw [if_neg (by omega),if_neg (by omega)];(conv=>whnf);have hl2:(zaO cur1 (0+k * 5) (zae x)).length=cap' * 5:=by rw [zcD (by rw [hX,hl1];omega),hl1]
  refine ziR (sz:=5) (cur:=zaO cur1 (0+k * 5) (zae x)) (news:=(vs.drop k).flatMap zae) Tryz.underlying160 (by kernel_rfl) (hS.blk 2 rfl) (zdk (hS.blk 0 rfl) (fun j v hj=>by rw [Nat.zero_add];exact hcB j v hj)) (by rw [hB];congr 1;rw [show vs.length+1 - (k+1)=vs.length - k by omega];exact (Nat.min_self _).symm) (zdH zak _) (by rw [hB,hl2];omega) ?_;replace hK:=hK.trans (Ext.set (S:=fun b=>b=G) (b:=G) rfl 350 (zaO (zaO cur1 (0+k * 5) (zae x)) (0+(k+1) * 5) ((vs.drop k).flatMap zae)));refine KeepC.mk hK ?_;replace hS:=hS.setB 2 rfl (zaO (zaO cur1 (0+k * 5) (zae x)) (0+(k+1) * 5) ((vs.drop k).flatMap zae));repeat' ((conv=>whnf);first|apply RetC.mk|refine rgO ?_|refine ixO ?_|(first|apply brD|apply zad|apply brN|apply brI)<;>(intro))
  have hrow:=zlC (sz:=5) (n:=vs.length+1) (cap:=cap') (xs:=(vs.take k++x::vs.drop k).flatMap zae) (hS.blk 2 rfl) (by omega) hc2 (by rw [zcD (by rw [hB,hl2];omega),hl2]) (by
   rw [Nat.zero_add,Nat.zero_add,hfin,hk1,zpf (by rw [hX,hB,hl1];omega),hA1,hflat])
  have hS2:=(hS.upd 2 rfl (e':=zaf 350 5 zae (.slice (some ⟨G,0,none⟩) (vs.length+1) cap') (vs.take k++x::vs.drop k)) (T:=No) (Ext.refl _ _) (fun _ h=>h.elim) zaj (by unfold zaf;rw [hlen];exact hrow) (fun d hd=>.inl (by rw [show (zaf 350 5 zae (.slice (some ⟨G,0,none⟩) (vs.length+1) cap') (vs.take k++x::vs.drop k)).foot=[G] by simp [zaf,own,Value.ownBlock]] at hd;exact hd))).sel [2,1] (by decide);exact ⟨_,_,rfl,St.turns hS2⟩
 ·(conv=>whnf)
  refine rgO ?_;(conv=>whnf);refine ztV (j:=vs.length+1) Tryz.underlying160 (by kernel_rfl) (by omega) (by omega) ?_;(conv=>whnf);refine rgO ?_;(conv=>whnf);refine zkK (j:=k+1) (sz:=5) Tryz.underlying160 (by kernel_rfl) (by kernel_rfl) (by omega) (by omega) ?_;(conv=>whnf);refine CallC.extern (znP (hS.blk 1 rfl) (hS.blk 0 rfl) (Ne.symm hne) (by rw [hl];omega)) ?_;(conv=>whnf)
  (refine zah tabOk mixed [] (fun b=>b=g) [0,1,2,3,4,5,6,7,8] (by kernel_rfl) ?_;rintro w1 rfl;replace hS:=hS.drew)
  have hK:=hS.ref (fun b=>b=g);(conv=>whnf);refine rgO ?_;(conv=>whnf);refine zkK (j:=k+1) (sz:=5) Tryz.underlying160 (by kernel_rfl) (by kernel_rfl) (by omega) (by omega) ?_;(conv=>whnf);refine zkK (j:=k) (sz:=5) Tryz.underlying160 (by kernel_rfl) (by kernel_rfl) rfl (by omega) ?_;rw [if_neg (by omega)];have hof:(if c=k+1 then 0 else 0+(k+1) * 5)=0+(k+1) * 5:=if_neg (by omega);rw [hof];(conv=>whnf);refine ziR (sz:=5) (cur:=cur) (news:=(vs.drop k).flatMap zae) Tryz.underlying160 (by kernel_rfl) (hS.blk 0 rfl) (zdk (hS.blk 0 rfl) (fun j v hj=>by rw [Nat.zero_add];exact hcB j v hj)) (by rw [hB];congr 1;rw [show vs.length+1 - (k+1)=vs.length - k by omega];exact (Nat.min_eq_right (by omega)).symm) (zdH zak _) (by rw [hB,hl];omega) ?_;replace hK:=hK.trans (Ext.set (S:=fun b=>b=g) (b:=g) rfl 350 (zaO cur (0+(k+1) * 5) ((vs.drop k).flatMap zae)));refine KeepC.mk hK ?_;replace hS:=hS.setB 0 rfl (zaO cur (0+(k+1) * 5) ((vs.drop k).flatMap zae));have hl2:(zaO cur (0+(k+1) * 5) ((vs.drop k).flatMap zae)).length=c * 5:=by rw [zcD (by rw [hB,hl];omega),hl]
  (conv=>whnf);refine zkK (j:=k) (sz:=5) Tryz.underlying160 (by kernel_rfl) (by kernel_rfl) rfl (by omega) ?_;rw [if_neg (by omega)];(conv=>whnf);refine ziR (sz:=5) (cur:=zaO cur (0+(k+1) * 5) ((vs.drop k).flatMap zae)) (news:=zae x) Tryz.underlying160 (by kernel_rfl) (hS.blk 0 rfl) (zdk (hS.blk 1 rfl) (fun j v hj=>by rw [Nat.zero_add];exact hj)) (by rw [show Nat.min 1 (vs.length+1 - k)=1 from Nat.min_eq_left (by omega)];rfl) rfl (by rw [hX,hl2];omega) ?_;replace hS:=hS.setB 0 rfl (zaO (zaO cur (0+(k+1) * 5) ((vs.drop k).flatMap zae)) (0+k * 5) (zae x));repeat' ((conv=>whnf);first|apply RetC.mk|refine rgO ?_|refine ixO ?_|(first|apply brD|apply zad|apply brN|apply brI)<;>(intro))
  have hrow:=zlC (sz:=5) (n:=vs.length+1) (cap:=c) (xs:=(vs.take k++x::vs.drop k).flatMap zae) (hS.blk 0 rfl) (by omega) hcm (by rw [zcD (by rw [hX,hl2];omega),hl2]) (by
   rw [Nat.zero_add,Nat.zero_add,hfin,hk1,zr6 (by rw [hX,hB,hl];omega),hA,hflat])
  have hS2:=hS.upd 0 rfl (e':=zaf 350 5 zae (.slice (some ⟨g,0,none⟩) (vs.length+1) c) (vs.take k++x::vs.drop k)) (T:=No) (Ext.refl _ _) (fun _ h=>h.elim) zaj (by unfold zaf;rw [hlen];exact hrow) (fun d hd=>.inl (by rw [hgf] at hd;exact hd));exact ⟨_,_,rfl,St.turns hS2⟩
end
theorem Ev.inF_perm {H H':List Ent}(hp:H.Perm H') {b:Nat}(h:inF H b):inF H' b:=by
 obtain ⟨e,he,hb⟩:=h;exact ⟨e,hp.mem_iff.1 he,hb⟩
theorem Ev.St.perm {w0 w:World}{S:Nat→Prop}{H H':List Ent}(h:St w0 S w H) (hp:H.Perm H'):St w0 S w H' :=
 ⟨h.ext,fun e he=>h.each e (hp.mem_iff.2 he),fun e he=>h.loc e (hp.mem_iff.2 he),fun e he=>h.may e (hp.mem_iff.2 he),(hp.pairwise_iff (fun {a b} h=>zcc a b h)).1 h.apart⟩
theorem Ev.Has.perm {w:World}{H H':List Ent}(h:Has w H) (hp:H.Perm H'):Has w H' :=
 ⟨fun e he=>h.each e (hp.mem_iff.2 he),fun e he=>h.loc e (hp.mem_iff.2 he),fun e he=>h.lt e (hp.mem_iff.2 he),(hp.pairwise_iff (fun {a b} h=>zcc a b h)).1 h.apart⟩
theorem Ev.Turns.perm {w w':World}{H H' G G':List Ent}(k:Turns w w' H G) (hp:H.Perm H') (hq:G.Perm G'):Turns w w' H' G' :=
 ⟨k.ext.mono fun _ hb=>inF_perm hp hb,k.has.perm hq,fun e he b hb=>(k.foot e (hq.mem_iff.2 he) b hb).imp (inF_perm hp) id⟩
theorem High.turns {w w':World}{H H':List Ent}{q:Nat}(h:High H q) (hq:q≤w.heap.size) (k:Turns w w' H H'):High H' q:=fun b ⟨e,he,hb⟩=>(k.foot e he b hb).elim (h b) (fun g=>Nat.le_trans hq g)
theorem High.perm {H H':List Ent}{q:Nat}(h:High H q) (hp:H.Perm H'):High H' q:=fun b hb=>h b (inF_perm hp.symm hb)
theorem High.app {A B:List Ent}{q:Nat}(h:High (A++B) q):High A q∧High B q:=⟨fun b hb=>h b (inF_app.2 (.inl hb)),fun b hb=>h b (inF_app.2 (.inr hb))⟩
theorem Errs.turns {w w':World}{E:Nat→Addr}{q:Nat}{ks:List Nat}{H H':List Ent}(h:Errs w E q ks) (hH:High H q) (k:Turns w w' H H'):Errs w' E q ks:=h.ext k.ext hH
theorem zjY {w:World}{H:List Ent}{q b:Nat}(hH:High H q) (hw:Has w H) (hb:inF H b):q≤w.heap.size:=by
 have h1:=hH b hb;obtain ⟨e,he,hb⟩:=hb;have h2:=hw.lt e he b hb;omega

structure SideA where
 s:Nat
 A:NodeA
structure WorldA where
 w:Nat
 a:SideA
 b:SideA
 ra:Option Addr
 rc:Nat
 fa:Option Addr
 fc:Nat
 vs:List NoteV
 ea:Option Addr
 ec:Nat
def WorldA.side (X:WorldA) (n:Int):SideA:=if n=0 then X.a else X.b
def WorldA.setSide (X:WorldA) (n:Int) (Y:SideA):WorldA:=if n=0 then { X with a:=Y } else { X with b:=Y }
def ztz (Y:SideA) (s:SideS):Option Addr:=match s.node with|some _=>some ⟨Y.A.n,0,none⟩|none=>none
def zcg (Y:SideA) (s:SideS):List Value:=[.pointer (ztz Y s),.pointer (some ⟨Y.A.b,0,none⟩)]
def ze6 (X:WorldA) (W:WorldS):List Value:=[.pointer (some ⟨X.a.s,0,none⟩),.pointer (some ⟨X.b.s,0,none⟩),.slice X.ra W.rules.length X.rc,.slice X.fa W.fly.length X.fc,.int .i64 W.to,.int .i64 W.epoch,.slice X.ea W.events.length X.ec]
def zbG (e:Int × Int):List Value:=[.int .i64 e.1,.int .i64 e.2]
theorem zkF:Codec 2 zbG:=⟨fun _=>rfl,fun _=>rfl,by decide⟩
def zdM (Y:SideA) (s:SideS):List Ent:=match s.node with
 | some N=>zaU Y.A N s.byt
 | none=>[blk Y.A.b 253 (zaE s.byt)]
def zc5 (X:WorldA) (W:WorldS) (Y Z:SideA) (s t:SideS):List Ent:=[blk X.w 162 (ze6 X W),blk Y.s 169 (zcg Y s),blk Z.s 169 (zcg Z t),zaf 98 5 zal (.slice X.ra W.rules.length X.rc) W.rules,zaf 350 5 zae (.slice X.fa W.fly.length X.fc) X.vs,zat X.vs W.fly,zaf 157 2 zbG (.slice X.ea W.events.length X.ec) W.events]
def zag (X:WorldA) (W:WorldS):List Ent:=zc5 X W X.a X.b W.a W.b++(zdM X.a W.a++zdM X.b W.b)
def ziM (X:WorldA) (W:WorldS) (n:Int):List Ent:=zc5 X W (X.side n) (X.side (1 - n)) (W.side n) (W.side (1 - n))++(zdM (X.side n) (W.side n)++zdM (X.side (1 - n)) (W.side (1 - n)))
theorem zdX (X:WorldA) (W:WorldS) {n:Int}(hn:n=0∨n=1):(zag X W).Perm (ziM X W n):=by
 rcases hn with rfl|rfl
 ·exact List.Perm.refl _
 ·unfold zag ziM;refine List.Perm.append ?_ List.perm_append_comm;exact List.Perm.cons _ (List.Perm.swap _ _ _)
section
variable {w w' : World} {X : WorldA} {W : WorldS}
structure Stands (E:Nat→Addr) (q m:Nat) (w:World) (X:WorldA) (W:WorldS):Prop where
 has:Has w (zag X W)
 ok:WOk m W
 errs:Errs w E q zfU
 high:High (zag X W) q
variable {E : Nat → Addr} {q m : Nat}
theorem Stands.size (h:Stands E q m w X W):q≤w.heap.size:=zjY h.high h.has (b:=X.w) ⟨_,List.mem_of_getElem? (i:=0) rfl,List.mem_singleton.2 rfl⟩
theorem Stands.turns {m':Nat}{X':WorldA}{W':WorldS}(h:Stands E q m w X W) (k:Turns w w' (zag X W) (zag X' W')) (ok:WOk m' W'):Stands E q m' w' X' W' :=
 ⟨k.has,ok,h.errs.turns h.high k,h.high.turns h.size k⟩
theorem Stands.no (h:Stands E q m w X W) (hx:Ext No w w'):Stands E q m w' X W:=h.turns (Turns.of_no h.has hx) h.ok
theorem Stands.view (h:Stands E q m w X W) {n:Int}(hn:n=0∨n=1):Has w (ziM X W n)∧High (ziM X W n) q:=⟨h.has.perm (zdX X W hn),h.high.perm (zdX X W hn)⟩
theorem Turns.unview {n:Int}(hn:n=0∨n=1) {X':WorldA}{W':WorldS}(k:Turns w w' (ziM X W n) (ziM X' W' n)):Turns w w' (zag X W) (zag X' W'):=k.perm (zdX X W hn).symm (zdX X' W' hn).symm
theorem Ev.Turns.frame {A B R:List Ent}(h:Has w (A++R)) (k:Turns w w' A B):Turns w w' (A++R) (B++R):=(h.start.call k).turns
def zb3 (X:WorldA) (W:WorldS) (n:Int):List Ent:=zc5 X W (X.side n) (X.side (1 - n)) (W.side n) (W.side (1 - n))++zdM (X.side n) (W.side n)
theorem zfp (X:WorldA) (W:WorldS) (n:Int):ziM X W n=zb3 X W n++zdM (X.side (1 - n)) (W.side (1 - n)):=by
 unfold ziM zb3;rw [List.append_assoc]
theorem Stands.half (h:Stands E q m w X W) {n:Int}(hn:n=0∨n=1):Has w (zb3 X W n)∧High (zb3 X W n) q:=by
 obtain ⟨h1,h2⟩:=h.view hn;rw [zfp] at h1 h2;exact ⟨h1.left,h2.app.1⟩
theorem Turns.world (h:Has w (zag X W)) {n:Int}(hn:n=0∨n=1) {X':WorldA}{W':WorldS}(k:Turns w w' (zb3 X W n) (zb3 X' W' n)) (hx:X'.side (1 - n)=X.side (1 - n)) (hw:W'.side (1 - n)=W.side (1 - n)):Turns w w' (zag X W) (zag X' W'):=by
 have h1:=h.perm (zdX X W hn);rw [zfp] at h1;refine Turns.unview hn ?_;rw [zfp,zfp,hx,hw];exact Turns.frame h1 k
theorem ziZ {n:Int}(hn:n=0∨n=1) (Y:SideA) (s:SideS):(X.setSide n Y).side n=Y∧(X.setSide n Y).side (1 - n)=X.side (1 - n)∧(W.setSide n s).side n=s∧(W.setSide n s).side (1 - n)=W.side (1 - n):=by
 rcases hn with rfl|rfl<;>exact ⟨rfl,rfl,rfl,rfl⟩
theorem zmk {n:Int}(hn:n=0∨n=1) {Y:SideA}(hY:Y.s=(X.side n).s) (s:SideS):zb3 (X.setSide n Y) (W.setSide n s) n=zc5 X W Y (X.side (1 - n)) s (W.side (1 - n))++zdM Y s:=by
 rcases hn with rfl|rfl
 ·show _++_=_++_;congr 1;show [blk X.w 162 [.pointer (some ⟨Y.s,0,none⟩),_,_,_,_,_,_],_,_,_,_,_,_]=_;rw [hY];rfl
 ·show _++_=_++_;congr 1;show [blk X.w 162 [_,.pointer (some ⟨Y.s,0,none⟩),_,_,_,_,_],_,_,_,_,_,_]=_;rw [hY];rfl
theorem Turns.side (h:Has w (zag X W)) {n:Int}(hn:n=0∨n=1) {Y:SideA}(hY:Y.s=(X.side n).s) {s:SideS}(k:Turns w w' (zb3 X W n) (zc5 X W Y (X.side (1 - n)) s (W.side (1 - n))++zdM Y s)):Turns w w' (zag X W) (zag (X.setSide n Y) (W.setSide n s)):=by
 rw [← zmk hn hY s] at k;exact Turns.world h hn k (ziZ (W:=W) hn Y s).2.1 (ziZ (X:=X) hn Y s).2.2.2
theorem Stands.of_half (h:Stands E q m w X W) {n:Int}(hn:n=0∨n=1) (k:Turns w w' (zb3 X W n) (zb3 X W n)):Stands E q m w' X W:=h.turns (Turns.world h.has hn k rfl rfl) h.ok
theorem Ev.St.notin {w0 w:World}{S:Nat→Prop}{L:List Ent}(h:St w0 S w L) (i p n:Nat) {e:Ent}{b:Nat}(hi:L[i]?=some e) (hb:b∈e.foot) (hp:i < p∨p+n≤i):¬ inF ((L.drop p).take n) b:=by
 rintro ⟨f,hf,hbf⟩;obtain ⟨j,hj⟩:=List.getElem?_of_mem hf;rw [List.getElem?_take] at hj;split at hj
 ·rw [List.getElem?_drop] at hj;exact h.apartAt i (p+j) hi hj (by omega) b hb hbf
 ·cases hj
end
section
variable {w w' : World} {X : WorldA} {W : WorldS} {E : Nat → Addr} {q m : Nat}
theorem zcr {Y:SideA}{s:SideS}{N:NodeS}(h:s.node=some N):zcg Y s=[.pointer (some ⟨Y.A.n,0,none⟩),.pointer (some ⟨Y.A.b,0,none⟩)]:=by
 unfold zcg ztz;rw [h]
theorem zd9 {Y:SideA}{s:SideS}(h:s.node=none):zcg Y s=[.pointer none,.pointer (some ⟨Y.A.b,0,none⟩)]:=by
 unfold zcg ztz;rw [h]
theorem znC {Y:SideA}{s:SideS}{N:NodeS}(h:s.node=some N):zdM Y s=zaU Y.A N s.byt:=by
 unfold zdM;rw [h]
theorem znG {Y:SideA}{s:SideS}(h:s.node=none):zdM Y s=[blk Y.A.b 253 (zaE s.byt)]:=by
 unfold zdM;rw [h]
theorem zbr {n:Int}{N:NodeS}(hn:n=0∨n=1) (h:(W.side n).node=some N):W.upErr n=0:=by
 unfold WorldS.upErr;rw [if_neg (by omega),h]
theorem zbC {n:Int}(hn:n=0∨n=1) (h:(W.side n).node=none):W.upErr n=7:=by
 unfold WorldS.upErr;rw [if_neg (by omega),h]
theorem zgX (n:Int) (h:Stands E q m w X W):CallC Tryz.prog 225 #[.pointer (some ⟨X.w,0,none⟩),.int .i64 n] w fun v w'=>v = .tuple #[.pointer (if W.upErr n=0 then some ⟨(X.side n).s,0,none⟩ else none),zc9 E (W.upErr n)]∧Ext No w w':=by
 by_cases hn:n=0∨n=1
 ·obtain ⟨hV,hQ⟩:=h.view hn;have hqF:∀ b,inF (ziM X W n) b→q≤b:=hQ;cases hN:(W.side n).node with
  | none =>
   rw [zbC hn hN,if_neg (by decide)];rcases hn with rfl|rfl
   all_goals
    refine zaa tabOk Tryz.func225 (by kernel_rfl) rfl Tryz.ntmps225 (lbO rfl) ?_;have hS:=hV.start;(conv=>whnf);refine IdxC.mk (by decide) (by decide) ?_;(conv=>whnf);refine hS.ld 0 rfl rfl ?_;(conv=>whnf);refine hS.ld 1 rfl (v:=.pointer none) (by rw [zd9 hN];rfl) ?_;(conv=>whnf)
    (refine zah tabOk mixed [] No [0,1,2] (by kernel_rfl) ?_;rintro w1 rfl;replace hS:=hS.drew)
    repeat' ((conv=>whnf);first|apply RetC.mk|refine rgO ?_|refine ixO ?_|refine hS.ldrF (h.errs.at_ 7 rfl) (Errs.out h.errs 7 rfl hqF) id ?_|(first|apply brD|apply zad|apply brN|apply brI)<;>(intro))
    exact ⟨rfl,Ext.drawn _ _ _⟩
  | some N =>
   rw [zbr hn hN,if_pos rfl];rcases hn with rfl|rfl
   all_goals
    refine zaa tabOk Tryz.func225 (by kernel_rfl) rfl Tryz.ntmps225 (lbO rfl) ?_;have hS:=hV.start;(conv=>whnf);refine IdxC.mk (by decide) (by decide) ?_;(conv=>whnf);refine hS.ld 0 rfl rfl ?_;(conv=>whnf);refine hS.ld 1 rfl (v:=.pointer (some ⟨(X.side _).A.n,0,none⟩)) (by rw [zcr hN];rfl) ?_;(conv=>whnf);refine IdxC.mk (by decide) (by decide) ?_;(conv=>whnf);refine hS.ld 0 rfl rfl ?_;repeat' ((conv=>whnf);first|apply RetC.mk|refine rgO ?_|refine ixO ?_|(first|apply brD|apply zad|apply brN|apply brI)<;>(intro))
    exact ⟨rfl,Ext.refl _ _⟩
 ·have hu:W.upErr n=2:=if_pos (by omega);rw [hu,if_neg (by decide)];have hqF:∀ b,inF (zag X W) b→q≤b:=h.high;refine zaa tabOk Tryz.func225 (by kernel_rfl) rfl Tryz.ntmps225 (lbO rfl) ?_;have hS:=h.has.start;(conv=>whnf);refine zad (fun h1=>?_) (fun h1=>absurd (.inl h1) hn);(conv=>whnf);refine zad (fun h1=>?_) (fun h1=>absurd (.inr h1) hn);(conv=>whnf)
  (refine zah tabOk mixed [] No [0,1,2] (by kernel_rfl) ?_;rintro w1 rfl;replace hS:=hS.drew)
  repeat' ((conv=>whnf);first|apply RetC.mk|refine rgO ?_|refine ixO ?_|refine hS.ldrF (h.errs.at_ 2 rfl) (Errs.out h.errs 2 rfl hqF) id ?_|(first|apply brD|apply zad|apply brN|apply brI)<;>(intro))
  exact ⟨rfl,Ext.drawn _ _ _⟩
theorem ztn (h:Has w (zag X W)):CallC Tryz.prog 154 #[.pointer (some ⟨X.w,0,none⟩)] w fun v w'=>v = .int .i64 (W.fly.length:Nat)∧w=w':=by
 refine zaa tabOk Tryz.func154 (by kernel_rfl) rfl Tryz.ntmps154 (lbO rfl) ?_;have hS:=h.start;(conv=>whnf);refine hS.ld 0 rfl rfl ?_;repeat' ((conv=>whnf);first|apply RetC.mk|refine rgO ?_|refine ixO ?_|(first|apply brD|apply zad|apply brN|apply brI)<;>(intro))
 exact ⟨rfl,rfl⟩
theorem znO (h:Has w (zag X W)):CallC Tryz.prog 159 #[.pointer (some ⟨X.w,0,none⟩)] w fun v w'=>v = .tuple #[.int .i64 W.to,.int .i64 W.epoch]∧Ext No w w':=by
 refine zaa tabOk Tryz.func159 (by kernel_rfl) rfl Tryz.ntmps159 (lbO rfl) ?_;have hS:=h.start;(conv=>whnf)
 (refine zah tabOk mixed [] No [0,1,2,3,4,5,6,7,8,9] (by kernel_rfl) ?_;rintro w1 rfl;replace hS:=hS.drew)
 repeat' ((conv=>whnf);first|apply RetC.mk|refine rgO ?_|refine ixO ?_|refine hS.ldF 0 rfl rfl id ?_|(first|apply brD|apply zad|apply brN|apply brI)<;>(intro))
 exact ⟨rfl,Ext.drawn _ _ _⟩
theorem zmu (n:Int) (h:Stands E q m w X W):CallC Tryz.prog 156 #[.pointer (some ⟨X.w,0,none⟩),.int .i64 n] w fun v w'=>v = .tuple #[.pointer (if W.upErr n=0 then some ⟨(X.side n).A.n,0,none⟩ else none),zc9 E (W.upErr n)]∧Ext No w w':=by
 refine zaa tabOk Tryz.func156 (by kernel_rfl) rfl Tryz.ntmps156 (lbO rfl) ?_;(conv=>whnf);refine (zgX n h).mono ?_;rintro v w1 ⟨rfl,hx⟩;by_cases hu:W.upErr n=0
 ·obtain ⟨hn,N,hN⟩:=zcE hu;rw [hu,if_pos rfl,if_pos rfl];have hS:=((h.view hn).1.read hx).start;(conv=>whnf);refine hS.ld 1 rfl (v:=.pointer (some ⟨(X.side n).A.n,0,none⟩)) (by rw [zcr hN];rfl) ?_;repeat' ((conv=>whnf);first|apply RetC.mk|refine rgO ?_|refine ixO ?_|(first|apply brD|apply zad|apply brN|apply brI)<;>(intro))
  exact ⟨rfl,hx⟩
 ·rw [if_neg hu,if_neg hu];obtain ⟨j,hj⟩:∃ j,W.upErr n=j+1:=⟨W.upErr n - 1,by omega⟩;rw [hj];repeat' ((conv=>whnf);first|apply RetC.mk|refine rgO ?_|refine ixO ?_|(first|apply brD|apply zad|apply brN|apply brI)<;>(intro))
  exact ⟨rfl,hx⟩
theorem zgF (h:Stands E q m w X W):CallC Tryz.prog 133 #[.pointer (some ⟨X.w,0,none⟩)] w fun v w'=>v = .tuple #[.pointer (if W.handErr=0 then some ⟨(X.side W.to).s,0,none⟩ else none),zc9 E W.handErr]∧Ext No w w':=by
 have hqF:∀ b,inF (zag X W) b→q≤b:=h.high;refine zaa tabOk Tryz.func133 (by kernel_rfl) rfl Tryz.ntmps133 (lbO rfl) ?_;have hS:=h.has.start;(conv=>whnf);refine hS.ld 0 rfl rfl ?_;(conv=>whnf);refine brD (fun h1=>?_) (fun h1=>?_)
 ·have hu:W.handErr=4:=if_pos h1;rw [hu,if_neg (by decide)];(conv=>whnf)
  (refine zah tabOk mixed [] No [0,1,2] (by kernel_rfl) ?_;rintro w1 rfl;replace hS:=hS.drew)
  repeat' ((conv=>whnf);first|apply RetC.mk|refine rgO ?_|refine ixO ?_|refine hS.ldrF (h.errs.at_ 4 rfl) (Errs.out h.errs 4 rfl hqF) id ?_|(first|apply brD|apply zad|apply brN|apply brI)<;>(intro))
  exact ⟨rfl,Ext.drawn _ _ _⟩
 ·have hu:W.handErr=W.upErr W.to:=if_neg h1;rw [hu];(conv=>whnf);refine hS.ld 0 rfl rfl ?_;(conv=>whnf);refine (zgX W.to h).mono ?_;rintro v w1 ⟨rfl,hx⟩;repeat' ((conv=>whnf);first|apply RetC.mk|refine rgO ?_|refine ixO ?_|(first|apply brD|apply zad|apply brN|apply brI)<;>(intro))
  exact ⟨rfl,hx⟩
theorem zpl (k:Int) (h:Stands E q m w X W):CallC Tryz.prog 233 #[.pointer (some ⟨X.w,0,none⟩),.int .i64 k] w fun v w'=>v=zc9 E (W.at_ k)∧Ext No w w':=by
 have hqF:∀ b,inF (zag X W) b→q≤b:=h.high;refine zaa tabOk Tryz.func233 (by kernel_rfl) rfl Tryz.ntmps233 (lbO rfl) ?_;have hS:=h.has.start;(conv=>whnf);refine brD (fun h1=>?_) (fun h1=>?_)
 ·have hu:W.at_ k=4:=if_pos (.inl h1);rw [hu];repeat' ((conv=>whnf);first|apply RetC.mk|refine rgO ?_|refine ixO ?_|refine hS.ldr (h.errs.at_ 4 rfl) (Errs.out h.errs 4 rfl hqF) ?_|(first|apply brD|apply zad|apply brN|apply brI)<;>(intro))
  exact ⟨rfl,Ext.refl _ _⟩
 conv=>whnf
 refine hS.ld 0 rfl rfl ?_;(conv=>whnf);refine brD (fun h2=>?_) (fun h2=>?_)
 ·have hu:W.at_ k=4:=if_pos (.inr h2);rw [hu];repeat' ((conv=>whnf);first|apply RetC.mk|refine rgO ?_|refine ixO ?_|refine hS.ldr (h.errs.at_ 4 rfl) (Errs.out h.errs 4 rfl hqF) ?_|(first|apply brD|apply zad|apply brN|apply brI)<;>(intro))
  exact ⟨rfl,Ext.refl _ _⟩
 ·have hu:W.at_ k=0:=if_neg (by omega);rw [hu];repeat' ((conv=>whnf);first|apply RetC.mk|refine rgO ?_|refine ixO ?_|(first|apply brD|apply zad|apply brN|apply brI)<;>(intro))
  exact ⟨rfl,Ext.refl _ _⟩
end
end Go.Proofs.YtogjajjdaoihdaaGreatDoor
