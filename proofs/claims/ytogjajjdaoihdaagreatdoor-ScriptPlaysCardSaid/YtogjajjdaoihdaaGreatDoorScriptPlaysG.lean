/-
  Texts of this claim, joined: RefNode, RefRole, RefNodeT, RefNodeN, NodeL, LawW, RWorldH, RWorldA, RWorldB, RWorldC, RWorldD.
-/
import Derived.Test.YtogjajjdaoihdaaGreatDoorScriptPlaysF

namespace Go.Proofs.YtogjajjdaoihdaaGreatDoor
set_option maxRecDepth 20000
open Go Ev

structure RNodeA where
 n:Nat
 r:Nat
 c:Nat
 t:Nat
 tg:Nat
 tc:Nat
 x:Nat
 xg:Nat
 xc:Nat
 m:Nat
 mg:Nat
 mc:Nat
 b:Nat
 ra:Option Addr
 rc:Nat
def zu9 (A:RNodeA) (N:NodeS):List Value:=[.int .i64 N.id,.int .i64 N.now,.pointer (some ⟨A.c,0,none⟩),.pointer (some ⟨A.r,0,none⟩),.pointer (some ⟨A.t,0,none⟩),.pointer (some ⟨A.x,0,none⟩),.pointer (some ⟨A.m,0,none⟩),.slice A.ra N.rules.length A.rc]
def zan (A:RNodeA) (N:NodeS) (R:RBy):List Ent:=[blk A.n 128 (zu9 A N),blk A.r 121 (za0 N.role),blk A.c 137 (zdl A.b N.cell),zb4 A.t A.tg A.tc N.tab,zew A.t A.x A.xg A.xc N.tel,zjz A.m A.mg A.mc N.mir,blk A.b 194 (zcv R)]
section
variable {w : World} {A : RNodeA} {N : NodeS} {R : RBy}
theorem St.neF {w0 w:World}{S:Nat→Prop}{H:List Ent}(h:St w0 S w H) (i j:Nat) {b c:Nat}{t:TypeId}{cs:List Value}{e:Ent}(hi:H[i]?=some (Ev.blk b t cs)) (hj:H[j]?=some e) (hne:i≠j) (hc:c∈e.foot):b≠c:=fun hb=>h.apartAt i j hi hj hne b (List.mem_singleton.2 rfl) (hb ▸ hc)
theorem zmI {m:Nat}(k:Int) (flags:Int) (out:Bool) (hN:Has w (zan A N R)) (hO:NOk m N) (hm:m≤40000000) (hk:N.tab.flowErr k=0) :
  CallC Tryz.prog 192 #[.pointer (some ⟨A.n,0,none⟩),.int .i64 k,.int .i64 flags,.bool out] w fun v w'=>v = .agg (zai (zaD N.tab k)).toArray∧Turns w w' (zan A N R) (zan A (N.pass k flags out) R):=by
 have hin:0≤k∧k < 32:=by
  unfold MirS.flowErr at hk;split at hk
  ·omega
  ·omega
 obtain ⟨c,hc⟩:∃ c,N.tab.cells[k.toNat]?=some c:=⟨_,List.getElem?_eq_getElem (by rw [hO.tab.len];omega)⟩;have hcf:c.f=zaD N.tab k:=by unfold zaD;rw [hc]
 refine zaa tabOk Tryz.func192 (by kernel_rfl) rfl Tryz.ntmps192 (lbO rfl) ?_;have hS:=hN.start;(conv=>whnf);refine hS.new (fun b8 w' hb8 hS=>?_);(conv=>whnf);refine hS.ld 0 rfl rfl ?_;(conv=>whnf);refine ldc (zbQ (hS.get 3 rfl)) ?_;(conv=>whnf);refine ixO ?_;(conv=>whnf);have hca:=zcA (hS.get 3 rfl) hc;refine ⟨zai c.f,rfl,by rw [Nat.zero_add];exact hca.sub 2 rfl,?_⟩;clear hca;(conv=>whnf);refine hS.new (fun b9 w' hb9 hS=>?_);(conv=>whnf);refine hS.st 8 rfl (lbO rfl) rfl (fun w' hS=>?_);replace hS:St w (inF (zan A N R)) w' (zan A N R++[blk b8 207 (zai zay),blk b9 207 (zai c.f)]):=hS;repeat' ((conv=>whnf);first|apply RetC.mk|refine rgO ?_|refine ixO ?_|refine hS.ld 0 rfl rfl ?_|refine hS.ld 1 rfl rfl ?_|refine hS.ld 2 rfl rfl ?_|refine hS.ld 3 rfl rfl ?_|refine hS.ld 4 rfl rfl ?_|refine hS.ld 5 rfl rfl ?_|refine hS.ld 6 rfl rfl ?_|refine hS.ld 7 rfl rfl ?_|refine hS.ld 8 rfl rfl ?_|refine hS.laX 0 rfl rfl ?_|refine hS.laX 1 rfl rfl ?_|refine hS.laX 2 rfl rfl ?_|refine hS.laX 3 rfl rfl ?_|refine hS.laX 4 rfl rfl ?_|refine hS.laX 5 rfl rfl ?_|refine hS.laX 6 rfl rfl ?_|refine hS.laX 7 rfl rfl ?_|refine hS.laX 8 rfl rfl ?_|(refine (zqb c.f.proto c.f.state flags out _).mono ?_;rintro v w3 ⟨rfl,rfl⟩)|(first|apply brD|apply zad|apply brN|apply brI)<;>(intro))
 ·rename_i hg
  have hgone:N.pass k flags out={ N with tab:=(N.tab.drop k).2 }:=by
   unfold NodeS.pass;rw [← hcf,hg]
  rw [hgone];refine (zmK k (hS.get 3 rfl) hO.tab (by omega)).mono ?_;rintro v w' ⟨rfl,hx,hT⟩;replace hS:=hS.upd 3 rfl hx (fun d hd=>by subst hd;simp [zb4]) zbz hT (fun d hd=>.inl hd);(conv=>whnf);refine hS.laX 8 rfl rfl ?_;(conv=>whnf);refine hS.st 7 rfl (lbO rfl) rfl (fun w' hS=>?_);(conv=>whnf);refine hS.laX 7 rfl rfl ?_;repeat' ((conv=>whnf);first|apply RetC.mk|refine rgO ?_|refine ixO ?_|(first|apply brD|apply zad|apply brN|apply brI)<;>(intro))
  exact ⟨by rw [← hcf];rfl,(hS.keep 7).turns⟩
 ·rename_i hg
  have hstay:N.pass k flags out={ N with tab:=(N.tab.setS k (zdS c.f.proto c.f.state flags out).1 (N.now+zc4 c.f.proto (zdS c.f.proto c.f.state flags out).1)).2 }:=by
   unfold NodeS.pass;rw [← hcf,hg]
  rw [hstay];have hn1:=St.neF hS 0 3 rfl rfl (by decide) (c:=A.tg) (by simp [zb4]);have hn2:=St.neF hS 8 3 rfl rfl (by decide) (c:=A.tg) (by simp [zb4]);have htb:=zch c.f.proto (zdS c.f.proto c.f.state flags out).1;have hn0:=hO.n0;have hn9:=hO.n1
  (refine zah tabOk mixed [] (fun b=>b=A.tg) [0,1,2,3,4,5,6,7,8,9,10,11,12,13,14,15] (by kernel_rfl) ?_;rintro w1 rfl;replace hS:=hS.drew)
  have hK:=hS.ref (fun b=>b=A.tg);repeat' ((conv=>whnf);first|refine hS.ldF 0 rfl rfl hn1 ?_|refine hS.ldF 8 rfl rfl hn2 ?_)
  refine (zhf _ _ _).mono ?_;rintro v w3 ⟨rfl,rfl⟩;refine KeepC.mk hK ?_;repeat' ((conv=>whnf);first|apply RetC.mk|refine rgO ?_|refine ixO ?_|(first|apply brD|apply zad|apply brN|apply brI)<;>(intro))
  refine (ztK k _ _ (hS.get 3 rfl) hO.tab (by omega)).mono ?_;rintro v w' ⟨rfl,hx,hT⟩;refine KeepC.mk (hK.trans hx) ?_;replace hS:=hS.upd 3 rfl hx (fun d hd=>by subst hd;simp [zb4]) zbz hT (fun d hd=>.inl hd);(conv=>whnf);refine hS.laX 8 rfl rfl ?_;(conv=>whnf);refine hS.st 7 rfl (lbO rfl) rfl (fun w' hS=>?_);(conv=>whnf);refine hS.laX 7 rfl rfl ?_;repeat' ((conv=>whnf);first|apply RetC.mk|refine rgO ?_|refine ixO ?_|(first|apply brD|apply zad|apply brN|apply brI)<;>(intro))
  exact ⟨by rw [← hcf];rfl,(hS.keep 7).turns⟩
theorem znU {m:Nat}{G:RuleS→Prop}(p:PktS) (hN:Has w (zan A N R)) (hO:NOk m N) (hm:m+1≤40000000) (hr:Slc w 5 zal G A.ra N.rules.length N.rules) (hsrc:0 < N.rules.length→∀ b0 o0,A.ra=some ⟨b0,o0,none⟩→¬ inF (zan A N R) b0) :
  CallC Tryz.prog 104 #[.pointer (some ⟨A.n,0,none⟩),.agg (zao p).toArray] w fun v w'=>v = .tuple #[.agg (zao (N.inside p).2.1).toArray,.int .i64 ((N.inside p).1:Nat)]∧Turns w w' (zan A N R) (zan A (N.inside p).2.2 R):=by
 have hlif:0≤N.tab.life∧N.tab.life≤100000:=by
  have:=hO.lif;have:=hO.id;omega
 have hn0:=hO.n0;have hn9:=hO.n1;refine zaa tabOk Tryz.func104 (by kernel_rfl) rfl Tryz.ntmps104 (lbO rfl) ?_;have hS:=hN.start;(conv=>whnf);refine hS.new (fun bp w' hbp hS=>?_);(conv=>whnf);refine hS.new (fun br w' hbr hS=>?_);replace hS:St w (inF (zan A N R)) w' (zan A N R++[blk bp 41 (zao p),blk br 41 (zao zaP)]):=hS;(conv=>whnf);refine hS.laX 7 rfl rfl ?_;(conv=>whnf);refine (zho p _).mono ?_;rintro v w2 ⟨rfl,hx⟩;replace hS:=hS.no hx;by_cases hp:p.err=0
 case neg =>
  rw [show N.inside p=(p.err,zaP,N) from if_pos hp];(conv=>whnf);refine brD (fun _=>?_) (fun h=>absurd (show (p.err:Int) > 0 by omega) h);repeat' ((conv=>whnf);first|apply RetC.mk|refine rgO ?_|refine ixO ?_|refine hS.st 8 rfl (lbO rfl) rfl (fun w' hS=>?_)|refine hS.laX 8 rfl rfl ?_|(first|apply brD|apply zad|apply brN|apply brI)<;>(intro))
  exact ⟨rfl,(hS.keep 7).turns⟩
 rw [hp];(conv=>whnf);refine hS.ld 0 rfl rfl ?_;(conv=>whnf);refine hS.ld 1 rfl (v:=.bool N.role.active) rfl ?_;cases ha:N.role.active
 ·rw [show N.inside p=(9,zaP,N) by unfold NodeS.inside;rw [if_neg (fun h=>h hp),if_pos ha]];repeat' ((conv=>whnf);first|apply RetC.mk|refine rgO ?_|refine ixO ?_|refine hS.st 8 rfl (lbO rfl) rfl (fun w' hS=>?_)|refine hS.laX 8 rfl rfl ?_|(first|apply brD|apply zad|apply brN|apply brI)<;>(intro))
  exact ⟨rfl,(hS.keep 7).turns⟩
 conv=>whnf
 (refine zah tabOk mixed [] No [0,1,2,3,4,5,6,7,8,9,10,11] (by kernel_rfl) ?_;rintro w1 rfl;replace hS:=hS.drew)
 repeat' ((conv=>whnf);first|refine hS.laXF 7 rfl rfl id ?_|refine hS.ldF 7 rfl rfl id ?_|refine hS.ldF 0 rfl rfl id ?_)
 refine (ziV _ _ _ _ _ (hS.get 3 rfl)).mono ?_;rintro v w4 ⟨rfl,hx⟩;replace hS:=hS.no hx;refine KeepC.mk hx ?_;(conv=>whnf);refine hS.new (fun bf w' hbf hS=>?_);replace hS:St w (inF (zan A N R)) w' (zan A N R++[blk bp 41 (zao p),blk br 41 (zao zaP),blk bf 207 (zai zay)]):=hS;(conv=>whnf);refine brD (fun hf=>?_) (fun hf=>?_)
 ·rw [show N.inside p=(0,⟨p.proto,1,(zaD N.tab (N.tab.find p.proto p.sa p.sp p.da p.dp)).port,p.da,p.dp,p.flags⟩,N.pass (N.tab.find p.proto p.sa p.sp p.da p.dp) p.flags true) by
   unfold NodeS.inside;rw [if_neg (fun h=>h hp),if_neg (by rw [ha];decide),if_pos hf]]
  have herr:=(zbR hO.tab.len (zlt p.proto p.sa p.sp p.da p.dp) hf).1;(conv=>whnf);refine hS.ld 7 rfl rfl ?_;(conv=>whnf);refine (zmI _ p.flags true hS.has.left hO (by omega) herr).mono ?_;rintro v w5 ⟨rfl,ht⟩;replace hS:=St.call hS ht;(conv=>whnf);refine hS.st 9 rfl (lbO rfl) rfl (fun w' hS=>?_);(conv=>whnf);refine hS.ld 9 rfl rfl ?_;(conv=>whnf);refine hS.st 7 rfl (lbO rfl) rfl (fun w' hS=>?_);(conv=>whnf);refine hS.laX 7 rfl rfl ?_;(conv=>whnf);refine hS.st 8 rfl (lbO rfl) rfl (fun w' hS=>?_);(conv=>whnf);refine hS.laX 8 rfl rfl ?_;repeat' ((conv=>whnf);first|apply RetC.mk|refine rgO ?_|refine ixO ?_|(first|apply brD|apply zad|apply brN|apply brI)<;>(intro))
  exact ⟨rfl,(hS.keep 7).turns⟩
 have hI:N.inside p=if (N.begin p).1.2≠0 then ((N.begin p).1.2,zaP,(N.begin p).2) else (0,⟨p.proto,1,(zaD (N.begin p).2.tab (N.begin p).1.1).port,p.da,p.dp,p.flags⟩,(N.begin p).2):=by
  unfold NodeS.inside;rw [if_neg (fun h=>h hp),if_neg (by rw [ha];decide),if_neg hf]
 rw [hI];clear hI;(conv=>whnf)
 (refine zah tabOk mixed [] No [0,1,2,3,4,5,6,7,8,9,10] (by kernel_rfl) ?_;rintro w1 rfl;replace hS:=hS.drew)
 repeat' ((conv=>whnf);first|refine hS.laXF 7 rfl rfl id ?_|refine hS.ldF 7 rfl rfl id ?_|refine hS.ldF 0 rfl rfl id ?_)
 refine (zle (hr.extN hS.ext hsrc) p.proto p.dp true).mono ?_;rintro v w5 ⟨rfl,hx⟩;replace hS:=hS.no hx;refine KeepC.mk hx ?_;cases hA:zbc p.proto p.dp true N.rules
 ·rw [show N.begin p=((0,8),N) from if_pos hA];repeat' ((conv=>whnf);first|apply RetC.mk|refine rgO ?_|refine ixO ?_|refine hS.st 8 rfl (lbO rfl) rfl (fun w' hS=>?_)|refine hS.laX 8 rfl rfl ?_|(first|apply brD|apply zad|apply brN|apply brI)<;>(intro))
  exact ⟨rfl,(hS.keep 7).turns⟩
 have hO2:=hO.begin p;have hin:=zmX hO p;have hb:N.begin p=_:=if_neg (by rw [hA];decide);rw [hb] at hO2 hin ⊢;clear hb;(conv=>whnf);refine hS.ld 7 rfl rfl ?_;(conv=>whnf);refine hS.ld 7 rfl rfl ?_;(conv=>whnf);refine (zn4 _ _ _).mono ?_;rintro v w6 ⟨rfl,rfl⟩;generalize zcB p.proto p.flags=r at hO2 hin ⊢;obtain ⟨s,kk⟩:=r;by_cases hkk:kk=0
 case neg =>
  rw [if_pos (show ((s,kk):Int × Nat).2≠0 from hkk),if_pos (show (((0,((s,kk):Int × Nat).2),N):(Int × Nat) × NodeS).1.2≠0 from hkk)];(conv=>whnf);refine brD (fun _=>?_) (fun h=>absurd (show (kk:Int) > 0 by omega) h);repeat' ((conv=>whnf);first|apply RetC.mk|refine rgO ?_|refine ixO ?_|refine hS.st 8 rfl (lbO rfl) rfl (fun w' hS=>?_)|refine hS.laX 8 rfl rfl ?_|(first|apply brD|apply zad|apply brN|apply brI)<;>(intro))
  exact ⟨rfl,(hS.keep 7).turns⟩
 subst hkk;rw [if_neg (show ¬ ((s,0):Int × Nat).2≠0 by simp)] at hO2 hin ⊢;dsimp only at hO2 hin ⊢;have htb:=zch p.proto s;have hn1:=St.neF hS 0 3 rfl rfl (by decide) (c:=A.tg) (by simp [zb4]);have hn2:=St.neF hS 7 3 rfl rfl (by decide) (c:=A.tg) (by simp [zb4]);(conv=>whnf)
 (refine zah tabOk mixed [] (fun b=>b=A.tg) [0,1,2,3,4,5,6,7,8,9,10,11,12,13,14,15,16,17,18,19,20,21,22,23,24,25] (by kernel_rfl) ?_;rintro w1 rfl;replace hS:=hS.drew)
 have hK:=hS.ref (fun b=>b=A.tg);repeat' ((conv=>whnf);first|refine hS.laXF 7 rfl rfl hn2 ?_|refine hS.ldF 7 rfl rfl hn2 ?_|refine hS.ldF 0 rfl rfl hn1 ?_)
 refine (zhf _ _ _).mono ?_;rintro v w3 ⟨rfl,rfl⟩;refine KeepC.mk hK ?_;repeat' ((conv=>whnf);first|apply RetC.mk|refine rgO ?_|refine ixO ?_|(first|apply brD|apply zad|apply brN|apply brI)<;>(intro))
 refine (zsF _ _ _ _ _ _ _ (hS.get 3 rfl) hO.tab (by omega) hlif).mono ?_;rintro v w' ⟨rfl,hx,hT⟩;refine KeepC.mk (hK.trans hx) ?_;replace hS:=hS.upd 3 rfl hx (fun d hd=>by subst hd;simp [zb4]) zbz hT (fun d hd=>.inl hd);clear hT hx hK;generalize N.tab.add p.proto p.sa p.sp p.da p.dp s (N.now+zc4 p.proto s)=r at hS hO2 hin ⊢;obtain ⟨⟨k,kk⟩,T2⟩:=r;by_cases hkk:kk=0
 case neg =>
  rw [if_pos hkk];(conv=>whnf);refine brD (fun _=>?_) (fun h=>absurd (show (kk:Int) > 0 by omega) h);repeat' ((conv=>whnf);first|apply RetC.mk|refine rgO ?_|refine ixO ?_|refine hS.st 8 rfl (lbO rfl) rfl (fun w' hS=>?_)|refine hS.laX 8 rfl rfl ?_|(first|apply brD|apply zad|apply brN|apply brI)<;>(intro))
  exact ⟨rfl,(hS.keep 7).turns⟩
 subst hkk;obtain ⟨h0,h1⟩:=hin rfl;dsimp only at hS hO2 h0 h1;obtain ⟨c,hc,hcf⟩:=zkn hO2 k h0 h1;rw [if_neg (by simp)];dsimp only at hc hcf ⊢;rw [← hcf];(conv=>whnf);refine hS.ld 0 rfl rfl ?_;(conv=>whnf);refine ldc (zbQ (hS.get 3 rfl)) ?_;(conv=>whnf);refine ixO ?_;(conv=>whnf);have hca:=zcA (hS.get 3 rfl) hc;refine ⟨zai c.f,rfl,by rw [Nat.zero_add];exact hca.sub 2 rfl,?_⟩;clear hca;(conv=>whnf);refine hS.st 9 rfl (lbO rfl) rfl (fun w' hS=>?_);(conv=>whnf);refine hS.ld 9 rfl rfl ?_;(conv=>whnf);refine hS.st 7 rfl (lbO rfl) rfl (fun w' hS=>?_);(conv=>whnf);refine hS.laX 7 rfl rfl ?_;(conv=>whnf);refine hS.st 8 rfl (lbO rfl) rfl (fun w' hS=>?_);(conv=>whnf);refine hS.laX 8 rfl rfl ?_;repeat' ((conv=>whnf);first|apply RetC.mk|refine rgO ?_|refine ixO ?_|(first|apply brD|apply zad|apply brN|apply brI)<;>(intro))
 exact ⟨rfl,(hS.keep 7).turns⟩
theorem zlM {m:Nat}(p:PktS) (hN:Has w (zan A N R)) (hO:NOk m N) (hm:m+1≤40000000) :
  CallC Tryz.prog 105 #[.pointer (some ⟨A.n,0,none⟩),.agg (zao p).toArray] w fun v w'=>v = .tuple #[.agg (zao (N.outside p).2.1).toArray,.int .i64 ((N.outside p).1:Nat)]∧Turns w w' (zan A N R) (zan A (N.outside p).2.2 R):=by
 refine zaa tabOk Tryz.func105 (by kernel_rfl) rfl Tryz.ntmps105 (lbO rfl) ?_;have hS:=hN.start;(conv=>whnf);refine hS.new (fun bp w' hbp hS=>?_);(conv=>whnf);refine hS.new (fun br w' hbr hS=>?_);replace hS:St w (inF (zan A N R)) w' (zan A N R++[blk bp 41 (zao p),blk br 41 (zao zaP)]):=hS;(conv=>whnf);refine hS.laX 7 rfl rfl ?_;(conv=>whnf);refine (zho p _).mono ?_;rintro v w2 ⟨rfl,hx⟩;replace hS:=hS.no hx;by_cases hp:p.err=0
 case neg =>
  rw [show N.outside p=(p.err,zaP,N) from if_pos hp];(conv=>whnf);refine brD (fun _=>?_) (fun h=>absurd (show (p.err:Int) > 0 by omega) h);repeat' ((conv=>whnf);first|apply RetC.mk|refine rgO ?_|refine ixO ?_|refine hS.st 8 rfl (lbO rfl) rfl (fun w' hS=>?_)|refine hS.laX 8 rfl rfl ?_|(first|apply brD|apply zad|apply brN|apply brI)<;>(intro))
  exact ⟨rfl,(hS.keep 7).turns⟩
 rw [hp];(conv=>whnf);refine hS.ld 0 rfl rfl ?_;(conv=>whnf);refine hS.ld 1 rfl (v:=.bool N.role.active) rfl ?_;cases ha:N.role.active
 ·rw [show N.outside p=(9,zaP,N) by unfold NodeS.outside;rw [if_neg (fun h=>h hp),if_pos ha]];repeat' ((conv=>whnf);first|apply RetC.mk|refine rgO ?_|refine ixO ?_|refine hS.st 8 rfl (lbO rfl) rfl (fun w' hS=>?_)|refine hS.laX 8 rfl rfl ?_|(first|apply brD|apply zad|apply brN|apply brI)<;>(intro))
  exact ⟨rfl,(hS.keep 7).turns⟩
 conv=>whnf
 refine hS.ld 7 rfl rfl ?_;(conv=>whnf);refine zad (fun hd=>?_) (fun hd=>?_)
 ·rw [show N.outside p=(3,zaP,N) by unfold NodeS.outside;rw [if_neg (fun h=>h hp),if_neg (by rw [ha];decide),if_pos hd]];repeat' ((conv=>whnf);first|apply RetC.mk|refine rgO ?_|refine ixO ?_|refine hS.st 8 rfl (lbO rfl) rfl (fun w' hS=>?_)|refine hS.laX 8 rfl rfl ?_|(first|apply brD|apply zad|apply brN|apply brI)<;>(intro))
  exact ⟨rfl,(hS.keep 7).turns⟩
 conv=>whnf
 (refine zah tabOk mixed [] No [0,1,2,3,4,5,6,7,8,9,10,11,12] (by kernel_rfl) ?_;rintro w1 rfl;replace hS:=hS.drew)
 repeat' ((conv=>whnf);first|refine hS.laXF 7 rfl rfl id ?_|refine hS.ldF 7 rfl rfl id ?_|refine hS.ldF 0 rfl rfl id ?_)
 refine (ziJ _ _ _ _ (hS.get 3 rfl)).mono ?_;rintro v w4 ⟨rfl,hx⟩;replace hS:=hS.no hx;refine KeepC.mk hx ?_;(conv=>whnf);refine brD (fun hf=>?_) (fun hf=>?_)
 ·rw [show N.outside p=(4,zaP,N) by unfold NodeS.outside;rw [if_neg (fun h=>h hp),if_neg (by rw [ha];decide),if_neg (fun h=>h hd),if_pos hf]];repeat' ((conv=>whnf);first|apply RetC.mk|refine rgO ?_|refine ixO ?_|refine hS.st 8 rfl (lbO rfl) rfl (fun w' hS=>?_)|refine hS.laX 8 rfl rfl ?_|(first|apply brD|apply zad|apply brN|apply brI)<;>(intro))
  exact ⟨rfl,(hS.keep 7).turns⟩
 rw [show N.outside p=(0,⟨p.proto,p.sa,p.sp,(zaD N.tab (N.tab.back p.proto p.dp p.sa p.sp)).ia,(zaD N.tab (N.tab.back p.proto p.dp p.sa p.sp)).ip,p.flags⟩,N.pass (N.tab.back p.proto p.dp p.sa p.sp) p.flags false) by
  unfold NodeS.outside;rw [if_neg (fun h=>h hp),if_neg (by rw [ha];decide),if_neg (fun h=>h hd),if_neg hf]]
 have herr:=(zbR hO.tab.len (zlx p.proto p.dp p.sa p.sp) (Int.not_lt.1 hf)).1;(conv=>whnf);refine hS.ld 7 rfl rfl ?_;(conv=>whnf);refine (zmI _ p.flags false hS.has.left hO (by omega) herr).mono ?_;rintro v w5 ⟨rfl,ht⟩;replace hS:=St.call hS ht;(conv=>whnf);refine hS.st 7 rfl (lbO rfl) rfl (fun w' hS=>?_);(conv=>whnf);refine hS.laX 7 rfl rfl ?_;(conv=>whnf);refine hS.st 8 rfl (lbO rfl) rfl (fun w' hS=>?_);(conv=>whnf);refine hS.laX 8 rfl rfl ?_;repeat' ((conv=>whnf);first|apply RetC.mk|refine rgO ?_|refine ixO ?_|(first|apply brD|apply zad|apply brN|apply brI)<;>(intro))
 exact ⟨rfl,(hS.keep 7).turns⟩
end

section
variable {w : World} {b : Nat} {r : RoleS}

theorem zqJ (hb:Blk w b 121 (za0 r)) (hr:r.Ok):CallC Tryz.prog 258 #[.pointer (some ⟨b,0,none⟩)] w fun v w'=>v = .bool r.tick.1∧Ext (· = b) w w'∧Blk w' b 121 (za0 r.tick.2):=by
 have h1:=hr.s1;have h0:=hr.s0;refine zaa tabOk Tryz.func258 (by kernel_rfl) rfl Tryz.ntmps258 (lbO rfl) ?_;have hS:=(St.start w (· = b)).add (zab b _ _) hb (by simp [blk];exact hb.lt) (by simp);(conv=>whnf);refine hS.ld 0 rfl rfl ?_;(conv=>whnf);refine brI (fun ha=>?_) (fun ha=>?_)
 ·repeat' ((conv=>whnf);first|apply RetC.mk|refine nzO ?_|refine rgO ?_|refine ixO ?_|(first|apply brD|apply zad|apply brN|apply brI)<;>(intro))
  have e:r.tick=(false,r):=by simp [RoleS.tick,ha]
  rw [e];exact ⟨rfl,hS.ext,hS.blk 0 rfl⟩
 ·repeat' ((conv=>whnf);first|apply RetC.mk|refine nzO ?_|refine rgO ?_|refine ixO ?_|refine hS.ld 0 rfl rfl ?_|refine hS.st 0 rfl (lbO rfl) rfl (fun w' hS=>?_)|(first|apply brD|apply zad|apply brN|apply brI)<;>(intro))
  have e:r.tick=(decide (r.silence+1 > 9),{ r with silence:=r.silence+1 }):=by simp [RoleS.tick,ha]
  rw [e];exact ⟨rfl,hS.ext,hS.blk 0 rfl⟩

theorem zmS (hb:Blk w b 121 (za0 r)) (hr:r.Ok):CallC Tryz.prog 259 #[.pointer (some ⟨b,0,none⟩)] w fun v w'=>v = .tuple #[.int .i64 r.next.1,.int .i64 r.next.2]∧w=w':=by
 have h1:=hr.e1;have h0:=hr.e0;have hn:=hr.n0;have e0:w.cell? ⟨b,0+0,none⟩=some (.int .i64 r.node):=hb.cell _;have e1:w.cell? ⟨b,0+1,none⟩=some (.int .i64 r.epoch):=hb.cell _;refine zaa tabOk Tryz.func259 (by kernel_rfl) rfl Tryz.ntmps259 (lbO rfl) ?_;(conv=>whnf);refine ⟨_,e1,?_⟩;(conv=>whnf);refine rgO ?_;(conv=>whnf)
 refine zaL tabOk (fun σ w' n=>∃ e,σ=[(4,.int .i64 e),(0,.pointer (some ⟨b,0,none⟩))]∧w=w'∧((e=r.epoch+1∧n=1)∨(e=r.epoch+1+1∧n=0∧(r.epoch+1).tmod 2≠r.node)))
  (σ':=[(4,.int .i64 (r.epoch+1)),(0,.pointer (some ⟨b,0,none⟩))]) (n:=1) ⟨rfl,rfl,trivial⟩ ⟨_,rfl,rfl,.inl ⟨rfl,rfl⟩⟩ ?_
 rintro _ w1 n ⟨e,rfl,rfl,he⟩;(conv=>whnf);refine nzO ?_;(conv=>whnf);refine ⟨_,e0,?_⟩;(conv=>whnf);refine zad (fun h3=>?_) (fun h3=>?_)
 ·rcases he with ⟨rfl,rfl⟩ | ⟨rfl,rfl,h4⟩
  ·(conv=>whnf)
   refine rgO ?_;(conv=>whnf);exact LoopE.mk ⟨_,[(4,.int .i64 _),(0,_)],Nat.zero_lt_one,⟨rfl,rfl,trivial⟩,⟨_,rfl,rfl,.inr ⟨rfl,rfl,h3⟩⟩⟩
  ·exfalso;rw [zu6 (by omega)] at h3 h4;omega
 ·have hnx:r.next=if e > 1073741824 then (0,2) else (e,0):=by
   unfold RoleS.next;dsimp only;rcases he with ⟨rfl,rfl⟩ | ⟨rfl,rfl,h4⟩
   ·have e2:(if (r.epoch+1).tmod 2≠r.node then r.epoch+1+1 else r.epoch+1)=r.epoch+1:=if_neg (fun h=>h h3);rw [e2]
   ·have e2:(if (r.epoch+1).tmod 2≠r.node then r.epoch+1+1 else r.epoch+1)=r.epoch+1+1:=if_pos h4;rw [e2]
  rw [hnx];(conv=>whnf);refine brD (fun h5=>?_) (fun h5=>?_)
  ·repeat' ((conv=>whnf);first|apply RetC.mk|refine nzO ?_|refine rgO ?_|refine ixO ?_|(first|apply brD|apply zad|apply brN|apply brI)<;>(intro))
   rw [if_pos h5];exact ⟨rfl,rfl⟩
  ·repeat' ((conv=>whnf);first|apply RetC.mk|refine nzO ?_|refine rgO ?_|refine ixO ?_|(first|apply brD|apply zad|apply brN|apply brI)<;>(intro))
   rw [if_neg h5];exact ⟨rfl,rfl⟩

theorem zo1 (e:Int) (hb:Blk w b 121 (za0 r)) (hr:r.Ok) :
  CallC Tryz.prog 260 #[.pointer (some ⟨b,0,none⟩),.int .i64 e] w fun v w'=>v = .int .i64 (r.claim e).1∧Ext (· = b) w w'∧Blk w' b 121 (za0 (r.claim e).2):=by
 refine zaa tabOk Tryz.func260 (by kernel_rfl) rfl Tryz.ntmps260 (lbO rfl) ?_;have hS:=(St.start w (· = b)).add (zab b _ _) hb (by simp [blk];exact hb.lt) (by simp);(conv=>whnf);refine hS.ld 0 rfl rfl ?_;(conv=>whnf);refine brI (fun ha=>?_) (fun ha=>?_)
 ·repeat' ((conv=>whnf);first|apply RetC.mk|refine nzO ?_|refine rgO ?_|refine ixO ?_|(first|apply brD|apply zad|apply brN|apply brI)<;>(intro))
  rw [show r.claim e=(11,r) by simp [RoleS.claim,ha]];exact ⟨rfl,hS.ext,hS.blk 0 rfl⟩
 ·(conv=>whnf)
  refine (zmS hb hr).mono ?_;rintro v w' ⟨rfl,rfl⟩;repeat' ((conv=>whnf);first|apply RetC.mk|refine nzO ?_|refine rgO ?_|refine ixO ?_|refine hS.ld 0 rfl rfl ?_|refine hS.st 0 rfl (lbO rfl) rfl (fun w' hS=>?_)|(first|apply brD|apply zad|apply brN|apply brI)<;>(intro))
  all_goals have hB:=hS.blk 0 rfl
  all_goals refine ⟨?_,hS.ext,hB.to ?_⟩
  all_goals clear hB hS hb
  all_goals unfold RoleS.claim;(try dsimp only [za0])
  all_goals ((repeat' split)<;>first|rfl|(exfalso;omega)|(simp_all [zaO,zam];done)|(simp_all [zaO,zam];omega)|trace_state)
end

def zf7 (a:Option Addr) (c:Nat) (x:Option Addr) (y:Nat) (l:List NoteS):List Ent:=[zaf 200 5 zae (.slice a (l.map (za8 x y)).length c) (l.map (za8 x y)),zaf 209 10 zac (.slice x (zaH l).length y) (zaH l)]
section
variable {w : World} {A : RNodeA} {N : NodeS} {R : RBy} {B : BytS}
theorem zq1 {m j:Nat}(hN:Has w (zan A N R)) (hO:NOk m N) (hB:BOk B) (hA:Alike R B) (hR:ROk R j) (hj:j≤50000000) (hm:m+34≤40000000) :
  CallC Tryz.prog 188 #[.pointer (some ⟨A.n,0,none⟩)] w fun v w'=>∃ a c x y R',v = .tuple #[.slice a ((N.tick B).2.1.map (za8 x y)).length c,.int .i64 ((N.tick B).1:Nat)]∧Alike R' (N.tick B).2.2.2∧ROk R' (j+18)∧Turns w w' (zan A N R) (zan A (N.tick B).2.2.1 R'++zf7 a c x y (N.tick B).2.1):=by
 have hn0:=hO.n0;have hR2:ROk R (j+18):=⟨hR.len,hR.bnd,by have:=hR.lo;omega,hR.hi⟩;have hA2:=hA;refine zaa tabOk Tryz.func188 (by kernel_rfl) rfl Tryz.ntmps188 (lbO rfl) ?_;have hS:=hN.start;(conv=>whnf);refine hS.ld 0 rfl rfl ?_;(conv=>whnf);refine brD (fun hn=>?_) (fun hn=>?_)
 ·rw [show N.tick B=(2,[],N,B) from if_pos hn];repeat' ((conv=>whnf);first|apply RetC.mk|refine nzO ?_|refine rgO ?_|refine ixO ?_|(first|apply brD|apply zad|apply brN|apply brI)<;>(intro))
  exact ⟨none,0,none,0,R,rfl,hA2,hR2,St.turns ((hS.addNil 200 5 zae).addNil 209 10 zac)⟩
 conv=>whnf
 refine hS.ld 0 rfl rfl ?_;(conv=>whnf);refine rgO ?_;(conv=>whnf);refine hS.st 0 rfl (lbO rfl) rfl (fun w' hS=>?_);replace hS:St w (inF (zan A N R)) w' (zan A { N with now:=N.now+1 } R):=hS;have hn3:=St.neF hS 0 3 rfl rfl (by decide) (c:=A.t) (by simp [zb4]);have hn4:=St.neF hS 0 3 rfl rfl (by decide) (c:=A.tg) (by simp [zb4]);(conv=>whnf)
 (refine zah tabOk mixed [] (fun b=>b=A.t∨b=A.tg) [0,1,2,3,4,5,6,7,8] (by kernel_rfl) ?_;rintro w1 rfl;replace hS:=hS.drew)
 repeat' ((conv=>whnf);first|refine hS.ldF 0 rfl rfl (fun h=>h.elim hn3 hn4) ?_)
 refine (znr (N.now+1) (hS.get 3 rfl) hO.tab (by omega)).mono ?_;rintro v w' ⟨⟨a',c',rfl⟩,hx,hT,_,_⟩;refine KeepC.mk hx ?_;replace hS:=hS.upd 3 rfl hx (fun d hd=>by simpa [zb4] using hd) zbz hT (fun d hd=>.inl hd);clear hx hT;(conv=>whnf);refine hS.ld 0 rfl rfl ?_;(conv=>whnf);refine (zqJ (hS.blk 1 rfl) hO.role).mono ?_;rintro v w' ⟨rfl,hx,hB1⟩;replace hS:=hS.upd 1 rfl hx (fun c hc=>by subst hc;exact List.mem_singleton.2 rfl) (zab _ _ _) hB1 (fun c hc=>.inl hc);clear hx hB1;replace hS:St w (inF (zan A N R)) w' (zan A N.step.2 R):=hS;have hO1:=hO.step (by omega) (by omega);cases hs:N.role.tick.1
 ·have hO2:=hO1
  rw [show N.tick B=(0,(N.step.2.notes false).1,(N.step.2.notes false).2,B) by
   unfold NodeS.tick;rw [if_neg hn,if_neg (by rw [show N.step.1=N.role.tick.1 from rfl,hs];decide)]]
  generalize N.step.2=N2 at hS hO2 ⊢;(conv=>whnf);refine hS.ld 0 rfl rfl ?_;(conv=>whnf);refine hS.ld 1 rfl (v:=.bool (N2).role.active) rfl ?_;replace hS:=hS.addNil 200 5 zae;cases hact:(N2).role.active
  ·have hbt:(N2).beat=false:=by
    unfold NodeS.beat;rw [hact];rfl
   repeat' ((conv=>whnf);first|apply RetC.mk|refine nzO ?_|refine rgO ?_|refine ixO ?_|(first|apply brD|apply zad|apply brN|apply brI)<;>(intro))
   rw [zbu hbt];exact ⟨none,0,none,0,(R),rfl,hA2,hR2,St.turns (hS.addNil 209 10 zac)⟩
  ·skip
   (conv=>whnf);refine hS.ld 0 rfl rfl ?_;(conv=>whnf);refine nzO ?_;(conv=>whnf);refine brD (fun hz=>?_) (fun hz=>?_)
   ·have hbt:(N2).beat=true:=by
     unfold NodeS.beat;rw [hact,decide_eq_true hz];rfl
    conv=>whnf
    (refine zah tabOk mixed [] No [0,1,2,3,4,5,6,7,8,9,10,11,12,13,14,15,16,17,18,19,20,21,22] (by kernel_rfl) ?_;rintro w1 rfl;replace hS:=hS.drew)
    have hK:=hS.ref No;repeat' ((conv=>whnf);first|refine hS.ldF 0 rfl rfl id ?_|refine hS.ldF 2 rfl rfl id ?_|refine hS.ldF 1 rfl rfl id ?_)
    refine hS.litX Tryz.underlying81 (sz:=5) (by kernel_rfl) (z:=.agg (zae zcx).toArray) (by kernel_rfl) rfl rfl (cs:=zae ⟨(N2).id,(N2).cell.li,(N2).role.epoch,true,none,0,0⟩) (by rfl) (fun b9 w3 hb9 hx hS=>?_);replace hK:=hK.trans hx;refine KeepC.mk hK ?_;clear hx;(conv=>whnf);refine hS.appX zak 7 (ys:=[⟨(N2).id,(N2).cell.li,(N2).role.epoch,true,none,0,0⟩]) (G:=fun _=>True) Tryz.underlying81 (bytes:=56) (by kernel_rfl) (z:=.agg (zae zcx).toArray) (by kernel_rfl) rfl rfl (Slc.of_blk zak (hS.blk 8 rfl) rfl (by simp) (fun _ _=>trivial) rfl) (by unfold maxLen;decide) (by decide) (fun a1 c1 w4 hx hS=>?_);replace hK:=hK.trans (hx.mono fun q h=>by simp [Value.ownBlock] at h);refine KeepC.mk hK ?_;clear hx hK;replace hS:=hS.keep 8;replace hS:St w (inF (zan A N R)) w4 (zan A (N2) (R)++[zaf 200 5 zae (.slice a1 1 c1) [⟨(N2).id,(N2).cell.li,(N2).role.epoch,true,none,0,0⟩]]):=hS;(conv=>whnf);refine brD (fun _=>?_) (fun h=>absurd hz h);(conv=>whnf);have hn4:=St.neF hS 0 4 rfl rfl (by decide) (c:=A.x) (by simp [zew]);have hn5:=St.neF hS 0 4 rfl rfl (by decide) (c:=A.xg) (by simp [zew]);have hn8:¬ (Value.slice a1 1 c1).ownBlock=some A.n:=fun h=>hS.apartAt 0 7 rfl rfl (by decide) _ (List.mem_singleton.2 rfl) (by simp only [zaf,own];rw [h];simp)
    have hc4:=St.neF hS 2 4 rfl rfl (by decide) (c:=A.x) (by simp [zew]);have hc5:=St.neF hS 2 4 rfl rfl (by decide) (c:=A.xg) (by simp [zew]);have hc8:¬ (Value.slice a1 1 c1).ownBlock=some A.c:=fun h=>hS.apartAt 2 7 rfl rfl (by decide) _ (List.mem_singleton.2 rfl) (by simp only [zaf,own];rw [h];simp)
    have hr4:=St.neF hS 1 4 rfl rfl (by decide) (c:=A.x) (by simp [zew]);have hr5:=St.neF hS 1 4 rfl rfl (by decide) (c:=A.xg) (by simp [zew]);have hr8:¬ (Value.slice a1 1 c1).ownBlock=some A.r:=fun h=>hS.apartAt 1 7 rfl rfl (by decide) _ (List.mem_singleton.2 rfl) (by simp only [zaf,own];rw [h];simp)
    have hap:∀ b∈[A.t,A.tg],¬ (b=A.x∨b=A.xg):=fun b hb hx=>hS.apartAt 3 4 rfl rfl (by decide) b (by simpa [zb4] using hb) (by simpa [zew] using hx)
    (refine zah tabOk mixed [] (fun b=>b=A.x∨b=A.xg∨(Value.slice a1 1 c1).ownBlock=some b) [0,1,2,3,4,5,6,7,8,9,10,11,12,13,14,15,16,17,18,19,20,21,22,23,24,25,26,27] (by kernel_rfl) ?_;rintro w1 rfl;replace hS:=hS.drew)
    have hK:=hS.ref (fun b=>b=A.x∨b=A.xg∨(Value.slice a1 1 c1).ownBlock=some b);repeat' ((conv=>whnf);first|refine hS.ldF 0 rfl rfl (fun h=>h.elim hn4 fun h=>h.elim hn5 hn8) ?_|refine hS.ldF 2 rfl rfl (fun h=>h.elim hc4 fun h=>h.elim hc5 hc8) ?_|refine hS.ldF 1 rfl rfl (fun h=>h.elim hr4 fun h=>h.elim hr5 hr8) ?_)
    refine (zgR (hS.get 3 rfl) (hS.get 4 rfl) hap hO2.tab hO2.told hO2.cur).mono ?_;rintro v w' ⟨⟨x,y,rfl⟩,hx,hB,ho,hf⟩;replace hS:=hS.updMade 4 rfl hx (fun c hc=>by simpa [zew] using hc) zet hB (fun c hc=>hc) zaj ho (fun g hg=>hf g (by simpa [zaf,own] using hg));replace hK:=hK.trans (hx.mono fun b h=>h.elim .inl fun h=>.inr (.inl h));refine KeepC.mk hK ?_;clear hx hB ho hf;(conv=>whnf);refine hS.litX Tryz.underlying81 (sz:=5) (by kernel_rfl) (z:=.agg (zae zcx).toArray) (by kernel_rfl) rfl rfl (cs:=zae ⟨(N2).id,(N2).cell.li,(N2).role.epoch,false,x,((N2).tel.picks (N2).tab.cells).length,y⟩) (by rfl) (fun b9 w3 hb9 hx hS=>?_);replace hK:=hK.trans hx.of_no;refine KeepC.mk hK ?_;clear hx;(conv=>whnf);refine hS.appX zak 7 (ys:=[⟨(N2).id,(N2).cell.li,(N2).role.epoch,false,x,((N2).tel.picks (N2).tab.cells).length,y⟩]) (G:=fun _=>True) Tryz.underlying81 (bytes:=56) (by kernel_rfl) (z:=.agg (zae zcx).toArray) (by kernel_rfl) rfl rfl (Slc.of_blk zak (hS.blk 9 rfl) rfl (by simp) (fun _ _=>trivial) rfl) (by unfold maxLen;show 1+1≤_;decide) (by show (1+1) * 56≤_;decide) (fun a2 c2 w4 hx hS=>?_);replace hK:=hK.trans (hx.mono fun q h=>.inr (.inr h));refine KeepC.mk hK ?_;clear hx hK;replace hS:=hS.keep 9;repeat' ((conv=>whnf);first|apply RetC.mk|refine nzO ?_|refine rgO ?_|refine ixO ?_|(first|apply brD|apply zad|apply brN|apply brI)<;>(intro))
    rw [zcz hbt]
    replace hS:St w (inF (zan A N R)) w4 (zan A { (N2) with tel:=(N2).tel.next (N2).tab.cells } (R)++zf7 a2 c2 x y [⟨(N2).id,(N2).cell.li,(N2).role.epoch,true,[]⟩,⟨(N2).id,(N2).cell.li,(N2).role.epoch,false,zcj (N2).tab.cells ((N2).tel.picks (N2).tab.cells)⟩]):=by
     have hc:zaH [⟨(N2).id,(N2).cell.li,(N2).role.epoch,true,[]⟩,⟨(N2).id,(N2).cell.li,(N2).role.epoch,false,zcj (N2).tab.cells ((N2).tel.picks (N2).tab.cells)⟩]=zcj (N2).tab.cells ((N2).tel.picks (N2).tab.cells):=by simp [zaH]
     have hv:[(⟨(N2).id,(N2).cell.li,(N2).role.epoch,true,[]⟩:NoteS),⟨(N2).id,(N2).cell.li,(N2).role.epoch,false,zcj (N2).tab.cells ((N2).tel.picks (N2).tab.cells)⟩].map (za8 x y)=[⟨(N2).id,(N2).cell.li,(N2).role.epoch,true,none,0,0⟩,⟨(N2).id,(N2).cell.li,(N2).role.epoch,false,x,((N2).tel.picks (N2).tab.cells).length,y⟩]:=by simp [za8,zaF]
     unfold zf7;rw [hc,hv,zaF];exact hS
    exact ⟨a2,c2,x,y,(R),rfl,hA2,hR2,St.turns hS⟩
   ·have hbt:(N2).beat=false:=by
     unfold NodeS.beat;rw [decide_eq_false hz,Bool.and_false]
    (conv=>whnf);refine brD (fun h=>absurd h hz) (fun _=>?_);repeat' ((conv=>whnf);first|apply RetC.mk|refine nzO ?_|refine rgO ?_|refine ixO ?_|(first|apply brD|apply zad|apply brN|apply brI)<;>(intro))
    rw [zbu hbt];exact ⟨none,0,none,0,(R),rfl,hA2,hR2,St.turns (hS.addNil 209 10 zac)⟩
 have hs1:N.step.1=true:=hs;have ha:=zdr hs1
 rw [show N.tick B=if (N.step.2.claim B).1.2≠0 then ((N.step.2.claim B).1.2,[],(N.step.2.claim B).2.1,(N.step.2.claim B).2.2) else (0,((N.step.2.claim B).2.1.notes (N.step.2.claim B).1.1).1,((N.step.2.claim B).2.1.notes (N.step.2.claim B).1.1).2,(N.step.2.claim B).2.2) by
  unfold NodeS.tick;rw [if_neg hn,if_pos hs1]]
 have hO2:=hO1.claim ha B;generalize hNS:N.step.2=NS at hS hO1 hO2 ha ⊢;clear hNS hs1 hs hn hn3 hn4;(conv=>whnf);refine hS.ld 0 rfl rfl ?_;(conv=>whnf);refine (zmS (hS.blk 1 rfl) hO1.role).mono ?_;rintro v w2 ⟨rfl,rfl⟩;by_cases hnx:NS.role.next.2=0
 case neg =>
  rw [show NS.claim B=((false,0),NS,B) from if_pos hnx] at hO2 ⊢;rw [if_neg (show ¬ (((false,0),NS,B):(Bool × Nat) × NodeS × BytS).1.2≠0 by simp)];dsimp only at hO2 ⊢;(conv=>whnf);refine brD (fun h=>absurd (by omega) hnx) (fun _=>?_);(conv=>whnf);refine hS.ld 0 rfl rfl ?_;(conv=>whnf);refine hS.ld 1 rfl (v:=.bool (NS).role.active) rfl ?_;replace hS:=hS.addNil 200 5 zae;cases hact:(NS).role.active
  ·have hbt:(NS).beat=false:=by
    unfold NodeS.beat;rw [hact];rfl
   repeat' ((conv=>whnf);first|apply RetC.mk|refine nzO ?_|refine rgO ?_|refine ixO ?_|(first|apply brD|apply zad|apply brN|apply brI)<;>(intro))
   rw [zbu hbt];exact ⟨none,0,none,0,(R),rfl,hA2,hR2,St.turns (hS.addNil 209 10 zac)⟩
  ·skip
   (conv=>whnf);refine hS.ld 0 rfl rfl ?_;(conv=>whnf);refine nzO ?_;(conv=>whnf);refine brD (fun hz=>?_) (fun hz=>?_)
   ·have hbt:(NS).beat=true:=by
     unfold NodeS.beat;rw [hact,decide_eq_true hz];rfl
    conv=>whnf
    (refine zah tabOk mixed [] No [0,1,2,3,4,5,6,7,8,9,10,11,12,13,14,15,16,17,18,19,20,21,22] (by kernel_rfl) ?_;rintro w1 rfl;replace hS:=hS.drew)
    have hK:=hS.ref No;repeat' ((conv=>whnf);first|refine hS.ldF 0 rfl rfl id ?_|refine hS.ldF 2 rfl rfl id ?_|refine hS.ldF 1 rfl rfl id ?_)
    refine hS.litX Tryz.underlying81 (sz:=5) (by kernel_rfl) (z:=.agg (zae zcx).toArray) (by kernel_rfl) rfl rfl (cs:=zae ⟨(NS).id,(NS).cell.li,(NS).role.epoch,true,none,0,0⟩) (by rfl) (fun b9 w3 hb9 hx hS=>?_);replace hK:=hK.trans hx;refine KeepC.mk hK ?_;clear hx;(conv=>whnf);refine hS.appX zak 7 (ys:=[⟨(NS).id,(NS).cell.li,(NS).role.epoch,true,none,0,0⟩]) (G:=fun _=>True) Tryz.underlying81 (bytes:=56) (by kernel_rfl) (z:=.agg (zae zcx).toArray) (by kernel_rfl) rfl rfl (Slc.of_blk zak (hS.blk 8 rfl) rfl (by simp) (fun _ _=>trivial) rfl) (by unfold maxLen;decide) (by decide) (fun a1 c1 w4 hx hS=>?_);replace hK:=hK.trans (hx.mono fun q h=>by simp [Value.ownBlock] at h);refine KeepC.mk hK ?_;clear hx hK;replace hS:=hS.keep 8;replace hS:St w (inF (zan A N R)) w4 (zan A (NS) (R)++[zaf 200 5 zae (.slice a1 1 c1) [⟨(NS).id,(NS).cell.li,(NS).role.epoch,true,none,0,0⟩]]):=hS;(conv=>whnf);refine brD (fun _=>?_) (fun h=>absurd hz h);(conv=>whnf);have hn4:=St.neF hS 0 4 rfl rfl (by decide) (c:=A.x) (by simp [zew]);have hn5:=St.neF hS 0 4 rfl rfl (by decide) (c:=A.xg) (by simp [zew]);have hn8:¬ (Value.slice a1 1 c1).ownBlock=some A.n:=fun h=>hS.apartAt 0 7 rfl rfl (by decide) _ (List.mem_singleton.2 rfl) (by simp only [zaf,own];rw [h];simp)
    have hc4:=St.neF hS 2 4 rfl rfl (by decide) (c:=A.x) (by simp [zew]);have hc5:=St.neF hS 2 4 rfl rfl (by decide) (c:=A.xg) (by simp [zew]);have hc8:¬ (Value.slice a1 1 c1).ownBlock=some A.c:=fun h=>hS.apartAt 2 7 rfl rfl (by decide) _ (List.mem_singleton.2 rfl) (by simp only [zaf,own];rw [h];simp)
    have hr4:=St.neF hS 1 4 rfl rfl (by decide) (c:=A.x) (by simp [zew]);have hr5:=St.neF hS 1 4 rfl rfl (by decide) (c:=A.xg) (by simp [zew]);have hr8:¬ (Value.slice a1 1 c1).ownBlock=some A.r:=fun h=>hS.apartAt 1 7 rfl rfl (by decide) _ (List.mem_singleton.2 rfl) (by simp only [zaf,own];rw [h];simp)
    have hap:∀ b∈[A.t,A.tg],¬ (b=A.x∨b=A.xg):=fun b hb hx=>hS.apartAt 3 4 rfl rfl (by decide) b (by simpa [zb4] using hb) (by simpa [zew] using hx)
    (refine zah tabOk mixed [] (fun b=>b=A.x∨b=A.xg∨(Value.slice a1 1 c1).ownBlock=some b) [0,1,2,3,4,5,6,7,8,9,10,11,12,13,14,15,16,17,18,19,20,21,22,23,24,25,26,27] (by kernel_rfl) ?_;rintro w1 rfl;replace hS:=hS.drew)
    have hK:=hS.ref (fun b=>b=A.x∨b=A.xg∨(Value.slice a1 1 c1).ownBlock=some b);repeat' ((conv=>whnf);first|refine hS.ldF 0 rfl rfl (fun h=>h.elim hn4 fun h=>h.elim hn5 hn8) ?_|refine hS.ldF 2 rfl rfl (fun h=>h.elim hc4 fun h=>h.elim hc5 hc8) ?_|refine hS.ldF 1 rfl rfl (fun h=>h.elim hr4 fun h=>h.elim hr5 hr8) ?_)
    refine (zgR (hS.get 3 rfl) (hS.get 4 rfl) hap hO2.tab hO2.told hO2.cur).mono ?_;rintro v w' ⟨⟨x,y,rfl⟩,hx,hB,ho,hf⟩;replace hS:=hS.updMade 4 rfl hx (fun c hc=>by simpa [zew] using hc) zet hB (fun c hc=>hc) zaj ho (fun g hg=>hf g (by simpa [zaf,own] using hg));replace hK:=hK.trans (hx.mono fun b h=>h.elim .inl fun h=>.inr (.inl h));refine KeepC.mk hK ?_;clear hx hB ho hf;(conv=>whnf);refine hS.litX Tryz.underlying81 (sz:=5) (by kernel_rfl) (z:=.agg (zae zcx).toArray) (by kernel_rfl) rfl rfl (cs:=zae ⟨(NS).id,(NS).cell.li,(NS).role.epoch,false,x,((NS).tel.picks (NS).tab.cells).length,y⟩) (by rfl) (fun b9 w3 hb9 hx hS=>?_);replace hK:=hK.trans hx.of_no;refine KeepC.mk hK ?_;clear hx;(conv=>whnf);refine hS.appX zak 7 (ys:=[⟨(NS).id,(NS).cell.li,(NS).role.epoch,false,x,((NS).tel.picks (NS).tab.cells).length,y⟩]) (G:=fun _=>True) Tryz.underlying81 (bytes:=56) (by kernel_rfl) (z:=.agg (zae zcx).toArray) (by kernel_rfl) rfl rfl (Slc.of_blk zak (hS.blk 9 rfl) rfl (by simp) (fun _ _=>trivial) rfl) (by unfold maxLen;show 1+1≤_;decide) (by show (1+1) * 56≤_;decide) (fun a2 c2 w4 hx hS=>?_);replace hK:=hK.trans (hx.mono fun q h=>.inr (.inr h));refine KeepC.mk hK ?_;clear hx hK;replace hS:=hS.keep 9;repeat' ((conv=>whnf);first|apply RetC.mk|refine nzO ?_|refine rgO ?_|refine ixO ?_|(first|apply brD|apply zad|apply brN|apply brI)<;>(intro))
    rw [zcz hbt]
    replace hS:St w (inF (zan A N R)) w4 (zan A { (NS) with tel:=(NS).tel.next (NS).tab.cells } (R)++zf7 a2 c2 x y [⟨(NS).id,(NS).cell.li,(NS).role.epoch,true,[]⟩,⟨(NS).id,(NS).cell.li,(NS).role.epoch,false,zcj (NS).tab.cells ((NS).tel.picks (NS).tab.cells)⟩]):=by
     have hc:zaH [⟨(NS).id,(NS).cell.li,(NS).role.epoch,true,[]⟩,⟨(NS).id,(NS).cell.li,(NS).role.epoch,false,zcj (NS).tab.cells ((NS).tel.picks (NS).tab.cells)⟩]=zcj (NS).tab.cells ((NS).tel.picks (NS).tab.cells):=by simp [zaH]
     have hv:[(⟨(NS).id,(NS).cell.li,(NS).role.epoch,true,[]⟩:NoteS),⟨(NS).id,(NS).cell.li,(NS).role.epoch,false,zcj (NS).tab.cells ((NS).tel.picks (NS).tab.cells)⟩].map (za8 x y)=[⟨(NS).id,(NS).cell.li,(NS).role.epoch,true,none,0,0⟩,⟨(NS).id,(NS).cell.li,(NS).role.epoch,false,x,((NS).tel.picks (NS).tab.cells).length,y⟩]:=by simp [za8,zaF]
     unfold zf7;rw [hc,hv,zaF];exact hS
    exact ⟨a2,c2,x,y,(R),rfl,hA2,hR2,St.turns hS⟩
   ·have hbt:(NS).beat=false:=by
     unfold NodeS.beat;rw [decide_eq_false hz,Bool.and_false]
    (conv=>whnf);refine brD (fun h=>absurd h hz) (fun _=>?_);repeat' ((conv=>whnf);first|apply RetC.mk|refine nzO ?_|refine rgO ?_|refine ixO ?_|(first|apply brD|apply zad|apply brN|apply brI)<;>(intro))
    rw [zbu hbt];exact ⟨none,0,none,0,(R),rfl,hA2,hR2,St.turns (hS.addNil 209 10 zac)⟩
 have hcl:=RoleS.claim_next ha hnx;have hpos:=RoleS.next_pos hO1.role hnx;rw [hnx];have hn1:=hS.ne 0 2 rfl rfl (by decide);have hn2:=hS.ne 0 6 rfl rfl (by decide);(conv=>whnf)
 (refine zah tabOk mixed [11] (fun b=>b=A.b∨b=A.c) [0,1,2,3,4,5,6,7,8,9,10,11,12,13] (by kernel_rfl) ?_;rintro w1 rfl;replace hS:=hS.drew)
 have hK:=hS.ref (fun b=>b=A.b∨b=A.c);repeat' ((conv=>whnf);first|refine hS.ldF 0 rfl rfl (fun h=>h.elim hn2 hn1) ?_|(refine hS.ld 2 rfl rfl ?_;refine KeepC.mk hK ?_))
 refine (zmr NS.role.next.1 NS.cell.li (hS.blk 2 rfl) (hS.blk 6 rfl) hA hB hR hj hO1.num).mono ?_;rintro v w4 ⟨rfl,hx,R',hA',hR',hB1,hC1⟩;have hs0:=hS.sel [6,2,0,1,3,4,5] (by decide);have hs1:=(Ev.St.upd2 hs0 hx (by simp [blk]) (zab _ _ _) hB1 rfl (zab _ _ _) hC1 rfl).sel [2,3,1,4,5,6,0] (by decide);refine KeepC.mk (hK.trans hx) ?_;clear hS hs0 hB1 hC1 hx hK hA2 hR2 hA;have hA2:=hA';have hR2:=hR';clear hA' hR';by_cases hp:(NS.cell.put B NS.role.next.1 NS.cell.li).1=0
 case neg =>
  rw [show NS.claim B=((false,(NS.cell.put B NS.role.next.1 NS.cell.li).1),{ NS with cell:=(NS.cell.put B NS.role.next.1 NS.cell.li).2.2 },(NS.cell.put B NS.role.next.1 NS.cell.li).2.1) by
   unfold NodeS.claim;rw [if_neg (fun h=>h hnx),if_pos hp]]
  rw [if_pos (show (((false,(NS.cell.put B NS.role.next.1 NS.cell.li).1),{ NS with cell:=(NS.cell.put B NS.role.next.1 NS.cell.li).2.2 },(NS.cell.put B NS.role.next.1 NS.cell.li).2.1):(Bool × Nat) × NodeS × BytS).1.2≠0 from hp)];(conv=>whnf);refine brD (fun _=>?_) (fun h=>absurd (show ((NS.cell.put B NS.role.next.1 NS.cell.li).1:Int) > 0 by omega) h);repeat' ((conv=>whnf);first|apply RetC.mk|refine nzO ?_|refine rgO ?_|refine ixO ?_|(first|apply brD|apply zad|apply brN|apply brI)<;>(intro))
  exact ⟨none,0,none,0,R',rfl,hA2,hR2,St.turns ((Ev.St.addNil hs1 200 5 zae).addNil 209 10 zac)⟩
 have hcl2:NS.claim B=((true,0),{ NS with cell:=(NS.cell.put B NS.role.next.1 NS.cell.li).2.2,role:=(NS.role.claim NS.role.next.1).2,tab:=zcC NS.now NS.tab (zaV NS.mir.cells) },(NS.cell.put B NS.role.next.1 NS.cell.li).2.1):=by
  unfold NodeS.claim;rw [if_neg (fun h=>h hnx),if_neg (fun h=>h hp)]
 rw [hcl2] at hO2 ⊢;clear hcl2;rw [if_neg (show ¬ (((true,0),{ NS with cell:=(NS.cell.put B NS.role.next.1 NS.cell.li).2.2,role:=(NS.role.claim NS.role.next.1).2,tab:=zcC NS.now NS.tab (zaV NS.mir.cells) },(NS.cell.put B NS.role.next.1 NS.cell.li).2.1):(Bool × Nat) × NodeS × BytS).1.2≠0 by simp)];dsimp only at hO2 ⊢;rw [hp];generalize (NS.cell.put B NS.role.next.1 NS.cell.li).2=BC at hs1 hO2 hA2 ⊢;obtain ⟨B2,C2⟩:=BC;have hS:St w (inF (zan A N R)) w4 (zan A { NS with cell:=C2 } R'):=hs1;clear hs1;dsimp only at hO2 hA2 ⊢;(conv=>whnf);refine hS.ld 0 rfl rfl ?_;(conv=>whnf);refine (zo1 NS.role.next.1 (hS.blk 1 rfl) hO1.role).mono ?_;rintro v w' ⟨rfl,hx,hB1⟩;replace hS:=hS.upd 1 rfl hx (fun c hc=>by subst hc;exact List.mem_singleton.2 rfl) (zab _ _ _) hB1 (fun c hc=>.inl hc);clear hx hB1;replace hS:St w (inF (zan A N R)) w' (zan A { NS with cell:=C2,role:=(NS.role.claim NS.role.next.1).2 } R'):=hS;(conv=>whnf);refine hS.ld 0 rfl rfl ?_;(conv=>whnf);refine ldc ((hS.get 5 rfl).2.1.cell 1) ?_;have hml:=hO1.mir;have hsl:Slc w' 10 zac (fun _=>True) (some ⟨A.mg,0,none⟩) 32 NS.mir.cells:=zap (G:=fun _=>True) zau (hS.get 5 rfl).2.2 fun _ _=>trivial
 conv=>whnf
 refine (zfE hsl (by decide)).mono ?_;rintro v w' ⟨a,c,rfl,hx,ho,hf⟩;replace hS:=hS.made hx zaj ho (fun g hg=>hf g (by simpa [zaf,own] using hg));clear hx ho hf hsl;have hlen:=zcY NS.mir.cells;rw [hml] at hlen;generalize zaV NS.mir.cells=l at hS hlen hO2 ⊢;generalize (NS.role.claim NS.role.next.1).2=r2 at hS hO2 ⊢;have hn0:=hO1.n0;have hn9:=hO1.n1;(conv=>whnf)
 refine zaL tabOk (fun σ w' q=>∃ k:Nat,σ=[(10,.int .i64 k),(9,.slice a l.length c),(4,.bool true),(0,.pointer (some ⟨A.n,0,none⟩))]∧q=l.length - k∧k≤l.length∧St w (inF (zan A N R)) w' (zan A { NS with cell:=C2,role:=r2,tab:=zcC NS.now NS.tab (l.take k) } R'++[zaf 207 8 zai (.slice a l.length c) l]))
  (σ':=[(10,.int .i64 ((0:Nat):Int)),(9,.slice a l.length c),(4,.bool true),(0,.pointer (some ⟨A.n,0,none⟩))]) (n:=l.length) ⟨rfl,rfl,rfl,rfl,trivial⟩ ⟨0,rfl,rfl,Nat.zero_le _,hS⟩ ?_
 clear hS;rintro _ w1 q' ⟨k,rfl,rfl,hk,hS⟩;(conv=>whnf);refine brD (fun h3=>?_) (fun h3=>?_)
 ·obtain ⟨b0,o0,x,hxk,_,rfl,hb0,hc⟩:=(zap (G:=fun _=>True) zf2 (hS.get 7 rfl) (fun _ _=>trivial)).at (k:=k) (by omega);have hstep:=zhu NS.now NS.tab hxk;have hTk:=zfD NS.now (l.take k) hO1.tab;have hlk:(l.take k).length≤32:=by rw [List.length_take];omega
  generalize zcC NS.now NS.tab (l.take k)=T at hS hstep hTk;(conv=>whnf);refine ixO ?_;(conv=>whnf);refine ⟨zai x,rfl,hc,?_⟩;(conv=>whnf);refine hS.new (fun bf w' hbf hS=>?_);(conv=>whnf);refine hS.st 8 rfl (lbO rfl) rfl (fun w' hS=>?_);replace hS:St w (inF (zan A N R)) w' (zan A { NS with cell:=C2,role:=r2,tab:=T } R'++[zaf 207 8 zai (.slice (some ⟨b0,o0,none⟩) l.length c) l,blk bf 207 (zai x)]):=hS;have hf1:=hS.ne 0 8 rfl rfl (by decide);have hf3:=St.neF hS 8 3 rfl rfl (by decide) (c:=A.tg) (by simp [zb4]);have hf4:=St.neF hS 0 3 rfl rfl (by decide) (c:=A.tg) (by simp [zb4]);have htb:=zch x.proto x.state;(conv=>whnf);refine ztw tabOk mixed [] (fun w1 w'=>Ext (· = bf) w1 w'∧∃ y,Blk w' bf 207 (zai { x with til:=y })) [0,1,2,3,4,5,6,7,8,9,10,11] (by kernel_rfl) ?_;rintro w1 rfl;replace hS:=hS.drew;refine ⟨⟨Ext.refl _ _,x.til,hS.blk 8 rfl⟩,?_⟩;have hK:=hS.ref (· = bf);(conv=>whnf);refine LdF.imp (fun _ h=>h.1) (hS.ldF 0 rfl rfl hf1 ?_);(conv=>whnf);refine ⟨.int .i64 x.proto,fun w' h=>by obtain ⟨_,y,h⟩:=h;rw [h.cell];rfl,?_⟩;(conv=>whnf);refine ⟨.int .i64 x.state,fun w' h=>by obtain ⟨_,y,h⟩:=h;rw [h.cell];rfl,?_⟩;(conv=>whnf);refine (zhf _ _ _).mono ?_;rintro v w' ⟨rfl,rfl⟩;refine KeepC.mk ⟨hK,x.til,hS.blk 8 rfl⟩ ?_;(conv=>whnf);refine RngC.mk (by dsimp only;omega) (by dsimp only;omega) ?_;(conv=>whnf);refine hS.stK hK 8 rfl (lbO rfl) rfl rfl (fun w' hK hS=>KeepC.mk ⟨hK,NS.now+zc4 x.proto x.state,hS.blk 8 rfl⟩ ?_);clear hK;(conv=>whnf)
  (refine zah tabOk mixed [] (fun b=>b=A.tg) [0,1,2,3,4,5] (by kernel_rfl) ?_;rintro w1 rfl;replace hS:=hS.drew)
  repeat' ((conv=>whnf);first|refine hS.laXF 8 rfl rfl hf3 ?_|refine hS.ldF 0 rfl rfl hf4 ?_)
  refine (ztT { x with til:=NS.now+zc4 x.proto x.state } (hS.get 3 rfl) hTk (by omega)).mono ?_;rintro v w' ⟨rfl,hx,hT⟩;refine KeepC.mk hx ?_;replace hS:=hS.upd 3 rfl hx (fun d hd=>by subst hd;simp [zb4]) zbz hT (fun d hd=>.inl hd);rw [← hstep] at hS;(conv=>whnf);refine rgO ?_;(conv=>whnf);refine LoopE.mk ⟨_,[(10,.int .i64 ((k+1:Nat):Int)),(9,_),(4,_),(0,_)],?_,⟨rfl,rfl,rfl,rfl,trivial⟩,⟨k+1,rfl,rfl,by omega,hS.keep 8⟩⟩;omega
 obtain rfl:k=l.length:=by omega
 rw [List.take_length] at hS;replace hS:=hS.keep 7;replace hS:St w (inF (zan A N R)) w1 (zan A { NS with cell:=C2,role:=r2,tab:=zcC NS.now NS.tab l } R'):=hS;generalize hN3:({ NS with cell:=C2,role:=r2,tab:=zcC NS.now NS.tab l }:NodeS)=N3 at hS hO2 ⊢;clear hN3;(conv=>whnf);refine hS.ld 0 rfl rfl ?_;(conv=>whnf);refine hS.ld 1 rfl (v:=.bool (N3).role.active) rfl ?_;replace hS:=hS.addNil 200 5 zae;cases hact:(N3).role.active
 ·have hbt:(N3).beat=false:=by
   unfold NodeS.beat;rw [hact];rfl
  conv=>whnf
  (refine zah tabOk mixed [] No [0,1,2,3,4,5,6,7,8,9,10,11,12,13,14,15,16,17,18,19,20,21,22] (by kernel_rfl) ?_;rintro w1 rfl;replace hS:=hS.drew)
  have hK:=hS.ref No;repeat' ((conv=>whnf);first|refine hS.ldF 0 rfl rfl id ?_|refine hS.ldF 2 rfl rfl id ?_|refine hS.ldF 1 rfl rfl id ?_)
  refine hS.litX Tryz.underlying81 (sz:=5) (by kernel_rfl) (z:=.agg (zae zcx).toArray) (by kernel_rfl) rfl rfl (cs:=zae ⟨(N3).id,(N3).cell.li,(N3).role.epoch,true,none,0,0⟩) (by rfl) (fun b9 w3 hb9 hx hS=>?_);replace hK:=hK.trans hx;refine KeepC.mk hK ?_;clear hx;(conv=>whnf);refine hS.appX zak 7 (ys:=[⟨(N3).id,(N3).cell.li,(N3).role.epoch,true,none,0,0⟩]) (G:=fun _=>True) Tryz.underlying81 (bytes:=56) (by kernel_rfl) (z:=.agg (zae zcx).toArray) (by kernel_rfl) rfl rfl (Slc.of_blk zak (hS.blk 8 rfl) rfl (by simp) (fun _ _=>trivial) rfl) (by unfold maxLen;decide) (by decide) (fun a1 c1 w4 hx hS=>?_);replace hK:=hK.trans (hx.mono fun q h=>by simp [Value.ownBlock] at h);refine KeepC.mk hK ?_;clear hx hK;replace hS:=hS.keep 8;repeat' ((conv=>whnf);first|apply RetC.mk|refine nzO ?_|refine rgO ?_|refine ixO ?_|(first|apply brD|apply zad|apply brN|apply brI)<;>(intro))
  rw [zck hbt];exact ⟨a1,c1,none,0,(R'),rfl,hA2,hR2,St.turns (hS.addNil 209 10 zac)⟩
 ·skip
  (conv=>whnf);refine hS.ld 0 rfl rfl ?_;(conv=>whnf);refine nzO ?_;by_cases hz:(N3).now.tmod 3=0
  ·have hbt:(N3).beat=true:=by
    unfold NodeS.beat;rw [hact,decide_eq_true hz];rfl
   conv=>whnf
   (refine zah tabOk mixed [] No [0,1,2,3,4,5,6,7,8,9,10,11,12,13,14,15,16,17,18,19,20,21,22] (by kernel_rfl) ?_;rintro w1 rfl;replace hS:=hS.drew)
   have hK:=hS.ref No;repeat' ((conv=>whnf);first|refine hS.ldF 0 rfl rfl id ?_|refine hS.ldF 2 rfl rfl id ?_|refine hS.ldF 1 rfl rfl id ?_)
   refine hS.litX Tryz.underlying81 (sz:=5) (by kernel_rfl) (z:=.agg (zae zcx).toArray) (by kernel_rfl) rfl rfl (cs:=zae ⟨(N3).id,(N3).cell.li,(N3).role.epoch,true,none,0,0⟩) (by rfl) (fun b9 w3 hb9 hx hS=>?_);replace hK:=hK.trans hx;refine KeepC.mk hK ?_;clear hx;(conv=>whnf);refine hS.appX zak 7 (ys:=[⟨(N3).id,(N3).cell.li,(N3).role.epoch,true,none,0,0⟩]) (G:=fun _=>True) Tryz.underlying81 (bytes:=56) (by kernel_rfl) (z:=.agg (zae zcx).toArray) (by kernel_rfl) rfl rfl (Slc.of_blk zak (hS.blk 8 rfl) rfl (by simp) (fun _ _=>trivial) rfl) (by unfold maxLen;decide) (by decide) (fun a1 c1 w4 hx hS=>?_);replace hK:=hK.trans (hx.mono fun q h=>by simp [Value.ownBlock] at h);refine KeepC.mk hK ?_;clear hx hK;replace hS:=hS.keep 8;replace hS:St w (inF (zan A N R)) w4 (zan A (N3) (R')++[zaf 200 5 zae (.slice a1 1 c1) [⟨(N3).id,(N3).cell.li,(N3).role.epoch,true,none,0,0⟩]]):=hS;(conv=>whnf);refine brD (fun _=>?_) (fun h=>absurd hz h);(conv=>whnf);have hn4:=St.neF hS 0 4 rfl rfl (by decide) (c:=A.x) (by simp [zew]);have hn5:=St.neF hS 0 4 rfl rfl (by decide) (c:=A.xg) (by simp [zew]);have hn8:¬ (Value.slice a1 1 c1).ownBlock=some A.n:=fun h=>hS.apartAt 0 7 rfl rfl (by decide) _ (List.mem_singleton.2 rfl) (by simp only [zaf,own];rw [h];simp)
   have hc4:=St.neF hS 2 4 rfl rfl (by decide) (c:=A.x) (by simp [zew]);have hc5:=St.neF hS 2 4 rfl rfl (by decide) (c:=A.xg) (by simp [zew]);have hc8:¬ (Value.slice a1 1 c1).ownBlock=some A.c:=fun h=>hS.apartAt 2 7 rfl rfl (by decide) _ (List.mem_singleton.2 rfl) (by simp only [zaf,own];rw [h];simp)
   have hr4:=St.neF hS 1 4 rfl rfl (by decide) (c:=A.x) (by simp [zew]);have hr5:=St.neF hS 1 4 rfl rfl (by decide) (c:=A.xg) (by simp [zew]);have hr8:¬ (Value.slice a1 1 c1).ownBlock=some A.r:=fun h=>hS.apartAt 1 7 rfl rfl (by decide) _ (List.mem_singleton.2 rfl) (by simp only [zaf,own];rw [h];simp)
   have hap:∀ b∈[A.t,A.tg],¬ (b=A.x∨b=A.xg):=fun b hb hx=>hS.apartAt 3 4 rfl rfl (by decide) b (by simpa [zb4] using hb) (by simpa [zew] using hx)
   (refine zah tabOk mixed [] (fun b=>b=A.x∨b=A.xg∨(Value.slice a1 1 c1).ownBlock=some b) [0,1,2,3,4,5,6,7,8,9,10,11,12,13,14,15,16,17,18,19,20,21,22,23,24,25,26,27] (by kernel_rfl) ?_;rintro w1 rfl;replace hS:=hS.drew)
   have hK:=hS.ref (fun b=>b=A.x∨b=A.xg∨(Value.slice a1 1 c1).ownBlock=some b);repeat' ((conv=>whnf);first|refine hS.ldF 0 rfl rfl (fun h=>h.elim hn4 fun h=>h.elim hn5 hn8) ?_|refine hS.ldF 2 rfl rfl (fun h=>h.elim hc4 fun h=>h.elim hc5 hc8) ?_|refine hS.ldF 1 rfl rfl (fun h=>h.elim hr4 fun h=>h.elim hr5 hr8) ?_)
   refine (zgR (hS.get 3 rfl) (hS.get 4 rfl) hap hO2.tab hO2.told hO2.cur).mono ?_;rintro v w' ⟨⟨x,y,rfl⟩,hx,hB,ho,hf⟩;replace hS:=hS.updMade 4 rfl hx (fun c hc=>by simpa [zew] using hc) zet hB (fun c hc=>hc) zaj ho (fun g hg=>hf g (by simpa [zaf,own] using hg));replace hK:=hK.trans (hx.mono fun b h=>h.elim .inl fun h=>.inr (.inl h));refine KeepC.mk hK ?_;clear hx hB ho hf;(conv=>whnf);refine hS.litX Tryz.underlying81 (sz:=5) (by kernel_rfl) (z:=.agg (zae zcx).toArray) (by kernel_rfl) rfl rfl (cs:=zae ⟨(N3).id,(N3).cell.li,(N3).role.epoch,false,x,((N3).tel.picks (N3).tab.cells).length,y⟩) (by rfl) (fun b9 w3 hb9 hx hS=>?_);replace hK:=hK.trans hx.of_no;refine KeepC.mk hK ?_;clear hx;(conv=>whnf);refine hS.appX zak 7 (ys:=[⟨(N3).id,(N3).cell.li,(N3).role.epoch,false,x,((N3).tel.picks (N3).tab.cells).length,y⟩]) (G:=fun _=>True) Tryz.underlying81 (bytes:=56) (by kernel_rfl) (z:=.agg (zae zcx).toArray) (by kernel_rfl) rfl rfl (Slc.of_blk zak (hS.blk 9 rfl) rfl (by simp) (fun _ _=>trivial) rfl) (by unfold maxLen;show 1+1≤_;decide) (by show (1+1) * 56≤_;decide) (fun a2 c2 w4 hx hS=>?_);replace hK:=hK.trans (hx.mono fun q h=>.inr (.inr h));refine KeepC.mk hK ?_;clear hx hK;replace hS:=hS.keep 9;repeat' ((conv=>whnf);first|apply RetC.mk|refine nzO ?_|refine rgO ?_|refine ixO ?_|(first|apply brD|apply zad|apply brN|apply brI)<;>(intro))
   rw [zcz hbt]
   replace hS:St w (inF (zan A N R)) w4 (zan A { (N3) with tel:=(N3).tel.next (N3).tab.cells } (R')++zf7 a2 c2 x y [⟨(N3).id,(N3).cell.li,(N3).role.epoch,true,[]⟩,⟨(N3).id,(N3).cell.li,(N3).role.epoch,false,zcj (N3).tab.cells ((N3).tel.picks (N3).tab.cells)⟩]):=by
    have hc:zaH [⟨(N3).id,(N3).cell.li,(N3).role.epoch,true,[]⟩,⟨(N3).id,(N3).cell.li,(N3).role.epoch,false,zcj (N3).tab.cells ((N3).tel.picks (N3).tab.cells)⟩]=zcj (N3).tab.cells ((N3).tel.picks (N3).tab.cells):=by simp [zaH]
    have hv:[(⟨(N3).id,(N3).cell.li,(N3).role.epoch,true,[]⟩:NoteS),⟨(N3).id,(N3).cell.li,(N3).role.epoch,false,zcj (N3).tab.cells ((N3).tel.picks (N3).tab.cells)⟩].map (za8 x y)=[⟨(N3).id,(N3).cell.li,(N3).role.epoch,true,none,0,0⟩,⟨(N3).id,(N3).cell.li,(N3).role.epoch,false,x,((N3).tel.picks (N3).tab.cells).length,y⟩]:=by simp [za8,zaF]
    unfold zf7;rw [hc,hv,zaF];exact hS
   exact ⟨a2,c2,x,y,(R'),rfl,hA2,hR2,St.turns hS⟩
  ·have hbt:(N3).beat=false:=by
    unfold NodeS.beat;rw [decide_eq_false hz,Bool.and_false]
   conv=>whnf
   (refine zah tabOk mixed [] No [0,1,2,3,4,5,6,7,8,9,10,11,12,13,14,15,16,17,18,19,20,21,22] (by kernel_rfl) ?_;rintro w1 rfl;replace hS:=hS.drew)
   have hK:=hS.ref No;repeat' ((conv=>whnf);first|refine hS.ldF 0 rfl rfl id ?_|refine hS.ldF 2 rfl rfl id ?_|refine hS.ldF 1 rfl rfl id ?_)
   refine hS.litX Tryz.underlying81 (sz:=5) (by kernel_rfl) (z:=.agg (zae zcx).toArray) (by kernel_rfl) rfl rfl (cs:=zae ⟨(N3).id,(N3).cell.li,(N3).role.epoch,true,none,0,0⟩) (by rfl) (fun b9 w3 hb9 hx hS=>?_);replace hK:=hK.trans hx;refine KeepC.mk hK ?_;clear hx;(conv=>whnf);refine hS.appX zak 7 (ys:=[⟨(N3).id,(N3).cell.li,(N3).role.epoch,true,none,0,0⟩]) (G:=fun _=>True) Tryz.underlying81 (bytes:=56) (by kernel_rfl) (z:=.agg (zae zcx).toArray) (by kernel_rfl) rfl rfl (Slc.of_blk zak (hS.blk 8 rfl) rfl (by simp) (fun _ _=>trivial) rfl) (by unfold maxLen;decide) (by decide) (fun a1 c1 w4 hx hS=>?_);replace hK:=hK.trans (hx.mono fun q h=>by simp [Value.ownBlock] at h);refine KeepC.mk hK ?_;clear hx hK;replace hS:=hS.keep 8;(conv=>whnf);refine brD (fun h=>absurd h hz) (fun _=>?_);repeat' ((conv=>whnf);first|apply RetC.mk|refine nzO ?_|refine rgO ?_|refine ixO ?_|(first|apply brD|apply zad|apply brN|apply brI)<;>(intro))
   rw [zck hbt];exact ⟨a1,c1,none,0,(R'),rfl,hA2,hR2,St.turns (hS.addNil 209 10 zac)⟩
end
theorem Ev.St.mergeM {w0 w:World}{S:Nat→Prop}{H:List Ent}{bm g c:Nat}{life:Int}{l:List CellS}(h:St w0 S w (Ev.blk bm 135 [.int .i64 life,.slice (some ⟨g,0,none⟩) 32 c]::zaf 209 10 zac (.slice (some ⟨g,0,none⟩) 32 c) l::H)):St w0 S w (zjz bm g c ⟨life,l⟩::H):=by
 have hap:=List.pairwise_cons.1 h.apart;have hap2:=List.pairwise_cons.1 hap.2;have hg:g∈(zaf 209 10 zac (.slice (some ⟨g,0,none⟩) 32 c) l).foot:=by simp [zaf,own,Value.ownBlock]
 have hbm:bm∈(Ev.blk bm 135 [.int .i64 life,.slice (some ⟨g,0,none⟩) 32 c]).foot:=List.mem_singleton.2 rfl;have hne:bm≠g:=fun e=>hap.1 _ List.mem_cons_self bm hbm (e ▸ hg)
 have hmH:∀ f∈H,f∈Ev.blk bm 135 [.int .i64 life,.slice (some ⟨g,0,none⟩) 32 c]::zaf 209 10 zac (.slice (some ⟨g,0,none⟩) 32 c) l::H:=fun f hf=>List.mem_cons_of_mem _ (List.mem_cons_of_mem _ hf)
 refine ⟨h.ext,?_,?_,?_,?_⟩
 ·intro e he;rcases List.mem_cons.1 he with rfl|he
  ·exact ⟨hne,h.blk 0 rfl,h.get 1 rfl⟩
  ·exact h.each e (hmH e he)
 ·intro e he;rcases List.mem_cons.1 he with rfl|he
  ·exact zia
  ·exact h.loc e (hmH e he)
 ·intro e he b hb;rcases List.mem_cons.1 he with rfl|he
  ·simp only [zjz,List.mem_cons,List.not_mem_nil,or_false] at hb;rcases hb with rfl|rfl
   ·exact h.may _ List.mem_cons_self _ hbm
   ·exact h.may _ (List.mem_cons_of_mem _ List.mem_cons_self) _ hg
  ·exact h.may e (hmH e he) b hb
 ·refine .cons (fun f hf b hb=>?_) hap2.2;simp only [zjz,List.mem_cons,List.not_mem_nil,or_false] at hb;rcases hb with rfl|rfl
  ·exact hap.1 f (List.mem_cons_of_mem _ hf) _ hbm
  ·exact hap2.1 f hf _ hg
section
variable {w : World} {A : RNodeA} {N : NodeS} {R : RBy} {B : BytS}
theorem zr4 {m:Nat}{G:CellS→Prop}(x:NoteV) (cs:List CellS) (hx:Slc w 10 zac G x.a x.n cs) (hsrc:0 < x.n→∀ b0 o0,x.a=some ⟨b0,o0,none⟩→¬ inF (zan A N R) b0) (hN:Has w (zan A N R)) (hO:NOk m N) :
  CallC Tryz.prog 101 #[.pointer (some ⟨A.n,0,none⟩),.agg (zae x).toArray] w fun v w'=>v = .int .i64 ((N.hear ⟨x.fro,x.life,x.epoch,x.claim,cs⟩).1:Nat)∧∃ g' c',Turns w w' (zan A N R) (zan { A with mg:=g',mc:=c' } (N.hear ⟨x.fro,x.life,x.epoch,x.claim,cs⟩).2 R):=by
 have hid:=hO.id;refine zaa tabOk Tryz.func101 (by kernel_rfl) rfl Tryz.ntmps101 (lbO rfl) ?_;have hS:=hN.start;(conv=>whnf);refine hS.new (fun bx w' hbx hS=>?_);replace hS:St w (inF (zan A N R)) w' (zan A N R++[blk bx 200 (zae x)]):=hS;(conv=>whnf)
 (refine zah tabOk mixed [] No [0,1,2,3,4,5,6,7,8,9,10,11,12,13,14,15,16,17] (by kernel_rfl) ?_;rintro w1 rfl;replace hS:=hS.drew)
 repeat' ((conv=>whnf);first|refine hS.ldF 7 rfl rfl id ?_|refine hS.ldF 0 rfl rfl id ?_|refine rgO ?_)
 generalize hxs:(⟨x.fro,x.life,x.epoch,x.claim,cs⟩:NoteS)=xs
 have hcond:(x.fro≠1 - N.id∨x.epoch < 0∨x.epoch > 1073741824)→N.hear xs=(2,N):=fun h=>by
  subst hxs;exact if_pos h
 conv=>whnf
 refine zad (fun h1=>?_) (fun h1=>?_)
 ·rw [hcond (.inl h1)];repeat' ((conv=>whnf);first|apply RetC.mk|refine rgO ?_|refine ixO ?_|(first|apply brD|apply zad|apply brN|apply brI)<;>(intro))
  exact ⟨rfl,A.mg,A.mc,(hS.keep 7).turns⟩
 conv=>whnf
 refine hS.ldF 7 rfl rfl id ?_;(conv=>whnf);refine brD (fun h2=>?_) (fun h2=>?_)
 ·rw [hcond (.inr (.inl h2))];repeat' ((conv=>whnf);first|apply RetC.mk|refine rgO ?_|refine ixO ?_|(first|apply brD|apply zad|apply brN|apply brI)<;>(intro))
  exact ⟨rfl,A.mg,A.mc,(hS.keep 7).turns⟩
 conv=>whnf
 refine hS.ldF 7 rfl rfl id ?_;(conv=>whnf);refine brD (fun h3=>?_) (fun h3=>?_)
 ·rw [hcond (.inr (.inr h3))];repeat' ((conv=>whnf);first|apply RetC.mk|refine rgO ?_|refine ixO ?_|(first|apply brD|apply zad|apply brN|apply brI)<;>(intro))
  exact ⟨rfl,A.mg,A.mc,(hS.keep 7).turns⟩
 conv=>whnf
 refine hS.ld 7 rfl rfl ?_;cases hcl:x.claim
 case true =>
  rw [show N.hear xs=(3,N) by subst hxs;unfold NodeS.hear;rw [if_neg (by dsimp only;omega),if_pos hcl]];repeat' ((conv=>whnf);first|apply RetC.mk|refine rgO ?_|refine ixO ?_|(first|apply brD|apply zad|apply brN|apply brI)<;>(intro))
  exact ⟨rfl,A.mg,A.mc,(hS.keep 7).turns⟩
 have hh:N.hear xs=if (N.mir.tell x.life cs).1≠0 then ((N.mir.tell x.life cs).1,{ N with mir:=(N.mir.tell x.life cs).2 }) else (0,{ N with mir:=(N.mir.tell x.life cs).2,role:=(N.role.hear x.epoch).2 }):=by
  subst hxs;unfold NodeS.hear;rw [if_neg (by dsimp only;omega),if_neg (by show ¬ x.claim=true;rw [hcl];decide)]
 have hn5:=St.neF hS 0 5 rfl rfl (by decide) (c:=A.m) (by simp [zjz]);have hn6:=St.neF hS 0 5 rfl rfl (by decide) (c:=A.mg) (by simp [zjz]);have hn7:=St.neF hS 7 5 rfl rfl (by decide) (c:=A.m) (by simp [zjz]);have hn8:=St.neF hS 7 5 rfl rfl (by decide) (c:=A.mg) (by simp [zjz]);(conv=>whnf)
 (refine zah tabOk mixed [] (fun b=>b=A.m∨b=A.mg) [0,1,2,3,4,5,6,7,8,9] (by kernel_rfl) ?_;rintro w1 rfl;replace hS:=hS.drew)
 repeat' ((conv=>whnf);first|refine hS.ldF 0 rfl rfl (fun h=>h.elim hn5 hn6) ?_|refine hS.ldF 7 rfl rfl (fun h=>h.elim hn7 hn8) ?_)
 have hinm:∀ d,d=A.m∨d=A.mg→inF (zan A N R) d:=fun d hd=>⟨_,List.mem_of_getElem? (i:=5) rfl,by simpa [zjz] using hd⟩
 refine (znl x.life (hS.get 5 rfl) hO.mir (hx.extN hS.ext hsrc) (fun h b0 o0 ha=>⟨fun e=>hsrc h b0 o0 ha (hinm _ (.inl e)),fun e=>hsrc h b0 o0 ha (hinm _ (.inr e))⟩)).mono ?_;rintro v w' ⟨g',c',rfl,hx',hM,hg'⟩;refine KeepC.mk hx' ?_
 replace hS:=hS.upd 5 rfl hx' (fun d hd=>by simpa [zjz] using hd) zia hM (by
  intro d hd;simp only [zjz,List.mem_cons,List.not_mem_nil,or_false] at hd ⊢;rcases hd with rfl|rfl
  ·exact .inl (.inl rfl)
  ·rcases hg' with rfl|h
   ·exact .inl (.inr rfl)
   ·exact .inr h)
 rw [hh];clear hh hcond hxs hM hx' hg' hn5 hn6 hn7 hn8 hinm hsrc hx;generalize N.mir.tell x.life cs=Q at hS ⊢;obtain ⟨k,M⟩:=Q;replace hS:St w (inF (zan A N R)) w' (zan { A with mg:=g',mc:=c' } { N with mir:=M } R++[blk bx 200 (zae x)]):=hS;by_cases hk:k=0
 case neg =>
  rw [if_pos (show ((k,M):Nat × MirS).1≠0 from hk)];(conv=>whnf);refine brD (fun h=>absurd (show k=0 by omega) hk) (fun _=>?_);repeat' ((conv=>whnf);first|apply RetC.mk|refine rgO ?_|refine ixO ?_|(first|apply brD|apply zad|apply brN|apply brI)<;>(intro))
  exact ⟨rfl,g',c',(hS.keep 7).turns⟩
 subst hk;rw [if_neg (show ¬ ((0,M):Nat × MirS).1≠0 by simp)];have hn1:=hS.ne 0 1 rfl rfl (by decide);have hn8:=hS.ne 7 1 rfl rfl (by decide);(conv=>whnf)
 (refine zah tabOk mixed [] (fun b=>b=A.r) [0,1,2,3,4,5,6] (by kernel_rfl) ?_;rintro w1 rfl;replace hS:=hS.drew)
 repeat' ((conv=>whnf);first|refine hS.ldF 0 rfl rfl hn1 ?_|refine hS.ldF 7 rfl rfl hn8 ?_)
 refine (zqq x.epoch (hS.blk 1 rfl)).mono ?_;rintro v w' ⟨rfl,hx',hB⟩;refine KeepC.mk hx' ?_;replace hS:=hS.upd 1 rfl hx' (fun c hc=>by subst hc;exact List.mem_singleton.2 rfl) (zab _ _ _) hB (fun c hc=>.inl hc);repeat' ((conv=>whnf);first|apply RetC.mk|refine rgO ?_|refine ixO ?_|(first|apply brD|apply zad|apply brN|apply brI)<;>(intro))
 exact ⟨rfl,g',c',(hS.keep 7).turns⟩
theorem zpE (C:CelS) (B:BytS) (l:Int):(C.put B C.ep l).2.2.ep=C.ep:=by
 unfold CelS.put;repeat' split
 all_goals dsimp only
 all_goals simp
theorem zlw {k b:Nat}{a:Option Addr}{c:Nat}{xs:List RuleS}(id:Int) (hid:id=0∨id=1) (hb:Blk w b 194 (zcv R)) (hA:Alike R B) (hB:BOk B) (hR:ROk R k) (hk:k≤50000000) :
  CallC Tryz.prog 48 #[.int .i64 id,.pointer (some ⟨b,0,none⟩),.slice a xs.length c] w fun v w'=>∃ R',Alike R' (zbL id B xs).2.2∧ROk R' (k+18) ∧
   (((zbL id B xs).1=0∧∃ A:RNodeA,A.b=b∧A.ra=a∧A.rc=c∧v = .tuple #[.pointer (some ⟨A.n,0,none⟩),.int .i64 0]∧Turns w w' [blk b 194 (zcv R)] (zan A (zbL id B xs).2.1 R')) ∨
   ((zbL id B xs).1≠0∧v = .tuple #[.pointer none,.int .i64 ((zbL id B xs).1:Nat)]∧Ext (· = b) w w'∧Blk w' b 194 (zcv R'))):=by
 have hH:Has w [blk b 194 (zcv R)]:=((St.start w (· = b)).add (zab b _ _) hb (by simp [blk];exact hb.lt) (by simp)).has
 have hin:∀ d,inF [blk b 194 (zcv R)] d→d=b:=fun d ⟨e,he,hd⟩=>by
  obtain rfl:=List.mem_singleton.1 he;exact List.mem_singleton.1 hd
 have hS:=hH.start;clear hb;refine zaa tabOk Tryz.func48 (by kernel_rfl) rfl Tryz.ntmps48 (lbO rfl) ?_;(conv=>whnf);refine (zqW (hS.blk 0 rfl) hR.len).mono ?_;rintro v w3 ⟨bc,rfl,hbc,hx',hB1⟩;replace hS:=hS.made hx' (zab _ _ _) hB1 (by simp [blk];exact ⟨hbc,hB1.lt⟩);clear hx' hB1;have hlt:=zgy R.data 2;have hnew:zbL id B xs=(((zav R.data).put B (zav R.data).ep ((zav R.data).li+1)).1,.born id ((zav R.data).put B (zav R.data).ep ((zav R.data).li+1)).2.2 xs,((zav R.data).put B (zav R.data).ep ((zav R.data).li+1)).2.1):=by rw [hA.data];rfl
 rw [hnew];generalize hC:zav R.data=C at hS ⊢;have hlt:C.num < 4294967296∧C.ep < 4294967296∧C.li < 4294967296:=by rw [← hC];exact hlt
 clear hnew hC;(conv=>whnf);refine ztw tabOk mixed [8] (fun w1 w'=>Ext (fun d=>d=b∨d=bc) w1 w'∧∃ C':CelS,C'.ep=C.ep∧Blk w' bc 137 (zdl b C')) [0,1,2,3,4,5,6,7,8,9,10,11] (by kernel_rfl) ?_;rintro w1 rfl;replace hS:=hS.drew;refine ⟨⟨Ext.refl _ _,C,rfl,hS.blk 1 rfl⟩,?_⟩;have hK:=hS.ref (fun d=>d=b∨d=bc);(conv=>whnf);refine ⟨.int .i64 C.ep,fun w' h=>by obtain ⟨_,C',h1,h2⟩:=h;rw [h2.cell,← h1];rfl,?_⟩;(conv=>whnf);refine hS.ld 1 rfl rfl ?_;refine KeepC.mk ⟨hK,C,rfl,hS.blk 1 rfl⟩ ?_;(conv=>whnf);refine rgO ?_;(conv=>whnf);refine (zmr C.ep (C.li+1) (hS.blk 1 rfl) (hS.blk 0 rfl) hA hB hR hk hlt.1).mono ?_;rintro v w6 ⟨rfl,hx',R',hA',hR',hB1,hC1⟩;have hep:=zjj C B C.ep (C.li+1);refine KeepC.mk ⟨hK.trans hx',_,zpE _ _ _,hC1⟩ ?_;have hS2:=Ev.St.upd2 hS hx' (by simp [blk]) (zab _ _ _) hB1 rfl (zab _ _ _) hC1 rfl;clear hS hB1 hC1 hx' hK;generalize C.put B C.ep (C.li+1)=Q at hS2 hep hA' ⊢;obtain ⟨e,B2,C2⟩:=Q;have hS:St w (inF [blk b 194 (zcv R)]) w6 [blk b 194 (zcv R'),blk bc 137 (zdl b C2)]:=hS2;clear hS2;dsimp only at hep hA' ⊢;by_cases he:e=0
 case neg =>
  (conv=>whnf);refine brD (fun _=>?_) (fun h=>absurd (show (e:Int) > 0 by omega) h);repeat' ((conv=>whnf);first|apply RetC.mk|refine rgO ?_|refine ixO ?_|(first|apply brD|apply zad|apply brN|apply brI)<;>(intro))
  exact ⟨R',hA',hR',.inr ⟨he,rfl,hS.ext.mono hin,hS.blk 0 rfl⟩⟩
 subst he;obtain ⟨he,_⟩:=hep rfl;(conv=>whnf);refine DrawC.cut (fun σ w'=>∃ br bt tg tc bm mg mc bn,σ=[(10,.pointer (some ⟨bn,0,none⟩))]∧St w (inF [blk b 194 (zcv R)]) w' [zjz bm mg mc ⟨0,emptyCells⟩,blk b 194 (zcv R'),blk bc 137 (zdl b C2),blk br 121 (za0 ⟨id,C2.ep,0,false⟩),zb4 bt tg tc ⟨2000+id * 24,emptyCells⟩,blk bn 128 [.int .i64 id,.int .i64 0,.pointer (some ⟨bc,0,none⟩),.pointer (some ⟨br,0,none⟩),.pointer (some ⟨bt,0,none⟩),.pointer none,.pointer (some ⟨bm,0,none⟩),.slice a xs.length c]]) ?_ ?_
 ·refine zeI tabOk mixed [] (No) (.take 0 (.take 1 (.take 2 (.take 3 (.take 4 (.take 5 (.take 6 (.take 7 (.take 9 (.take 14 (.alt 8 (.alt 10 (.alt 11 (.take 12 (.alt 13 (.take 15 (.alt 16 (.take 17 .fin) .fin)) .fin)) .fin) .fin) (.alt 10 (.alt 8 (.alt 11 (.take 12 (.alt 13 (.take 15 (.alt 16 (.take 17 .fin) .fin)) .fin)) .fin) (.alt 11 (.take 12 (.alt 8 (.alt 13 (.take 15 (.alt 16 (.take 17 .fin) .fin)) .fin) (.alt 13 (.alt 8 (.take 15 (.alt 16 (.take 17 .fin) .fin)) .fin) .fin))) .fin)) .fin)))))))))))) (by kernel_rfl) ?_;rintro w1 rfl;replace hS:=hS.drew;have hK:=hS.ref No;repeat' ((conv=>whnf);first|refine And.intro ?_ ?_|refine hS.ldF 1 rfl rfl (fun h=>h) ?_|(refine hS.newK hK (fun bw w' hK hS=>KeepC.mk hK ?_))|(refine (zlQ id hid _).mono ?_;rintro v w' ⟨bt,tg,tc,rfl,hx',hT,hf⟩;replace hS:=hS.made hx' zbz hT hf;replace hK:=hK.trans hx';clear hx' hT hf;refine KeepC.mk hK ?_)|(refine (zjx _).mono ?_;rintro v w' ⟨mg,mc,rfl,hx',ho,hf⟩;replace hS:=hS.made hx' zaj ho (fun g hg=>hf g (by simpa [zaf,own] using hg));replace hK:=hK.trans hx';clear hx' ho hf;refine KeepC.mk hK ?_))
  all_goals first
   | exact CutE.mk ⟨[(10,_)],⟨rfl,trivial⟩,_,_,_,_,_,_,_,_,rfl,(hS.sel [5,4,0,1,2,3,6] (by decide)).mergeM⟩
   | exact CutE.mk ⟨[(10,_)],⟨rfl,trivial⟩,_,_,_,_,_,_,_,_,rfl,(hS.sel [5,4,0,1,3,2,6] (by decide)).mergeM⟩
   | exact CutE.mk ⟨[(10,_)],⟨rfl,trivial⟩,_,_,_,_,_,_,_,_,rfl,(hS.sel [5,3,0,1,4,2,6] (by decide)).mergeM⟩
   | exact CutE.mk ⟨[(10,_)],⟨rfl,trivial⟩,_,_,_,_,_,_,_,_,rfl,(hS.sel [4,3,0,1,5,2,6] (by decide)).mergeM⟩
   | trace_state
 clear hS;rintro _ w7 ⟨br,bt,tg,tc,bm,mg,mc,bn,rfl,hS⟩;(conv=>whnf);refine hS.ld 5 rfl rfl ?_;(conv=>whnf);refine (zqN _).mono ?_;rintro v w8 ⟨bx,xg,xc,rfl,hx',hL,hf⟩;replace hS:=hS.made hx' zet hL hf;(conv=>whnf);refine hS.st 5 rfl (lbO rfl) rfl (fun w' hS=>?_);have hS2:=hS.sel [5,3,2,4,6,0,1] (by decide);repeat' ((conv=>whnf);first|apply RetC.mk|refine rgO ?_|refine ixO ?_|(first|apply brD|apply zad|apply brN|apply brI)<;>(intro))
 exact ⟨R',hA',hR',.inl ⟨rfl,⟨bn,br,bc,bt,tg,tc,bx,xg,xc,bm,mg,mc,b,a,c⟩,rfl,rfl,rfl,rfl,St.turns hS2⟩⟩
end
section
variable {w : World}
end
theorem Ev.St.madeAll {w0 w w':World}{S:Nat→Prop}{H L:List Ent}(h:St w0 S w H) (hx:Ext No w w') (hL:Has w' L) (hf:∀ b,inF L b→w.heap.size≤b):St w0 S w' (H++L):=by
 have h1:=h.no hx;refine ⟨h1.ext,?_,?_,?_,?_⟩
 ·intro e he;rcases List.mem_append.1 he with he|he
  ·exact h1.each e he
  ·exact hL.each e he
 ·intro e he;rcases List.mem_append.1 he with he|he
  ·exact h1.loc e he
  ·exact hL.loc e he
 ·intro e he b hb;rcases List.mem_append.1 he with he|he
  ·exact h1.may e he b hb
  ·exact ⟨.inr (Nat.le_trans h.ext.size (hf b ⟨e,he,hb⟩)),hL.lt e he b hb⟩
 ·refine List.pairwise_append.2 ⟨h1.apart,hL.apart,fun e he f hf' b hb hb'=>?_⟩;have h2:=(h.may e he b hb).2;have h3:=hf b ⟨f,hf',hb'⟩;omega
section
variable {w w' : World}
theorem zmE {α:Type}{e:TypeId}{sz n c:Nat}{enc:α→List Value}{a:Option Addr}{xs:List α}(h:(zaf e sz enc (.slice a n c) xs).holds w):n≤c:=by
 rcases zf0 h with ⟨_,h1,_,h2,_⟩ | ⟨_,_,_,h1,_,h2,_⟩
 ·omega
 ·omega
theorem Ev.St.rowFirst {α:Type}{w0 w:World}{S:Nat→Prop}{H:List Ent}(h:St w0 S w H) (e:TypeId) (sz:Nat) (enc:α→List Value):St w0 S w ([zaf e sz enc (.slice none 0 0) []]++H):=(h.addNil e sz enc).perm List.perm_append_comm
theorem zpG {d:Nat}(hd:10≤d):Dec Tryz.prog w d 98 zal (fun _=>True):=by
 intro cs h;have h1:zhX Tryz.prog 10 98=some [.bool,.bool,.int,.int,.int]:=by kernel_rfl
 have h2:Tryz.prog.cellsOf 98=5:=by kernel_rfl
 obtain ⟨ps,rfl,hk,hok⟩:=zme 10 d _ _ cs h1 hd h2 h;obtain ⟨p1,r,rfl,g1,hk⟩:=zbj hk;obtain ⟨p2,r,rfl,g2,hk⟩:=zbj hk;obtain ⟨p3,r,rfl,g3,hk⟩:=zbj hk;obtain ⟨p4,r,rfl,g4,hk⟩:=zbj hk;obtain ⟨p5,r,rfl,g5,hk⟩:=zbj hk;obtain rfl:=zj1 hk;obtain ⟨n1,rfl⟩:=zsu g1;obtain ⟨n2,rfl⟩:=zsu g2;obtain ⟨n3,rfl⟩:=zi0 g3;obtain ⟨n4,rfl⟩:=zi0 g4;obtain ⟨n5,rfl⟩:=zi0 g5;exact ⟨⟨n1,n2,n3,n4,n5⟩,rfl,trivial⟩
end
structure RWorldA where
 w:Nat
 na:Option Addr
 nc:Nat
 ba:Option Addr
 bc:Nat
 ra:Option Addr
 rc:Nat
 la:Option Addr
 lc:Nat
 vs:List NoteV
 ea:Option Addr
 ec:Nat
 a:RNodeA
 b:RNodeA
def RWorldA.side (Y:RWorldA) (n:Int):RNodeA:=if n=0 then Y.a else Y.b
def RWorldA.setSide (Y:RWorldA) (n:Int) (A:RNodeA):RWorldA:=if n=0 then { Y with a:=A } else { Y with b:=A }
structure RBys where
 a:RBy
 b:RBy
def RBys.side (R:RBys) (n:Int):RBy:=if n=0 then R.a else R.b
def RBys.setSide (R:RBys) (n:Int) (s:RBy):RBys:=if n=0 then { R with a:=s } else { R with b:=s }
def zgw (p:Option Addr):List Value:=[.pointer p]
theorem zoO:Codec 1 zgw:=⟨fun _=>rfl,fun _=>rfl,by decide⟩
def zaK (A:RNodeA) (s:SideS):Option Addr:=match s.node with|some _=>some ⟨A.n,0,none⟩|none=>none
def two (n:Int) (p q:Option Addr):List (Option Addr):=if n=0 then [p,q] else [q,p]
def ztE (Y:RWorldA) (W:WorldS):List Value:=[.slice Y.na 2 Y.nc,.slice Y.ba 2 Y.bc,.slice Y.ra W.rules.length Y.rc,.slice Y.la W.fly.length Y.lc,.int .i64 W.to,.int .i64 W.epoch,.slice Y.ea W.events.length Y.ec]
def zb7 (A:RNodeA) (s:SideS) (R:RBy):List Ent:=match s.node with
 | some N=>zan A N R
 | none=>[blk A.b 194 (zcv R)]
def zcb (Y:RWorldA) (W:WorldS) (np bp:List (Option Addr)):List Ent:=[blk Y.w 83 (ztE Y W),zaf 111 1 zgw (.slice Y.na 2 Y.nc) np,zaf 109 1 zgw (.slice Y.ba 2 Y.bc) bp,zaf 200 5 zae (.slice Y.la W.fly.length Y.lc) Y.vs,zat Y.vs W.fly,zaf 156 2 zbG (.slice Y.ea W.events.length Y.ec) W.events]
def byP (A:RNodeA):Option Addr:=some ⟨A.b,0,none⟩
def zaw (Y:RWorldA) (W:WorldS) (R:RBys):List Ent:=zcb Y W [zaK Y.a W.a,zaK Y.b W.b] [byP Y.a,byP Y.b]++(zb7 Y.a W.a R.a++zb7 Y.b W.b R.b)
def zaR (Y:RWorldA) (W:WorldS) (R:RBys) (n:Int):List Ent:=zcb Y W (two n (zaK (Y.side n) (W.side n)) (zaK (Y.side (1 - n)) (W.side (1 - n)))) (two n (byP (Y.side n)) (byP (Y.side (1 - n))))++zb7 (Y.side n) (W.side n) (R.side n)
theorem zcK (Y:RWorldA) (W:WorldS) (R:RBys) {n:Int}(hn:n=0∨n=1):(zaw Y W R).Perm (zaR Y W R n++zb7 (Y.side (1 - n)) (W.side (1 - n)) (R.side (1 - n))):=by
 rcases hn with rfl|rfl
 ·unfold zaw zaR;rw [List.append_assoc];exact List.Perm.refl _
 ·unfold zaw zaR;rw [List.append_assoc];exact List.Perm.append_left _ List.perm_append_comm
theorem zlu {n:Int}(hn:n=0∨n=1) (p q:Option Addr):(two n p q)[n.toNat]?=some p:=by
 rcases hn with rfl|rfl<;>rfl
theorem ztL {n:Int}(hn:n=0∨n=1) (p q r:Option Addr):(two n p q).set n.toNat r=two n r q:=by
 rcases hn with rfl|rfl<;>rfl
section
variable {w w' w0 : World} {Y : RWorldA} {W : WorldS} {R : RBys} {m j : Nat}
def RulesAt (w0:World) (a:Option Addr) (n:Nat) (xs:List RuleS):Prop:=Slc w0 5 zal (fun _=>True) a n xs
structure RSide (w0:World) (j:Nat) (A:RNodeA) (s:SideS) (R:RBy):Prop where
 alike:Alike R s.byt
 rok:ROk R j
 rules:∀ N,s.node=some N→RulesAt w0 A.ra N.rules.length N.rules
structure RStands (w0:World) (m j:Nat) (w:World) (Y:RWorldA) (W:WorldS) (R:RBys):Prop where
 has:Has w (zaw Y W R)
 ok:WOk m W
 ext:Ext No w0 w
 new:∀ b,inF (zaw Y W R) b→w0.heap.size≤b
 rules:RulesAt w0 Y.ra W.rules.length W.rules
 a:RSide w0 j Y.a W.a R.a
 b:RSide w0 j Y.b W.b R.b
theorem RSide.le {A:RNodeA}{s:SideS}{B:RBy}(h:RSide w0 j A s B) {k:Nat}(hk:j≤k):RSide w0 k A s B:=⟨h.alike,h.rok.le hk,h.rules⟩
theorem RStands.side (h:RStands w0 m j w Y W R) {n:Int}(hn:n=0∨n=1):RSide w0 j (Y.side n) (W.side n) (R.side n):=by
 rcases hn with rfl|rfl
 ·exact h.a
 ·exact h.b
theorem RStands.half (h:RStands w0 m j w Y W R) {n:Int}(hn:n=0∨n=1):Has w (zaR Y W R n):=(h.has.perm (zcK Y W R hn)).left
theorem RulesAt.out {a:Option Addr}{n:Nat}{xs:List RuleS}(h:RulesAt w0 a n xs) {H:List Ent}(hf:∀ b,inF H b→w0.heap.size≤b):0 < n→∀ b0 o0,a=some ⟨b0,o0,none⟩→¬ inF H b0:=fun h0 b0 o0 ha hb=>by
 obtain ⟨b1,o1,x,_,_,h3,h4,_⟩:=Slc.at h h0;rw [ha] at h3;simp only [Option.some.injEq,Addr.mk.injEq] at h3;obtain ⟨rfl,_⟩:=h3;have:=hf _ hb;omega
theorem RStands.turns (h:RStands w0 m j w Y W R) {m' j':Nat}{Y':RWorldA}{W':WorldS}{R':RBys}(k:Turns w w' (zaw Y W R) (zaw Y' W' R')) (ok:WOk m' W') (hr:RulesAt w0 Y'.ra W'.rules.length W'.rules) (ha:RSide w0 j' Y'.a W'.a R'.a) (hb:RSide w0 j' Y'.b W'.b R'.b):RStands w0 m' j' w' Y' W' R' :=
 ⟨k.has,ok,h.ext.then k.ext fun b hb=>.inr (h.new b hb),fun b ⟨e,he,hb⟩=>(k.foot e he b hb).elim (h.new b) fun g=>Nat.le_trans h.ext.size g,hr,ha,hb⟩
theorem RStands.no (h:RStands w0 m j w Y W R) (hx:Ext No w w'):RStands w0 m j w' Y W R:=h.turns (Turns.of_no h.has hx) h.ok h.rules h.a h.b
theorem zhA {n:Int}(hn:n=0∨n=1) (A:RNodeA) (s:SideS) (B:RBy):(Y.setSide n A).side n=A∧(Y.setSide n A).side (1 - n)=Y.side (1 - n)∧(R.setSide n B).side n=B∧(R.setSide n B).side (1 - n)=R.side (1 - n):=by
 rcases hn with rfl|rfl<;>exact ⟨rfl,rfl,rfl,rfl⟩
theorem zkk {n:Int}(hn:n=0∨n=1) (A:RNodeA) (s:SideS) (B:RBy):zaR (Y.setSide n A) (W.setSide n s) (R.setSide n B) n=zcb Y W (two n (zaK A s) (zaK (Y.side (1 - n)) (W.side (1 - n)))) (two n (byP A) (byP (Y.side (1 - n))))++zb7 A s B:=by
 rcases hn with rfl|rfl<;>rfl
theorem RTurns.world {n:Int}(hn:n=0∨n=1) (h:Has w (zaw Y W R)) {Y':RWorldA}{W':WorldS}{R':RBys}(k:Turns w w' (zaR Y W R n) (zaR Y' W' R' n)) (hy:Y'.side (1 - n)=Y.side (1 - n)) (hw:W'.side (1 - n)=W.side (1 - n)) (hr:R'.side (1 - n)=R.side (1 - n)):Turns w w' (zaw Y W R) (zaw Y' W' R'):=by
 have h1:=h.perm (zcK Y W R hn);have h2:=Turns.frame h1 k;rw [← hy,← hw,← hr] at h2;have h3:=zcK Y' W' R' hn
 have h4:(zaR Y W R n++zb7 (Y'.side (1 - n)) (W'.side (1 - n)) (R'.side (1 - n))).Perm (zaw Y W R):=by
  rw [hy,hw,hr];exact (zcK Y W R hn).symm
 exact h2.perm h4 h3.symm
theorem RTurns.side (h:Has w (zaw Y W R)) {n:Int}(hn:n=0∨n=1) {A:RNodeA}{s:SideS}{B:RBy}(k:Turns w w' (zaR Y W R n) (zcb Y W (two n (zaK A s) (zaK (Y.side (1 - n)) (W.side (1 - n)))) (two n (byP A) (byP (Y.side (1 - n))))++zb7 A s B)):Turns w w' (zaw Y W R) (zaw (Y.setSide n A) (W.setSide n s) (R.setSide n B)):=by
 rw [← zkk hn A s B] at k;have h5:=zhA (Y:=Y) (R:=R) hn A s B;have h6:(W.setSide n s).side (1 - n)=W.side (1 - n):=by rcases hn with rfl|rfl<;>rfl
 exact RTurns.world hn h k h5.2.1 h6 h5.2.2.2
end
section
variable {w w' w0 : World} {Y : RWorldA} {W : WorldS} {R : RBys} {m j : Nat}
theorem zgU {A:RNodeA}{s:SideS}{N:NodeS}(h:s.node=some N):zaK A s=some ⟨A.n,0,none⟩:=by
 unfold zaK;rw [h]
theorem zg1 {A:RNodeA}{s:SideS}(h:s.node=none):zaK A s=none:=by
 unfold zaK;rw [h]
theorem zhK {A:RNodeA}{s:SideS}{B:RBy}{N:NodeS}(h:s.node=some N):zb7 A s B=zan A N B:=by
 unfold zb7;rw [h]
theorem zg3 {A:RNodeA}{s:SideS}{B:RBy}(h:s.node=none):zb7 A s B=[blk A.b 194 (zcv B)]:=by
 unfold zb7;rw [h]
theorem zbB {n:Int}{N:NodeS}(h:(W.side n).node=some N):zaR Y W R n=zcb Y W (two n (some ⟨(Y.side n).n,0,none⟩) (zaK (Y.side (1 - n)) (W.side (1 - n)))) (two n (byP (Y.side n)) (byP (Y.side (1 - n))))++zan (Y.side n) N (R.side n):=by
 unfold zaR;rw [zhK h,zgU h]
theorem zbV {n:Int}(h:(W.side n).node=none):zaR Y W R n=zcb Y W (two n none (zaK (Y.side (1 - n)) (W.side (1 - n)))) (two n (byP (Y.side n)) (byP (Y.side (1 - n))))++[blk (Y.side n).b 194 (zcv (R.side n))]:=by
 unfold zaR;rw [zg3 h,zg1 h]
theorem Ev.St.ldTwo {w0 w:World}{S:Nat→Prop}{H:List Ent}(h:St w0 S w H) (i:Nat) {e:TypeId}{b o n' c off:Nat}{n:Int}{p q:Option Addr}{K:Value→Prop}(hn:n=0∨n=1) (hi:H[i]?=some (zaf e 1 zgw (.slice (some ⟨b,o,none⟩) n' c) (two n p q))) (ho:off=o+n.toNat * 1) (hk:K (.pointer p)):LdC w b off K:=by
 subst ho;have hs:=zap (G:=fun _=>True) zoO (h.get i hi) (fun _ _=>trivial);obtain ⟨b0,o0,h1,_,hc⟩:=hs.cells n.toNat p (zlu hn p q);simp only [Option.some.injEq,Addr.mk.injEq] at h1;obtain ⟨rfl,rfl,_⟩:=h1;have h2:=hc 0 (.pointer p) rfl;exact ⟨_,h2,hk⟩
theorem Ev.St.ldTwoF {w0 w:World}{S T:Nat→Prop}{H:List Ent}(h:St w0 S w H) (i:Nat) {e:TypeId}{b o n' c off:Nat}{n:Int}{p q:Option Addr}{K:Value→Prop}(hn:n=0∨n=1) (hi:H[i]?=some (zaf e 1 zgw (.slice (some ⟨b,o,none⟩) n' c) (two n p q))) (ho:off=o+n.toNat * 1) (hT:¬ T b) (hk:K (.pointer p)):LdF (Ext T w) b off K:=by
 subst ho;have hs:=zap (G:=fun _=>True) zoO (h.get i hi) (fun _ _=>trivial);obtain ⟨b0,o0,h1,_,hc⟩:=hs.cells n.toNat p (zlu hn p q);simp only [Option.some.injEq,Addr.mk.injEq] at h1;obtain ⟨rfl,rfl,_⟩:=h1;have h2:=hc 0 (.pointer p) rfl;exact ldFc h2 hT hk
theorem za1 {w:World}{e:TypeId}{a:Option Addr}{c:Nat}{n:Int}{p q:Option Addr}(h:(zaf e 1 zgw (.slice a 2 c) (two n p q)).holds w):∃ g,a=some ⟨g,0,none⟩:=by
 rcases zf0 h with ⟨_,h1,_⟩ | ⟨g,_,h1,_⟩
 ·cases h1
 ·exact ⟨g,h1⟩
theorem zfe (n:Int) (h:RStands w0 m j w Y W R):CallC Tryz.prog 98 #[.pointer (some ⟨Y.w,0,none⟩),.int .i64 n] w fun v w'=>v = .int .i64 (W.upErr n:Nat)∧w=w':=by
 by_cases hn:n=0∨n=1
 ·have hH:=h.half hn;have hS:=hH.start;cases hN:(W.side n).node with
  | none =>
   rw [zbC hn hN];rw [zbV hN] at hS;obtain ⟨g,hg⟩:=za1 (hS.get 1 rfl);refine zaa tabOk Tryz.func98 (by kernel_rfl) rfl Tryz.ntmps98 (lbO rfl) ?_;(conv=>whnf);refine brD (fun h1=>absurd h1 (by omega)) (fun _=>?_);(conv=>whnf);refine brD (fun h1=>absurd h1 (by omega)) (fun _=>?_);(conv=>whnf);refine hS.ld 0 rfl (v:=.slice (some ⟨g,0,none⟩) 2 Y.nc) (by rw [← hg];rfl) ?_;(conv=>whnf);refine ixO ?_;(conv=>whnf);refine hS.ldTwo 1 hn (by rw [← hg];rfl) rfl ?_;repeat' ((conv=>whnf);first|apply RetC.mk|refine rgO ?_|refine ixO ?_|(first|apply brD|apply zad|apply brN|apply brI)<;>(intro))
   exact ⟨rfl,rfl⟩
  | some N =>
   rw [zbr hn hN];rw [zbB hN] at hS;obtain ⟨g,hg⟩:=za1 (hS.get 1 rfl);refine zaa tabOk Tryz.func98 (by kernel_rfl) rfl Tryz.ntmps98 (lbO rfl) ?_;(conv=>whnf);refine brD (fun h1=>absurd h1 (by omega)) (fun _=>?_);(conv=>whnf);refine brD (fun h1=>absurd h1 (by omega)) (fun _=>?_);(conv=>whnf);refine hS.ld 0 rfl (v:=.slice (some ⟨g,0,none⟩) 2 Y.nc) (by rw [← hg];rfl) ?_;(conv=>whnf);refine ixO ?_;(conv=>whnf);refine hS.ldTwo 1 hn (by rw [← hg];rfl) rfl ?_;repeat' ((conv=>whnf);first|apply RetC.mk|refine rgO ?_|refine ixO ?_|(first|apply brD|apply zad|apply brN|apply brI)<;>(intro))
   exact ⟨rfl,rfl⟩
 ·rw [show W.upErr n=2 from if_pos (by omega)];refine zaa tabOk Tryz.func98 (by kernel_rfl) rfl Tryz.ntmps98 (lbO rfl) ?_;(conv=>whnf);refine brD (fun h1=>?_) (fun h1=>?_)
  ·repeat' ((conv=>whnf);first|apply RetC.mk|refine rgO ?_|refine ixO ?_|(first|apply brD|apply zad|apply brN|apply brI)<;>(intro))
   exact ⟨rfl,rfl⟩
  ·(conv=>whnf)
   refine brD (fun h1=>?_) (fun h1=>by omega);repeat' ((conv=>whnf);first|apply RetC.mk|refine rgO ?_|refine ixO ?_|(first|apply brD|apply zad|apply brN|apply brI)<;>(intro))
   exact ⟨rfl,rfl⟩
theorem zds (h:RStands w0 m j w Y W R):CallC Tryz.prog 103 #[.pointer (some ⟨Y.w,0,none⟩)] w fun v w'=>v = .int .i64 (W.handErr:Nat)∧w=w':=by
 refine zaa tabOk Tryz.func103 (by kernel_rfl) rfl Tryz.ntmps103 (lbO rfl) ?_;have hS:=h.has.start;(conv=>whnf);refine hS.ld 0 rfl rfl ?_;(conv=>whnf);refine brD (fun h1=>?_) (fun h1=>?_)
 ·rw [show W.handErr=4 from if_pos h1];repeat' ((conv=>whnf);first|apply RetC.mk|refine rgO ?_|refine ixO ?_|(first|apply brD|apply zad|apply brN|apply brI)<;>(intro))
  exact ⟨rfl,rfl⟩
 ·rw [show W.handErr=W.upErr W.to from if_neg h1];(conv=>whnf);refine hS.ld 0 rfl rfl ?_;(conv=>whnf);refine (zfe W.to h).mono ?_;rintro v w1 ⟨rfl,rfl⟩;repeat' ((conv=>whnf);first|apply RetC.mk|refine rgO ?_|refine ixO ?_|(first|apply brD|apply zad|apply brN|apply brI)<;>(intro))
  exact ⟨rfl,rfl⟩
def RDoes (w0:World) (m j:Nat) (w:World) (Y:RWorldA) (W:WorldS) (R:RBys) (W':WorldS) (w':World):Prop:=∃ Y' R',Y'.w=Y.w∧Turns w w' (zaw Y W R) (zaw Y' W' R')∧RStands w0 m j w' Y' W' R'
theorem RDoes.same (h:RStands w0 m j w Y W R) {m' j':Nat}(hm:m≤m') (hj:j≤j') (hx:Ext No w w'):RDoes w0 m' j' w Y W R W w' :=
 ⟨Y,R,rfl,Turns.of_no h.has hx,h.turns (Turns.of_no h.has hx) (h.ok.mono hm) h.rules (h.a.le hj) (h.b.le hj)⟩
theorem RDoes.set (h:RStands w0 m j w Y W R) {n:Int}(hn:n=0∨n=1) {A:RNodeA}{s:SideS}{B:RBy}{m' j':Nat}(k:Turns w w' (zaR Y W R n) (zcb Y W (two n (zaK A s) (zaK (Y.side (1 - n)) (W.side (1 - n)))) (two n (byP A) (byP (Y.side (1 - n))))++zb7 A s B)) (ok:WOk m' (W.setSide n s)) (hj:j≤j') (hs:RSide w0 j' A s B):RDoes w0 m' j' w Y W R (W.setSide n s) w':=by
 have hT:=RTurns.side h.has hn k;refine ⟨Y.setSide n A,R.setSide n B,by rcases hn with rfl|rfl<;>rfl,hT,?_⟩;rcases hn with rfl|rfl
 ·exact h.turns hT ok h.rules hs (h.b.le hj)
 ·exact h.turns hT ok h.rules (h.a.le hj) hs
theorem RDoes.mono {W':WorldS}(h:RDoes w0 m j w Y W R W' w') {m' j':Nat}(hm:m≤m') (hj:j≤j'):RDoes w0 m' j' w Y W R W' w':=by
 obtain ⟨Y',R',h1,h2,h3⟩:=h;exact ⟨Y',R',h1,h2,⟨h3.has,h3.ok.mono hm,h3.ext,h3.new,h3.rules,h3.a.le hj,h3.b.le hj⟩⟩
theorem Ev.St.stTwo {w0 w:World}{S:Nat→Prop}{H:List Ent}(h:St w0 S w H) (i:Nat) {e:TypeId}{b n' c off:Nat}{n:Int}{p q r:Option Addr}{K:World→Prop}(hn:n=0∨n=1) (hi:H[i]?=some (zaf e 1 zgw (.slice (some ⟨b,0,none⟩) n' c) (two n p q))) (ho:off=n.toNat * 1)
  (hk:∀ w',St w0 S w' (H.set i (zaf e 1 zgw (.slice (some ⟨b,0,none⟩) n' c) (two n r q)))→K w'):StC w b off (zgw r) K :=
 h.setL zoO i (k:=n.toNat) hi (zlu hn p q) ho rfl (fun w' _ hS=>hk w' (by rw [ztL hn] at hS;exact hS))
theorem zqZ (n:Int) (h:RStands w0 m j w Y W R):CallC Tryz.prog 55 #[.pointer (some ⟨Y.w,0,none⟩),.int .i64 n] w fun v w'=>v = .int .i64 ((W.down n).1:Nat)∧RDoes w0 m j w Y W R (W.down n).2 w':=by
 refine zaa tabOk Tryz.func55 (by kernel_rfl) rfl Tryz.ntmps55 (lbO rfl) ?_;(conv=>whnf);refine (zfe n h).mono ?_;rintro v w1 ⟨rfl,rfl⟩;(conv=>whnf);refine brD (fun hu=>?_) (fun hu=>?_)
 ·have hu:W.upErr n=0:=by omega
  obtain ⟨hn,N,hN⟩:=zcE hu;rw [show W.down n=(0,W.setSide n ⟨none,{ (W.side n).byt with off:=true }⟩) from if_neg (fun h=>h hu),hu]
  have hok:WOk m (W.setSide n ⟨none,{ (W.side n).byt with off:=true }⟩):=by
   have:=h.ok.down n
   rwa [show W.down n=(0,W.setSide n ⟨none,{ (W.side n).byt with off:=true }⟩) from if_neg (fun h=>h hu)] at this
  have hsd:=h.side hn;have hS:=(h.half hn).start
  have hT:∀ {w'},St w (inF (zaR Y W R n)) w' (zcb Y W (two n none (zaK (Y.side (1 - n)) (W.side (1 - n)))) (two n (byP (Y.side n)) (byP (Y.side (1 - n))))++[blk (Y.side n).b 194 (zcv { R.side n with off:=true })])→RDoes w0 m j w Y W R (W.setSide n ⟨none,{ (W.side n).byt with off:=true }⟩) w':=fun k =>
   RDoes.set h hn (A:=Y.side n) (s:=⟨none,{ (W.side n).byt with off:=true }⟩) (B:={ R.side n with off:=true }) (St.turns k) hok (Nat.le_refl _) ⟨⟨hsd.alike.data,rfl,hsd.alike.left,hsd.alike.free⟩,⟨hsd.rok.len,hsd.rok.bnd,hsd.rok.lo,hsd.rok.hi⟩,fun N hN=>by cases hN⟩
  generalize hSS:inF (zaR Y W R n)=S at hS hT;rw [zbB hN] at hS;obtain ⟨g,hg⟩:=za1 (hS.get 1 rfl);obtain ⟨g2,hg2⟩:=za1 (hS.get 2 rfl);(conv=>whnf);refine hS.ld 0 rfl (v:=.slice (some ⟨g2,0,none⟩) 2 Y.bc) (by rw [← hg2];rfl) ?_;(conv=>whnf);refine ixO ?_;(conv=>whnf);refine hS.ldTwo 2 hn (by rw [← hg2];rfl) rfl ?_;(conv=>whnf);refine hS.st 12 rfl (lbO rfl) rfl (fun w2 hS=>?_);(conv=>whnf);refine hS.ld 0 rfl (v:=.slice (some ⟨g,0,none⟩) 2 Y.nc) (by rw [← hg];rfl) ?_;(conv=>whnf);refine ixO ?_;(conv=>whnf);refine hS.stTwo (r:=none) 1 hn (by rw [← hg];rfl) (by omega) (fun w3 hS=>?_);repeat' ((conv=>whnf);first|apply RetC.mk|refine rgO ?_|refine ixO ?_|(first|apply brD|apply zad|apply brN|apply brI)<;>(intro))
  refine ⟨rfl,hT ?_⟩;have hS2:=hS.sel [0,1,2,3,4,5,12] (by decide);rw [← hg] at hS2;exact hS2
 ·rw [show W.down n=(W.upErr n,W) from if_pos (by omega)];repeat' ((conv=>whnf);first|apply RetC.mk|refine rgO ?_|refine ixO ?_|(first|apply brD|apply zad|apply brN|apply brI)<;>(intro))
  exact ⟨rfl,RDoes.same h (Nat.le_refl _) (Nat.le_refl _) (Ext.refl _ _)⟩
def zm3 (B:RBy) (k:Int):RBy:=if k < 0∨B.off=true then B else ⟨B.data,B.off,k,true⟩
theorem zoY {B:RBy}{C:BytS}(h:Alike B C) (k:Int):Alike (zm3 B k) (zkW C k):=by
 unfold zm3 zkW;by_cases hc:k < 0∨B.off=true
 ·rw [if_pos hc,if_pos (by rw [← h.off];exact hc)];exact h
 ·rw [if_neg hc,if_neg (by rw [← h.off];exact hc)];exact ⟨h.data,h.off,fun _=>⟨rfl,by dsimp only;omega⟩,fun h=>by cases h⟩
theorem zsZ {B:RBy}(h:ROk B j) (k:Int) (hk:k≤9223372036854775807):ROk (zm3 B k) j:=by
 unfold zm3;split
 ·exact h
 ·exact ⟨h.len,fun _=>by dsimp only;omega,by dsimp only;omega,hk⟩
theorem zto (n k:Int) (hk:k≤9223372036854775807) (h:RStands w0 m j w Y W R):CallC Tryz.prog 51 #[.pointer (some ⟨Y.w,0,none⟩),.int .i64 n,.int .i64 k] w fun v w'=>v = .int .i64 ((W.cut n k).1:Nat)∧RDoes w0 m j w Y W R (W.cut n k).2 w':=by
 refine zaa tabOk Tryz.func51 (by kernel_rfl) rfl Tryz.ntmps51 (lbO rfl) ?_;(conv=>whnf);refine (zfe n h).mono ?_;rintro v w1 ⟨rfl,rfl⟩;(conv=>whnf);refine brD (fun hu=>?_) (fun hu=>?_)
 ·rw [show W.cut n k=(W.upErr n,W) from if_pos (by omega)];repeat' ((conv=>whnf);first|apply RetC.mk|refine rgO ?_|refine ixO ?_|(first|apply brD|apply zad|apply brN|apply brI)<;>(intro))
  exact ⟨rfl,RDoes.same h (Nat.le_refl _) (Nat.le_refl _) (Ext.refl _ _)⟩
 ·have hu:W.upErr n=0:=by omega
  obtain ⟨hn,N,hN⟩:=zcE hu;have hc:W.cut n k=(zsW (W.side n).byt k,W.setSide n ⟨(W.side n).node,zkW (W.side n).byt k⟩):=if_neg (fun h=>h hu);have hok:=h.ok.cut n k hk;rw [hc] at hok;rw [hc];have hsd:=h.side hn;have hS:=(h.half hn).start
  have hT:∀ {w'},St w (inF (zaR Y W R n)) w' (zcb Y W (two n (some ⟨(Y.side n).n,0,none⟩) (zaK (Y.side (1 - n)) (W.side (1 - n)))) (two n (byP (Y.side n)) (byP (Y.side (1 - n))))++zan (Y.side n) N (zm3 (R.side n) k))→RDoes w0 m j w Y W R (W.setSide n ⟨(W.side n).node,zkW (W.side n).byt k⟩) w':=fun {w'} hS=>by
   refine RDoes.set h hn (A:=Y.side n) (s:=⟨(W.side n).node,zkW (W.side n).byt k⟩) (B:=zm3 (R.side n) k) ?_ hok (Nat.le_refl _) ⟨zoY hsd.alike k,zsZ hsd.rok k hk,fun N hN=>hsd.rules N hN⟩;have:=St.turns hS;rw [zgU (A:=Y.side n) (s:=⟨(W.side n).node,zkW (W.side n).byt k⟩) hN,zhK (A:=Y.side n) (s:=⟨(W.side n).node,zkW (W.side n).byt k⟩) hN];exact this
  generalize hSS:inF (zaR Y W R n)=S at hS hT;rw [zbB hN] at hS;obtain ⟨g2,hg2⟩:=za1 (hS.get 2 rfl)
  have ho:zsW (W.side n).byt k=if k < 0 then 2 else if (R.side n).off=true then 7 else 0:=by
   unfold zsW;rw [hsd.alike.off]
  rw [ho];(conv=>whnf);refine hS.ld 0 rfl (v:=.slice (some ⟨g2,0,none⟩) 2 Y.bc) (by rw [← hg2];rfl) ?_;(conv=>whnf);refine ixO ?_;(conv=>whnf);refine hS.ldTwo 2 hn (by rw [← hg2];rfl) rfl ?_;(conv=>whnf);refine (zr0 k (hS.blk 12 rfl)).mono ?_;rintro v w2 ⟨rfl,hx,hB⟩;replace hS:=hS.upd 12 rfl hx (fun c hc=>by subst hc;exact List.mem_singleton.2 rfl) (zab _ _ _) hB (fun c hc=>.inl hc);repeat' ((conv=>whnf);first|apply RetC.mk|refine rgO ?_|refine ixO ?_|(first|apply brD|apply zad|apply brN|apply brI)<;>(intro))
  exact ⟨rfl,hT hS⟩
theorem zqt (n:Int) (h:RStands w0 m j w Y W R) (hj:j≤50000000):CallC Tryz.prog 56 #[.pointer (some ⟨Y.w,0,none⟩),.int .i64 n] w fun v w'=>v = .int .i64 ((W.up n).1:Nat)∧RDoes w0 m (j+18) w Y W R (W.up n).2 w':=by
 by_cases hn:n=0∨n=1
 case neg =>
  rw [show W.up n=(2,W) from if_pos (by omega)];refine zaa tabOk Tryz.func56 (by kernel_rfl) rfl Tryz.ntmps56 (lbO rfl) ?_;(conv=>whnf);refine brD (fun h1=>?_) (fun h1=>?_)
  ·repeat' ((conv=>whnf);first|apply RetC.mk|refine rgO ?_|refine ixO ?_|(first|apply brD|apply zad|apply brN|apply brI)<;>(intro))
   exact ⟨rfl,RDoes.same h (Nat.le_refl _) (Nat.le_add_right _ _) (Ext.refl _ _)⟩
  ·(conv=>whnf)
   refine brD (fun h1=>?_) (fun h1=>by omega);repeat' ((conv=>whnf);first|apply RetC.mk|refine rgO ?_|refine ixO ?_|(first|apply brD|apply zad|apply brN|apply brI)<;>(intro))
   exact ⟨rfl,RDoes.same h (Nat.le_refl _) (Nat.le_add_right _ _) (Ext.refl _ _)⟩
 have hsd:=h.side hn;have hBk:=(h.ok.side hn).bok;cases hN:(W.side n).node with
 | some N =>
  rw [show W.up n=(11,W) by unfold WorldS.up;rw [if_neg (by omega),hN]];have hS:=(h.half hn).start;generalize hSS:inF (zaR Y W R n)=S at hS;rw [zbB hN] at hS;obtain ⟨g,hg⟩:=za1 (hS.get 1 rfl);refine zaa tabOk Tryz.func56 (by kernel_rfl) rfl Tryz.ntmps56 (lbO rfl) ?_;(conv=>whnf);refine brD (fun h1=>absurd h1 (by omega)) (fun _=>?_);(conv=>whnf);refine brD (fun h1=>absurd h1 (by omega)) (fun _=>?_);(conv=>whnf);refine hS.ld 0 rfl (v:=.slice (some ⟨g,0,none⟩) 2 Y.nc) (by rw [← hg];rfl) ?_;(conv=>whnf);refine ixO ?_;(conv=>whnf);refine hS.ldTwo 1 hn (by rw [← hg];rfl) rfl ?_;repeat' ((conv=>whnf);first|apply RetC.mk|refine rgO ?_|refine ixO ?_|(first|apply brD|apply zad|apply brN|apply brI)<;>(intro))
  exact ⟨rfl,RDoes.same h (Nat.le_refl _) (Nat.le_add_right _ _) (Ext.refl _ _)⟩
 | none =>
  have hw:W.up n=if (zbL n (onB (W.side n).byt) W.rules).1≠0 then ((zbL n (onB (W.side n).byt) W.rules).1,W.setSide n ⟨none,(zbL n (onB (W.side n).byt) W.rules).2.2⟩)
    else (0,W.setSide n ⟨some (zbL n (onB (W.side n).byt) W.rules).2.1,(zbL n (onB (W.side n).byt) W.rules).2.2⟩):=by
   unfold WorldS.up;rw [if_neg (by omega),hN]
  have hok:=h.ok.up n;rw [hw] at hok ⊢;have hS:=(h.half hn).start;have hT:∀ {w'} {A:RNodeA} {s:SideS} {B:RBy},RSide w0 (j+18) A s B→WOk m (W.setSide n s)→St w (inF (zaR Y W R n)) w' (zcb Y W (two n (zaK A s) (zaK (Y.side (1 - n)) (W.side (1 - n)))) (two n (byP A) (byP (Y.side (1 - n))))++zb7 A s B)→RDoes w0 m (j+18) w Y W R (W.setSide n s) w':=fun {w'} {A} {s} {B} hs ok hS=>RDoes.set h hn (St.turns hS) ok (Nat.le_add_right _ _) hs
  generalize hSS:inF (zaR Y W R n)=S at hS hT;rw [zbV hN] at hS;obtain ⟨g,hg⟩:=za1 (hS.get 1 rfl);obtain ⟨g2,hg2⟩:=za1 (hS.get 2 rfl);generalize hNew:zbL n (onB (W.side n).byt) W.rules=Q at hok ⊢;refine zaa tabOk Tryz.func56 (by kernel_rfl) rfl Tryz.ntmps56 (lbO rfl) ?_;(conv=>whnf);refine brD (fun h1=>absurd h1 (by omega)) (fun _=>?_);(conv=>whnf);refine brD (fun h1=>absurd h1 (by omega)) (fun _=>?_);(conv=>whnf);refine hS.ld 0 rfl (v:=.slice (some ⟨g,0,none⟩) 2 Y.nc) (by rw [← hg];rfl) ?_;(conv=>whnf);refine ixO ?_;(conv=>whnf);refine hS.ldTwo 1 hn (by rw [← hg];rfl) rfl ?_;(conv=>whnf);refine hS.ld 0 rfl (v:=.slice (some ⟨g2,0,none⟩) 2 Y.bc) (by rw [← hg2];rfl) ?_;(conv=>whnf);refine ixO ?_;(conv=>whnf);refine hS.ldTwo 2 hn (by rw [← hg2];rfl) rfl ?_;(conv=>whnf);refine (ztN (hS.blk 6 rfl)).mono ?_;rintro v w2 ⟨hx,hB⟩;replace hS:=hS.upd 6 rfl hx (fun c hc=>by subst hc;exact List.mem_singleton.2 rfl) (zab _ _ _) hB (fun c hc=>.inl hc);clear hx hB;have hA:Alike ⟨(R.side n).data,false,(R.side n).left,false⟩ (onB (W.side n).byt):=⟨hsd.alike.data,rfl,(fun h=>by cases h),fun _=>rfl⟩;have hR:ROk ⟨(R.side n).data,false,(R.side n).left,false⟩ j:=⟨hsd.rok.len,(fun h=>by cases h),hsd.rok.lo,hsd.rok.hi⟩;have hn0:=hS.ne 0 6 rfl rfl (by decide);have hm2:g2≠(Y.side n).b:=fun e=>hS.apartAt 2 6 rfl rfl (by decide) g2 (za5 (by rw [hg2];rfl)) (by rw [e];exact List.mem_singleton.2 rfl)
  obtain ⟨T,hTT⟩:∃ T:Nat→Prop,∀ d,T d↔d=(Y.side n).b:=⟨fun d=>d=(Y.side n).b,fun _=>Iff.rfl⟩;(conv=>whnf)
  (refine zah tabOk mixed [] (T) [0,1,2,3,4,5,6,7,8,9,10,11,12,13,14,15,16,17] (by kernel_rfl) ?_;rintro w1 rfl;replace hS:=hS.drew)
  have hK:=hS.ref T;(conv=>whnf);refine hS.ldF 0 rfl (v:=.slice (some ⟨g2,0,none⟩) 2 Y.bc) (by rw [← hg2];rfl) (fun ht=>hn0 ((hTT _).1 ht)) ?_;(conv=>whnf);refine ixO ?_;(conv=>whnf);refine hS.ldTwoF 2 hn (by rw [← hg2];rfl) rfl (fun ht=>hm2 ((hTT _).1 ht)) ?_;(conv=>whnf);refine hS.ldF 0 rfl rfl (fun ht=>hn0 ((hTT _).1 ht)) ?_;(conv=>whnf);refine (zlw n hn (hS.blk 6 rfl) hA (zpg hBk) hR hj).mono ?_;rintro v w6 ⟨R',hAl,hRk,hcase⟩;rw [hNew] at hAl hcase;rcases hcase with ⟨h0,A,hAb,hAr,hAc,rfl,hk⟩ | ⟨h0,rfl,hk,hB⟩
  ·rw [if_neg (fun h=>h h0)] at hok ⊢;replace hK:=hK.trans (hk.ext.mono fun d hd=>(hTT d).2 (by obtain ⟨e,he,hd⟩:=hd;obtain rfl:=List.mem_singleton.1 he;exact List.mem_singleton.1 hd));refine KeepC.mk hK ?_;have hS2:=St.callAt (A:=[_,_,_,_,_,_]) (B:=[]) hS hk;(conv=>whnf);refine hS2.ld 0 rfl (v:=.slice (some ⟨g,0,none⟩) 2 Y.nc) (by rw [← hg];rfl) ?_;(conv=>whnf);refine ixO ?_;(conv=>whnf);refine hS2.stTwo (r:=some ⟨A.n,0,none⟩) 1 hn (by rw [← hg];rfl) (by omega) (fun w7 hS3=>?_);repeat' ((conv=>whnf);first|apply RetC.mk|refine rgO ?_|refine ixO ?_|(first|apply brD|apply zad|apply brN|apply brI)<;>(intro))
   have hrul:Q.2.1.rules=W.rules:=by rw [← hNew];rfl
   refine ⟨rfl,hT (A:=A) (s:=⟨some Q.2.1,Q.2.2⟩) (B:=R') ⟨hAl,hRk,fun N hN=>?_⟩ hok ?_⟩
   ·obtain rfl:=Option.some.inj hN;rw [hAr,hrul];exact h.rules
   ·rw [show byP A=byP (Y.side n) by unfold byP;rw [hAb]];rw [← hg] at hS3;exact hS3
  ·rw [if_pos h0] at hok ⊢;replace hK:=hK.trans (hk.mono fun d hd=>(hTT d).2 hd);refine KeepC.mk hK ?_;have hS2:=hS.upd 6 rfl hk (fun c hc=>by subst hc;exact List.mem_singleton.2 rfl) (zab _ _ _) hB (fun c hc=>.inl hc);(conv=>whnf);refine hS2.ld 0 rfl (v:=.slice (some ⟨g,0,none⟩) 2 Y.nc) (by rw [← hg];rfl) ?_;(conv=>whnf);refine ixO ?_;(conv=>whnf);refine hS2.stTwo (r:=none) 1 hn (by rw [← hg];rfl) (by omega) (fun w7 hS3=>?_);repeat' ((conv=>whnf);first|apply RetC.mk|refine rgO ?_|refine ixO ?_|(first|apply brD|apply zad|apply brN|apply brI)<;>(intro))
   refine ⟨rfl,hT (A:=Y.side n) (s:=⟨none,Q.2.2⟩) (B:=R') ⟨hAl,hRk,fun N hN=>by cases hN⟩ hok ?_⟩;rw [← hg] at hS3;exact hS3
end
section
variable {w w' w0 : World} {Y : RWorldA} {W : WorldS} {R : RBys} {m j : Nat}
theorem zks (N:NodeS) (p:PktS):(N.inside p).2.2.rules=N.rules:=by
 unfold NodeS.inside NodeS.begin NodeS.pass;repeat' split
 all_goals rfl
theorem ziC (N:NodeS) (p:PktS):(N.outside p).2.2.rules=N.rules:=by
 unfold NodeS.outside NodeS.pass;repeat' split
 all_goals rfl
theorem zlO (p:PktS) (h:RStands w0 m j w Y W R) (hm:m+1≤40000000):CallC Tryz.prog 57 #[.pointer (some ⟨Y.w,0,none⟩),.agg (zao p).toArray,.bool true] w fun v w'=>v = .tuple #[.agg (zao (W.inside p).2.1).toArray,.int .i64 ((W.inside p).1:Nat)]∧RDoes w0 (m+1) j w Y W R (W.inside p).2.2 w':=by
 by_cases hu:W.handErr=0
 case neg =>
  rw [show W.inside p=(W.handErr,zaP,W) from if_pos hu];refine zaa tabOk Tryz.func57 (by kernel_rfl) rfl Tryz.ntmps57 (lbO rfl) ?_;have hS:=St.start w No;(conv=>whnf);refine hS.new (fun bp w1 hbp hS=>?_);(conv=>whnf);refine hS.new (fun br w2 hbr hS=>?_);replace hS:St w No w2 [blk bp 41 (zao p),blk br 41 (zao zaP)]:=hS;(conv=>whnf);refine (zds (h.no hS.ext)).mono ?_;rintro v w3 ⟨rfl,rfl⟩;(conv=>whnf);refine brD (fun _=>?_) (fun h1=>absurd (show W.handErr=0 by omega) hu);(conv=>whnf);refine hS.st 1 rfl (lbO rfl) rfl (fun w' hS=>?_);(conv=>whnf);refine hS.laX 1 rfl rfl ?_;repeat' ((conv=>whnf);first|apply RetC.mk|refine rgO ?_|refine ixO ?_|(first|apply brD|apply zad|apply brN|apply brI)<;>(intro))
  exact ⟨rfl,RDoes.same h (Nat.le_add_right _ _) (Nat.le_refl _) hS.ext⟩
 obtain ⟨hn,N,hN⟩:=h.ok.hand hu;have hnk:=((h.ok.side hn).node N hN).1
 have hw:W.inside p=((N.inside p).1,(N.inside p).2.1,W.setSide W.to ⟨some (N.inside p).2.2,(W.side W.to).byt⟩):=by
  unfold WorldS.inside;rw [if_neg (fun h=>h hu),hN]
 have hok:=h.ok.inside p;rw [hw] at hok ⊢;have hsd:=h.side hn;have hrl:=hsd.rules N hN;have hrls:=zks N p
 have hT:∀ {w'},St w (inF (zaR Y W R W.to)) w' (zcb Y W (two W.to (some ⟨(Y.side W.to).n,0,none⟩) (zaK (Y.side (1 - W.to)) (W.side (1 - W.to)))) (two W.to (byP (Y.side W.to)) (byP (Y.side (1 - W.to))))++zan (Y.side W.to) (N.inside p).2.2 (R.side W.to))→RDoes w0 (m+1) j w Y W R (W.setSide W.to ⟨some (N.inside p).2.2,(W.side W.to).byt⟩) w':=fun {w'} hS =>
  RDoes.set h hn (A:=Y.side W.to) (s:=⟨some (N.inside p).2.2,(W.side W.to).byt⟩) (B:=R.side W.to) (St.turns hS) hok (Nat.le_refl _) ⟨hsd.alike,hsd.rok,fun M hM=>by
   obtain rfl:=Option.some.inj hM;rw [hrls];exact hrl⟩
 have hS:=(h.half hn).start;have hst:∀ {w2},St w (inF (zaR Y W R W.to)) w2 (zaR Y W R W.to)→RStands w0 m j w2 Y W R:=fun hS=>h.turns (RTurns.world hn h.has (St.turns hS) rfl rfl rfl) h.ok h.rules h.a h.b
 have hnew:∀ b,inF (zaR Y W R W.to) b→w0.heap.size≤b:=fun b hb=>h.new b (inF_perm (zcK Y W R hn).symm (inF_app.2 (.inl hb)))
 generalize hSS:inF (zaR Y W R W.to)=S at hS hT hst;rw [zbB hN] at hS hst hnew;obtain ⟨g,hg⟩:=za1 (hS.get 1 rfl);refine zaa tabOk Tryz.func57 (by kernel_rfl) rfl Tryz.ntmps57 (lbO rfl) ?_;(conv=>whnf);refine hS.new (fun bp w1 hbp hS=>?_);(conv=>whnf);refine hS.new (fun br w2 hbr hS=>?_);have hst2:=hst (hS.keep 13);(conv=>whnf);refine (zds hst2).mono ?_;rintro v w3 ⟨rfl,rfl⟩;rw [hu];have hs0:=hS.notin 0 6 7 rfl (List.mem_singleton.2 rfl) (.inl (by decide));have hs1:=hS.notin 1 6 7 (b:=g) rfl (za5 (by rw [hg];rfl)) (.inl (by decide));have hp:=hS.notin 13 6 7 rfl (List.mem_singleton.2 rfl) (.inr (by decide));have hs02:=hS.ne 0 14 rfl rfl (by decide);have hs12:g≠br:=fun e=>hS.apartAt 1 14 rfl rfl (by decide) g (za5 (by rw [hg];rfl)) (by rw [e];exact List.mem_singleton.2 rfl)
 have hp2:=hS.ne 13 14 rfl rfl (by decide);generalize W.setSide W.to ⟨some (N.inside p).2.2,(W.side W.to).byt⟩=W' at hT ⊢;have hrx:RulesAt w0 (Y.side W.to).ra N.rules.length N.rules:=hrl;have hE0:Ext No w0 w2:=hst2.ext;clear hst hst2;(conv=>whnf)
 (refine zah tabOk mixed [] (fun b=>inF (zan (Y.side W.to) N (R.side W.to)) b∨b=br) [0,1,2,3,4,5,6,7,8,9,10,11,12,13,14,15] (by kernel_rfl) ?_;rintro w1 rfl;replace hS:=hS.drew)
 have hK:=hS.ref (fun b=>inF (zan (Y.side W.to) N (R.side W.to)) b∨b=br);(conv=>whnf);refine hS.ldF 0 rfl (v:=.slice (some ⟨g,0,none⟩) 2 Y.nc) (by rw [← hg];rfl) (fun h=>h.elim hs0 hs02) ?_;(conv=>whnf);refine hS.ldF 0 rfl rfl (fun h=>h.elim hs0 hs02) ?_;(conv=>whnf);refine ixO ?_;(conv=>whnf);refine hS.ldTwoF 1 hn (by rw [← hg];rfl) rfl (fun h=>h.elim hs1 hs12) ?_;(conv=>whnf);refine hS.laXF 13 rfl rfl (fun h=>h.elim hp hp2) ?_;(conv=>whnf);have hw3:Has _ (zan (Y.side W.to) N (R.side W.to)):=Has.left (B:=[_,_]) (Has.right (A:=[_,_,_,_,_,_]) hS.has);have hout:=hrx.out (H:=zan (Y.side W.to) N (R.side W.to)) (fun b hb=>hnew b (inF_app.2 (.inr hb)));refine (znU p hw3 hnk hm (Slc.no hrx (hE0.trans (Ext.drawn _ _ _))) hout).mono ?_;rintro v w' ⟨rfl,hk⟩;replace hS:=St.callAt (A:=[_,_,_,_,_,_]) (B:=[_,_]) hS hk;replace hK:=hK.trans (hk.ext.mono fun b hb=>.inl hb);refine KeepC.mk hK ?_;(conv=>whnf);refine hS.stK hK 14 rfl (lbO rfl) rfl (.inr rfl) (fun w' hK hS=>KeepC.mk hK ?_);(conv=>whnf);refine hS.laX 14 rfl rfl ?_;repeat' ((conv=>whnf);first|apply RetC.mk|refine rgO ?_|refine ixO ?_|(first|apply brD|apply zad|apply brN|apply brI)<;>(intro))
 exact ⟨rfl,hT (hS.keep 13)⟩
theorem zkg (p:PktS) (h:RStands w0 m j w Y W R) (hm:m+1≤40000000):CallC Tryz.prog 57 #[.pointer (some ⟨Y.w,0,none⟩),.agg (zao p).toArray,.bool false] w fun v w'=>v = .tuple #[.agg (zao (W.outside p).2.1).toArray,.int .i64 ((W.outside p).1:Nat)]∧RDoes w0 (m+1) j w Y W R (W.outside p).2.2 w':=by
 by_cases hu:W.handErr=0
 case neg =>
  rw [show W.outside p=(W.handErr,zaP,W) from if_pos hu];refine zaa tabOk Tryz.func57 (by kernel_rfl) rfl Tryz.ntmps57 (lbO rfl) ?_;have hS:=St.start w No;(conv=>whnf);refine hS.new (fun bp w1 hbp hS=>?_);(conv=>whnf);refine hS.new (fun br w2 hbr hS=>?_);replace hS:St w No w2 [blk bp 41 (zao p),blk br 41 (zao zaP)]:=hS;(conv=>whnf);refine (zds (h.no hS.ext)).mono ?_;rintro v w3 ⟨rfl,rfl⟩;(conv=>whnf);refine brD (fun _=>?_) (fun h1=>absurd (show W.handErr=0 by omega) hu);(conv=>whnf);refine hS.st 1 rfl (lbO rfl) rfl (fun w' hS=>?_);(conv=>whnf);refine hS.laX 1 rfl rfl ?_;repeat' ((conv=>whnf);first|apply RetC.mk|refine rgO ?_|refine ixO ?_|(first|apply brD|apply zad|apply brN|apply brI)<;>(intro))
  exact ⟨rfl,RDoes.same h (Nat.le_add_right _ _) (Nat.le_refl _) hS.ext⟩
 obtain ⟨hn,N,hN⟩:=h.ok.hand hu;have hnk:=((h.ok.side hn).node N hN).1
 have hw:W.outside p=((N.outside p).1,(N.outside p).2.1,W.setSide W.to ⟨some (N.outside p).2.2,(W.side W.to).byt⟩):=by
  unfold WorldS.outside;rw [if_neg (fun h=>h hu),hN]
 have hok:=h.ok.outside p;rw [hw] at hok ⊢;have hsd:=h.side hn;have hrl:=hsd.rules N hN;have hrls:=ziC N p
 have hT:∀ {w'},St w (inF (zaR Y W R W.to)) w' (zcb Y W (two W.to (some ⟨(Y.side W.to).n,0,none⟩) (zaK (Y.side (1 - W.to)) (W.side (1 - W.to)))) (two W.to (byP (Y.side W.to)) (byP (Y.side (1 - W.to))))++zan (Y.side W.to) (N.outside p).2.2 (R.side W.to))→RDoes w0 (m+1) j w Y W R (W.setSide W.to ⟨some (N.outside p).2.2,(W.side W.to).byt⟩) w':=fun {w'} hS =>
  RDoes.set h hn (A:=Y.side W.to) (s:=⟨some (N.outside p).2.2,(W.side W.to).byt⟩) (B:=R.side W.to) (St.turns hS) hok (Nat.le_refl _) ⟨hsd.alike,hsd.rok,fun M hM=>by
   obtain rfl:=Option.some.inj hM;rw [hrls];exact hrl⟩
 have hS:=(h.half hn).start;have hst:∀ {w2},St w (inF (zaR Y W R W.to)) w2 (zaR Y W R W.to)→RStands w0 m j w2 Y W R:=fun hS=>h.turns (RTurns.world hn h.has (St.turns hS) rfl rfl rfl) h.ok h.rules h.a h.b
 have hnew:∀ b,inF (zaR Y W R W.to) b→w0.heap.size≤b:=fun b hb=>h.new b (inF_perm (zcK Y W R hn).symm (inF_app.2 (.inl hb)))
 generalize hSS:inF (zaR Y W R W.to)=S at hS hT hst;rw [zbB hN] at hS hst hnew;obtain ⟨g,hg⟩:=za1 (hS.get 1 rfl);refine zaa tabOk Tryz.func57 (by kernel_rfl) rfl Tryz.ntmps57 (lbO rfl) ?_;(conv=>whnf);refine hS.new (fun bp w1 hbp hS=>?_);(conv=>whnf);refine hS.new (fun br w2 hbr hS=>?_);have hst2:=hst (hS.keep 13);(conv=>whnf);refine (zds hst2).mono ?_;rintro v w3 ⟨rfl,rfl⟩;rw [hu];have hs0:=hS.notin 0 6 7 rfl (List.mem_singleton.2 rfl) (.inl (by decide));have hs1:=hS.notin 1 6 7 (b:=g) rfl (za5 (by rw [hg];rfl)) (.inl (by decide));have hp:=hS.notin 13 6 7 rfl (List.mem_singleton.2 rfl) (.inr (by decide));have hs02:=hS.ne 0 14 rfl rfl (by decide);have hs12:g≠br:=fun e=>hS.apartAt 1 14 rfl rfl (by decide) g (za5 (by rw [hg];rfl)) (by rw [e];exact List.mem_singleton.2 rfl)
 have hp2:=hS.ne 13 14 rfl rfl (by decide);generalize W.setSide W.to ⟨some (N.outside p).2.2,(W.side W.to).byt⟩=W' at hT ⊢;have hrx:RulesAt w0 (Y.side W.to).ra N.rules.length N.rules:=hrl;have hE0:Ext No w0 w2:=hst2.ext;clear hst hst2;(conv=>whnf)
 (refine zah tabOk mixed [] (fun b=>inF (zan (Y.side W.to) N (R.side W.to)) b∨b=br) [0,1,2,3,4,5,6,7,8,9,10,11,12,13,14,15] (by kernel_rfl) ?_;rintro w1 rfl;replace hS:=hS.drew)
 have hK:=hS.ref (fun b=>inF (zan (Y.side W.to) N (R.side W.to)) b∨b=br);(conv=>whnf);refine hS.ldF 0 rfl (v:=.slice (some ⟨g,0,none⟩) 2 Y.nc) (by rw [← hg];rfl) (fun h=>h.elim hs0 hs02) ?_;(conv=>whnf);refine hS.ldF 0 rfl rfl (fun h=>h.elim hs0 hs02) ?_;(conv=>whnf);refine ixO ?_;(conv=>whnf);refine hS.ldTwoF 1 hn (by rw [← hg];rfl) rfl (fun h=>h.elim hs1 hs12) ?_;(conv=>whnf);refine hS.laXF 13 rfl rfl (fun h=>h.elim hp hp2) ?_;(conv=>whnf);have hw3:Has _ (zan (Y.side W.to) N (R.side W.to)):=Has.left (B:=[_,_]) (Has.right (A:=[_,_,_,_,_,_]) hS.has);have hout:=hrx.out (H:=zan (Y.side W.to) N (R.side W.to)) (fun b hb=>hnew b (inF_app.2 (.inr hb)));refine (zlM p hw3 hnk hm).mono ?_;rintro v w' ⟨rfl,hk⟩;replace hS:=St.callAt (A:=[_,_,_,_,_,_]) (B:=[_,_]) hS hk;replace hK:=hK.trans (hk.ext.mono fun b hb=>.inl hb);refine KeepC.mk hK ?_;(conv=>whnf);refine hS.stK hK 14 rfl (lbO rfl) rfl (.inr rfl) (fun w' hK hS=>KeepC.mk hK ?_);(conv=>whnf);refine hS.laX 14 rfl rfl ?_;repeat' ((conv=>whnf);first|apply RetC.mk|refine rgO ?_|refine ixO ?_|(first|apply brD|apply zad|apply brN|apply brI)<;>(intro))
 exact ⟨rfl,hT (hS.keep 13)⟩
end
section
variable {w w' w0 : World} {Y : RWorldA} {W : WorldS} {R : RBys} {m j : Nat}
def RWorldA.off (Y:RWorldA) (la:Option Addr) (lc:Nat) (i:Nat):RWorldA:={ Y with la:=la,lc:=lc,vs:=Y.vs.eraseIdx i }
def zsL (Y:RWorldA) (W:WorldS) (i:Nat) (la:Option Addr) (lc:Nat) (np bp:List (Option Addr)):List Ent:=[blk Y.w 83 (ztE (Y.off la lc i) (W.off i)),zaf 111 1 zgw (.slice Y.na 2 Y.nc) np,zaf 109 1 zgw (.slice Y.ba 2 Y.bc) bp,zaf 200 5 zae (.slice la (W.fly.eraseIdx i).length lc) (Y.vs.eraseIdx i),zat Y.vs W.fly,zaf 156 2 zbG (.slice Y.ea W.events.length Y.ec) W.events]
theorem St.rgotOff {w0 w:World}{S:Nat→Prop}{i:Nat}{la:Option Addr}{lc:Nat}{np bp:List (Option Addr)}{B:List Ent}(hS:St w0 S w (zsL Y W i la lc np bp++B)):St w0 S w (zcb (Y.off la lc i) (W.off i) np bp++B):=by
 have hc1:(zat Y.vs W.fly).holds w:=hS.get 4 rfl;exact hS.upd 4 rfl (T:=No) (Ext.refl _ _) (fun _ h=>h.elim) zaJ (zdZ hc1 i) (fun b hb=>.inl (zfQ hb))
theorem RTurns.fixed (h:Has w (zaw Y W R)) {Y':RWorldA}{W':WorldS}(k:Turns w w' (zcb Y W [zaK Y.a W.a,zaK Y.b W.b] [byP Y.a,byP Y.b]) (zcb Y' W' [zaK Y.a W.a,zaK Y.b W.b] [byP Y.a,byP Y.b])) (ha:Y'.a=Y.a) (hb:Y'.b=Y.b) (ka:W'.a=W.a) (kb:W'.b=W.b):Turns w w' (zaw Y W R) (zaw Y' W' R):=by
 unfold zaw;rw [ha,hb,ka,kb];exact Turns.frame h k
theorem zkl (k:Int) (h:RStands w0 m j w Y W R) (hk:W.at_ k≠0):CallC Tryz.prog 100 #[.pointer (some ⟨Y.w,0,none⟩),.int .i64 k] w fun v w'=>v = .tuple #[.agg (zae zcx).toArray,.bool false]∧Ext No w w':=by
 have hb:k < 0∨k≥W.fly.length:=by
  unfold WorldS.at_ at hk;refine Classical.byContradiction fun h=>hk (if_neg h)
 have hW:=h.has.start;refine zaa tabOk Tryz.func100 (by kernel_rfl) rfl Tryz.ntmps100 (lbO rfl) ?_;have hS:=St.start w No;(conv=>whnf);refine hS.new (fun b4 w1 hb4 hS=>?_);have hld:=(h.has.read hS.ext).start;(conv=>whnf);refine brD (fun h1=>?_) (fun h1=>?_)
 ·(conv=>whnf)
  refine hS.st 0 rfl (lbO rfl) rfl (fun w' hS=>?_);(conv=>whnf);refine hS.laX 0 rfl rfl ?_;repeat' ((conv=>whnf);first|apply RetC.mk|refine rgO ?_|refine ixO ?_|(first|apply brD|apply zad|apply brN|apply brI)<;>(intro))
  exact ⟨rfl,hS.ext⟩
 ·(conv=>whnf)
  refine hld.ld 0 rfl rfl ?_;(conv=>whnf);refine brD (fun h2=>?_) (fun h2=>by omega);(conv=>whnf);refine hS.st 0 rfl (lbO rfl) rfl (fun w' hS=>?_);(conv=>whnf);refine hS.laX 0 rfl rfl ?_;repeat' ((conv=>whnf);first|apply RetC.mk|refine rgO ?_|refine ixO ?_|(first|apply brD|apply zad|apply brN|apply brI)<;>(intro))
  exact ⟨rfl,hS.ext⟩
theorem zgx {np bp:List (Option Addr)}{i:Nat}{x:NoteV}(hH:Has w (zcb Y W np bp)) (hi:i < W.fly.length) (hm:W.fly.length≤200) (hx:Y.vs[i]?=some x):CallC Tryz.prog 100 #[.pointer (some ⟨Y.w,0,none⟩),.int .i64 (i:Int)] w fun v w'=>v = .tuple #[.agg (zae x).toArray,.bool true]∧∃ la lc,Turns w w' (zcb Y W np bp) (zsL Y W i la lc np bp):=by
 have hl:Y.vs.length=W.fly.length:=(hH.get 4 rfl:(zat Y.vs W.fly).holds w).1;have hrow:=zap (G:=fun _=>True) zak (hH.get 3 rfl) (fun _ _=>trivial);have hcap:=zmE (hH.get 3 rfl);obtain ⟨b0,o0,hfa,_⟩:=hrow.cells i x hx;have hS:=hH.start;have hlt:(Y.vs.take i).length=i:=by rw [List.length_take];omega
 have hle:(Y.vs.eraseIdx i)=Y.vs.take i++Y.vs.drop (i+1):=List.eraseIdx_eq_take_drop_succ _ _;have hln:(W.fly.eraseIdx i).length=i+(W.fly.length - (i+1)):=by rw [List.length_eraseIdx,if_pos hi];omega
 refine zaa tabOk Tryz.func100 (by kernel_rfl) rfl Tryz.ntmps100 (lbO rfl) ?_;(conv=>whnf);refine hS.new (fun b4 w1 hb4 hS=>?_);(conv=>whnf);refine hS.ld 0 rfl rfl ?_;(conv=>whnf);refine brD (fun h2=>absurd h2 (by omega)) (fun h2=>?_);(conv=>whnf);refine hS.ld 0 rfl (v:=.slice (some ⟨b0,o0,none⟩) W.fly.length Y.lc) (by rw [← hfa];rfl) ?_;(conv=>whnf);refine ixO ?_;(conv=>whnf);refine hS.ldRow zak 3 (by rw [← hfa];rfl) hx rfl ?_;(conv=>whnf);refine hS.new (fun b6 w2 hb6 hS=>?_);(conv=>whnf);refine hS.st 7 rfl (lbO rfl) rfl (fun w3 hS=>?_);replace hS:=hS.addNil 200 5 zae;(conv=>whnf);refine hS.ld 0 rfl rfl ?_;(conv=>whnf);refine zpc (zap (G:=fun _=>True) zak (hS.get 3 rfl) (fun _ _=>trivial)) hcap Tryz.underlying81 (by kernel_rfl) rfl (by omega) (fun a5 c5 hx5=>?_);(conv=>whnf);refine hS.appS zak 8 (xs:=[]) Tryz.underlying81 (bytes:=56) (by kernel_rfl) (z:=.agg (zae zcx).toArray) (by kernel_rfl) rfl rfl hx5 (by unfold maxLen;simp;omega) (by simp;omega) (fun a6 c6 w6 hS=>?_);rw [show ([]:List NoteV).length+i=i by simp] at hS ⊢;(conv=>whnf);refine hS.ld 0 rfl rfl ?_;(conv=>whnf);refine rgO ?_;(conv=>whnf);refine ziW (j:=i+1) (zap (G:=fun _=>True) zak (hS.get 3 rfl) (fun _ _=>trivial)) hcap Tryz.underlying81 (by kernel_rfl) (by kernel_rfl) (by omega) (by omega) (fun a7 c7 hx7 hc7=>?_);(conv=>whnf);refine hS.appS zak 8 Tryz.underlying81 (bytes:=56) (by kernel_rfl) (z:=.agg (zae zcx).toArray) (by kernel_rfl) rfl rfl hx7 (by simp only [List.nil_append];rw [hlt];unfold maxLen;omega) (by simp only [List.nil_append];rw [hlt];omega) (fun a8 c8 w8 hS=>?_);simp only [List.nil_append] at hS ⊢;rw [hlt,← hln,← hle] at hS;rw [hlt,← hln];(conv=>whnf);refine hS.st 0 rfl (by exact Nat.le_of_ble_eq_true rfl) rfl (fun w9 hS=>?_);(conv=>whnf);refine hS.laX 7 rfl rfl ?_;(conv=>whnf);refine hS.st 6 rfl (by exact Nat.le_of_ble_eq_true rfl) rfl (fun w10 hS=>?_);(conv=>whnf);refine hS.laX 6 rfl rfl ?_;repeat' ((conv=>whnf);first|apply RetC.mk|refine rgO ?_|refine ixO ?_|(first|apply brD|apply zad|apply brN|apply brI)<;>(intro))
 refine ⟨rfl,a8,c8,?_⟩;exact St.turns (hS.sel [0,1,2,8,4,5] (by decide))
theorem zp9 (k:Int) (h:RStands w0 m j w Y W R):CallC Tryz.prog 53 #[.pointer (some ⟨Y.w,0,none⟩),.int .i64 k] w fun v w'=>v = .int .i64 ((W.drop k).1:Nat)∧RDoes w0 m j w Y W R (W.drop k).2 w':=by
 by_cases hu:W.at_ k=0
 case neg =>
  have h4:W.at_ k=4:=by
   unfold WorldS.at_ at hu ⊢;split at hu
   ·rename_i h1;rw [if_pos h1]
   ·exact absurd rfl hu
  rw [show W.drop k=(W.at_ k,W) from if_pos hu,h4];refine zaa tabOk Tryz.func53 (by kernel_rfl) rfl Tryz.ntmps53 (lbO rfl) ?_;have hS:=St.start w No;(conv=>whnf);refine (zkl k h hu).mono ?_;rintro v w1 ⟨rfl,hx⟩;replace hS:=hS.no hx;(conv=>whnf);refine hS.new (fun b1 w2 hb1 hS=>?_);(conv=>whnf);refine hS.st 0 rfl (lbO rfl) rfl (fun w' hS=>?_);repeat' ((conv=>whnf);first|apply RetC.mk|refine rgO ?_|refine ixO ?_|(first|apply brD|apply zad|apply brN|apply brI)<;>(intro))
  exact ⟨rfl,RDoes.same h (Nat.le_refl _) (Nat.le_refl _) hS.ext⟩
 rw [show W.drop k=(0,W.off k) from if_neg (fun h=>h hu)];obtain ⟨i,rfl,hi⟩:=znE hu;have hl:Y.vs.length=W.fly.length:=(h.has.get 4 rfl:(zat Y.vs W.fly).holds w).1;obtain ⟨x,hx⟩:∃ x,Y.vs[i]?=some x:=⟨_,List.getElem?_eq_getElem (by omega)⟩;refine zaa tabOk Tryz.func53 (by kernel_rfl) rfl Tryz.ntmps53 (lbO rfl) ?_;(conv=>whnf);refine (zgx h.has.left hi h.ok.fly hx).mono ?_;rintro v w1 ⟨rfl,la,lc,hk⟩;have hS:=(h.has.left.start.turned hk);(conv=>whnf);refine hS.new (fun b1 w2 hb1 hS=>?_);(conv=>whnf);refine hS.st 6 rfl (lbO rfl) rfl (fun w' hS=>?_);repeat' ((conv=>whnf);first|apply RetC.mk|refine rgO ?_|refine ixO ?_|(first|apply brD|apply zad|apply brN|apply brI)<;>(intro))
 have hk2:=RTurns.fixed h.has (Y':=Y.off la lc i) (W':=W.off i) (St.turns (St.rgotOff (B:=[]) (hS.keep 6))) rfl rfl rfl rfl;exact ⟨rfl,Y.off la lc i,R,rfl,hk2,h.turns hk2 (h.ok.off i) h.rules h.a h.b⟩
theorem zne (N:NodeS) (x:NoteS):(N.hear x).2.rules=N.rules:=by
 unfold NodeS.hear;repeat' split
 all_goals rfl
set_option maxHeartbeats 1000000 in
theorem zgo (k:Int) (h:RStands w0 m j w Y W R):CallC Tryz.prog 52 #[.pointer (some ⟨Y.w,0,none⟩),.int .i64 k] w fun v w'=>v = .int .i64 ((W.deliver k).1:Nat)∧RDoes w0 m j w Y W R (W.deliver k).2 w':=by
 by_cases hu:W.at_ k=0
 case neg =>
  have h4:W.at_ k=4:=by
   unfold WorldS.at_ at hu ⊢;split at hu
   ·rename_i h1;rw [if_pos h1]
   ·exact absurd rfl hu
  rw [show W.deliver k=(W.at_ k,W) from if_pos hu,h4];refine zaa tabOk Tryz.func52 (by kernel_rfl) rfl Tryz.ntmps52 (lbO rfl) ?_;have hS:=St.start w No;(conv=>whnf);refine (zkl k h hu).mono ?_;rintro v w1 ⟨rfl,hx⟩;replace hS:=hS.no hx;(conv=>whnf);refine hS.new (fun b1 w2 hb1 hS=>?_);(conv=>whnf);refine hS.st 0 rfl (lbO rfl) rfl (fun w' hS=>?_);repeat' ((conv=>whnf);first|apply RetC.mk|refine rgO ?_|refine ixO ?_|(first|apply brD|apply zad|apply brN|apply brI)<;>(intro))
  exact ⟨rfl,RDoes.same h (Nat.le_refl _) (Nat.le_refl _) hS.ext⟩
 obtain ⟨i,rfl,hi⟩:=znE hu;have hflen:=h.ok.fly;have hc:(zat Y.vs W.fly).holds w:=h.has.get 4 rfl;have hl:Y.vs.length=W.fly.length:=hc.1;obtain ⟨x,hxi⟩:∃ x,Y.vs[i]?=some x:=⟨_,List.getElem?_eq_getElem (by omega)⟩;obtain ⟨y,hyi⟩:∃ y,W.fly[i]?=some y:=⟨_,List.getElem?_eq_getElem (by omega)⟩;obtain ⟨hxy,hsl⟩:=zca hc hxi hyi;obtain ⟨hyf,hyl⟩:=h.ok.notes y (List.mem_of_getElem? hyi)
 have hw:W.deliver i=(0,(W.off i).got y):=by
  unfold WorldS.deliver;rw [if_neg (fun h=>h hu)];show (match W.fly[(i:Int).toNat]? with|none=>_|some x=>_)=_;rw [Int.toNat_natCast,hyi]
 have hok:=h.ok.deliver i;rw [hw] at hok ⊢;clear hc hsl hw hu;cases hcl:y.claim
 case true =>
  have hxc:x.claim=true:=hxy.claim.trans hcl;have hxe:=hxy.epoch;have hxf:=hxy.fro;have e1:(W.off (i:Int)).epoch=W.epoch:=rfl;have e2:(W.off (i:Int)).to=W.to:=rfl
  have hg1:y.epoch > W.epoch∨W.to < 0→(W.off i).got y={ W.off i with to:=x.fro,epoch:=x.epoch }:=fun h=>by
   unfold WorldS.got;rw [if_pos hcl,hxe,hxf];exact if_pos h
  have hg2:¬ (y.epoch > W.epoch∨W.to < 0)→(W.off i).got y=W.off i:=fun h=>by
   unfold WorldS.got;rw [if_pos hcl];exact if_neg h
  have hfin:∀ {w':World} {W':WorldS} {la:Option Addr} {lc:Nat},WOk m W'→W'.a=W.a→W'.b=W.b→W'.rules=W.rules→Turns w w' (zcb Y W [zaK Y.a W.a,zaK Y.b W.b] [byP Y.a,byP Y.b]) (zcb (Y.off la lc i) W' [zaK Y.a W.a,zaK Y.b W.b] [byP Y.a,byP Y.b])→RDoes w0 m j w Y W R W' w':=fun {w'} {W'} {la} {lc} ok ha hb hr k=>by
   have hk2:=RTurns.fixed h.has (Y':=Y.off la lc i) k rfl rfl ha hb;refine ⟨Y.off la lc i,R,rfl,hk2,h.turns hk2 ok ?_ ?_ ?_⟩
   ·rw [hr];exact h.rules
   ·rw [ha];exact h.a
   ·rw [hb];exact h.b
  refine zaa tabOk Tryz.func52 (by kernel_rfl) rfl Tryz.ntmps52 (lbO rfl) ?_;(conv=>whnf);refine (zgx h.has.left hi h.ok.fly hxi).mono ?_;rintro v w1 ⟨rfl,la,lc,hk⟩;have hS:=(h.has.left.start.turned hk);clear hk;(conv=>whnf);refine hS.new (fun b1 w2 hb1 hS=>?_);(conv=>whnf);refine hS.st 6 rfl (lbO rfl) rfl (fun w3 hS=>?_);(conv=>whnf);refine hS.ld 6 rfl (v:=.bool true) (by rw [← hxc];rfl) ?_;(conv=>whnf)
  (refine zah tabOk mixed [] No [0,1,2,3,4,5,6,7,8,9,10,11,12,13] (by kernel_rfl) ?_;rintro w1 rfl;replace hS:=hS.drew)
  repeat' ((conv=>whnf);first|apply RetC.mk|refine rgO ?_|refine ixO ?_|refine hS.ldF 6 rfl rfl id ?_|refine hS.ldF 0 rfl rfl id ?_|(first|apply brD|apply zad|apply brN|apply brI)<;>(intro))
  all_goals first
   | (rw [hg2 (by omega)] at hok ⊢;exact ⟨rfl,hfin hok rfl rfl rfl (St.turns (St.rgotOff (B:=[]) (hS.keep 6)))⟩)
   | (rw [hg1 (by omega)] at hok ⊢;
        (repeat' ((conv=>whnf);first|apply RetC.mk|refine rgO ?_|refine ixO ?_|refine hS.ld 6 rfl rfl ?_|(refine hS.st 0 rfl (by exact Nat.le_of_ble_eq_true rfl) rfl (fun w' hS=>?_))|(first|apply brD|apply zad|apply brN|apply brI)<;>(intro)));
        exact ⟨rfl,hfin hok rfl rfl rfl (St.turns (St.rgotOff (W:={ W with to:=x.fro,epoch:=x.epoch }) (B:=[]) (hS.keep 6)))⟩)
 case false =>
  have hxc:x.claim=false:=hxy.claim.trans hcl;have hn:1 - y.fro=0∨1 - y.fro=1:=by omega
  have hxf:=hxy.fro;have hsd:=h.side hn
  have hT:∀ {w'} {la:Option Addr} {lc:Nat} {A:RNodeA} {s:SideS},((W.off i).got y)=(W.off i).setSide (1 - y.fro) s→RSide w0 j A s (R.side (1 - y.fro))→Turns w w' (zaR Y W R (1 - y.fro)) (zcb (Y.off la lc i) (W.off i) (two (1 - y.fro) (zaK A s) (zaK (Y.side (1 - (1 - y.fro))) (W.side (1 - (1 - y.fro))))) (two (1 - y.fro) (byP A) (byP (Y.side (1 - (1 - y.fro)))))++zb7 A s (R.side (1 - y.fro)))→RDoes w0 m j w Y W R ((W.off i).got y) w':=by
   intro w' la lc A s hg hs k;have h1:=zkk (Y:=Y.off la lc i) (W:=W.off i) (R:=R) hn A s (R.side (1 - y.fro));have h2:R.setSide (1 - y.fro) (R.side (1 - y.fro))=R:=by rcases hn with e|e<;>(rw [e];rfl)
   rw [h2] at h1;have hyl2:(Y.off la lc i).side (1 - (1 - y.fro))=Y.side (1 - (1 - y.fro)):=rfl;have hwl2:(W.off i).side (1 - (1 - y.fro))=W.side (1 - (1 - y.fro)):=rfl;rw [hyl2,hwl2] at h1;rw [← h1] at k;have hk2:=RTurns.world hn h.has (Y':=(Y.off la lc i).setSide (1 - y.fro) A) (W':=(W.off i).setSide (1 - y.fro) s) (R':=R) k (zhA (Y:=Y.off la lc i) (R:=R) hn A s (R.side (1 - y.fro))).2.1 (by rcases hn with e|e<;>(rw [e];rfl)) rfl;rw [hg] at hok ⊢;refine ⟨(Y.off la lc i).setSide (1 - y.fro) A,R,by rcases hn with e|e<;>(rw [e];rfl),hk2,?_⟩;generalize 1 - y.fro=z at *;rcases hn with rfl|rfl
   ·exact h.turns hk2 hok h.rules hs h.b
   ·exact h.turns hk2 hok h.rules h.a hs
  have hS:=(h.half hn).start;cases hN:(W.side (1 - y.fro)).node with
  | none =>
   have hg:(W.off i).got y=(W.off i).setSide (1 - y.fro) (W.side (1 - y.fro)):=by
    have e:(W.off i).got y=W.off i:=by
     unfold WorldS.got;rw [if_neg (by rw [hcl];decide),if_neg (by omega)];show (match (W.side (1 - y.fro)).node with|none=>_|some N=>_)=_;rw [hN]
    rw [e];rcases hn with e|e<;>(rw [e];rfl)
   have hU:∀ {w'} {la:Option Addr} {lc:Nat},St w (inF (zaR Y W R (1 - y.fro))) w' (zcb (Y.off la lc i) (W.off i) (two (1 - y.fro) none (zaK (Y.side (1 - (1 - y.fro))) (W.side (1 - (1 - y.fro))))) (two (1 - y.fro) (byP (Y.side (1 - y.fro))) (byP (Y.side (1 - (1 - y.fro)))))++[blk (Y.side (1 - y.fro)).b 194 (zcv (R.side (1 - y.fro)))])→RDoes w0 m j w Y W R ((W.off i).got y) w':=fun {w'} {la} {lc} k=>by
    refine hT (la:=la) (lc:=lc) (A:=Y.side (1 - y.fro)) hg hsd ?_;rw [zg1 hN,zg3 hN];exact St.turns k
   generalize hSS:inF (zaR Y W R (1 - y.fro))=S at hS hU;rw [zbV hN] at hS;obtain ⟨gn,hgn⟩:=za1 (hS.get 1 rfl);refine zaa tabOk Tryz.func52 (by kernel_rfl) rfl Tryz.ntmps52 (lbO rfl) ?_;(conv=>whnf);refine (zgx hS.has.left hi h.ok.fly hxi).mono ?_;rintro v w1 ⟨rfl,la,lc,hk⟩;replace hS:=St.call (B:=[_]) hS hk;clear hk;(conv=>whnf);refine hS.new (fun b1 w2 hb1 hS=>?_);(conv=>whnf);refine hS.st 7 rfl (lbO rfl) rfl (fun w3 hS=>?_);(conv=>whnf);refine hS.ld 7 rfl (v:=.bool false) (by rw [← hxc];rfl) ?_;(conv=>whnf)
   (refine zah tabOk mixed [] No [0,1,2,3,4,5,6,7,8,9] (by kernel_rfl) ?_;rintro w1 rfl;replace hS:=hS.drew)
   (conv=>whnf);refine hS.ldF 0 rfl (v:=.slice (some ⟨gn,0,none⟩) 2 Y.nc) (by rw [← hgn];rfl) id ?_;(conv=>whnf);refine hS.ldF 7 rfl (v:=.int .i64 y.fro) (by rw [← hxf];rfl) id ?_;(conv=>whnf);refine rgO ?_;(conv=>whnf);refine ixO ?_;(conv=>whnf);refine hS.ldTwoF 1 hn (by rw [← hgn];rfl) rfl id ?_;repeat' ((conv=>whnf);first|apply RetC.mk|refine rgO ?_|refine ixO ?_|(first|apply brD|apply zad|apply brN|apply brI)<;>(intro))
   exact ⟨rfl,hU (St.rgotOff (B:=[_]) (hS.keep 7))⟩
  | some N =>
   have hnk:=((h.ok.side hn).node N hN).1
   have hg:(W.off i).got y=(W.off i).setSide (1 - y.fro) ⟨some (N.hear y).2,(W.side (1 - y.fro)).byt⟩:=by
    unfold WorldS.got;rw [if_neg (by rw [hcl];decide),if_neg (by omega)];show (match (W.side (1 - y.fro)).node with|none=>_|some N=>_)=_;rw [hN];rfl
   have hrl:=hsd.rules N hN;have hrls:=zne N y
   have hU:∀ {w'} {la:Option Addr} {lc:Nat} {A:RNodeA},A.n=(Y.side (1 - y.fro)).n→A.b=(Y.side (1 - y.fro)).b→A.ra=(Y.side (1 - y.fro)).ra→St w (inF (zaR Y W R (1 - y.fro))) w' (zcb (Y.off la lc i) (W.off i) (two (1 - y.fro) (some ⟨(Y.side (1 - y.fro)).n,0,none⟩) (zaK (Y.side (1 - (1 - y.fro))) (W.side (1 - (1 - y.fro))))) (two (1 - y.fro) (byP (Y.side (1 - y.fro))) (byP (Y.side (1 - (1 - y.fro)))))++zan A (N.hear y).2 (R.side (1 - y.fro)))→RDoes w0 m j w Y W R ((W.off i).got y) w':=fun {w'} {la} {lc} {A} h1 h2 h3 k=>by
    refine hT (la:=la) (lc:=lc) (A:=A) (s:=⟨some (N.hear y).2,(W.side (1 - y.fro)).byt⟩) hg ⟨hsd.alike,hsd.rok,fun M hM=>?_⟩ ?_
    ·obtain rfl:=Option.some.inj hM;rw [hrls,h3];exact hrl
    ·have:=St.turns k;rw [← h1,show byP (Y.side (1 - y.fro))=byP A by unfold byP;rw [h2]] at this;exact this
   generalize hSS:inF (zaR Y W R (1 - y.fro))=S at hS hU;rw [zbB hN] at hS;obtain ⟨gn,hgn⟩:=za1 (hS.get 1 rfl);refine zaa tabOk Tryz.func52 (by kernel_rfl) rfl Tryz.ntmps52 (lbO rfl) ?_;(conv=>whnf);refine (zgx hS.has.left hi h.ok.fly hxi).mono ?_;rintro v w1 ⟨rfl,la,lc,hk⟩;replace hS:=St.call (B:=zan (Y.side (1 - y.fro)) N (R.side (1 - y.fro))) hS hk;clear hk;(conv=>whnf);refine hS.new (fun b1 w2 hb1 hS=>?_);(conv=>whnf);refine hS.st 13 rfl (lbO rfl) rfl (fun w3 hS=>?_);(conv=>whnf);refine hS.ld 13 rfl (v:=.bool false) (by rw [← hxc];rfl) ?_;(conv=>whnf)
   (refine zah tabOk mixed [] No [0,1,2,3,4,5,6,7,8,9] (by kernel_rfl) ?_;rintro w1 rfl;replace hS:=hS.drew)
   (conv=>whnf);refine hS.ldF 0 rfl (v:=.slice (some ⟨gn,0,none⟩) 2 Y.nc) (by rw [← hgn];rfl) id ?_;(conv=>whnf);refine hS.ldF 13 rfl (v:=.int .i64 y.fro) (by rw [← hxf];rfl) id ?_;(conv=>whnf);refine rgO ?_;(conv=>whnf);refine ixO ?_;(conv=>whnf);refine hS.ldTwoF 1 hn (by rw [← hgn];rfl) rfl id ?_;have hs0:=hS.notin 0 6 7 rfl (List.mem_singleton.2 rfl) (.inl (by decide));have hs1:=hS.notin 1 6 7 (b:=gn) rfl (za5 (by rw [hgn];rfl)) (.inl (by decide));have hp:=hS.notin 13 6 7 rfl (List.mem_singleton.2 rfl) (.inr (by decide));have hsrc:0 < x.n→∀ b0 o0,x.a=some ⟨b0,o0,none⟩→¬ inF (zan (Y.side (1 - y.fro)) N (R.side (1 - y.fro))) b0:=fun h0 b0 o0 ha=>hS.notin 4 6 7 (e:=zat Y.vs W.fly) rfl (cellsE_foot.2 ⟨x,List.mem_of_getElem? hxi,zi6 h0 ha⟩) (.inl (by decide))
   conv=>whnf
   (refine zah tabOk mixed [] (inF (zan (Y.side (1 - y.fro)) N (R.side (1 - y.fro)))) [0,1,2,3,4,5,6,7,8,9,10] (by kernel_rfl) ?_;rintro w1 rfl;replace hS:=hS.drew)
   (conv=>whnf);refine hS.ldF 0 rfl (v:=.slice (some ⟨gn,0,none⟩) 2 Y.nc) (by rw [← hgn];rfl) hs0 ?_;(conv=>whnf);refine hS.ldF 13 rfl (v:=.int .i64 y.fro) (by rw [← hxf];rfl) hp ?_;(conv=>whnf);refine rgO ?_;(conv=>whnf);refine ixO ?_;(conv=>whnf);refine hS.ldTwoF 1 hn (by rw [← hgn];rfl) rfl hs1 ?_;(conv=>whnf);refine hS.laXF 13 rfl rfl hp ?_;(conv=>whnf);have hw3:Has _ (zan (Y.side (1 - y.fro)) N (R.side (1 - y.fro))):=Has.left (B:=[_]) (Has.right (A:=[_,_,_,_,_,_]) hS.has)
   have hyx:(⟨x.fro,x.life,x.epoch,x.claim,y.cells⟩:NoteS)=y:=by
    obtain ⟨f,l,e,c,cs⟩:=y;simp only [NoteS.mk.injEq,and_true];exact ⟨hxy.fro,hxy.life,hxy.epoch,hxy.claim⟩
   refine (zr4 x y.cells (zca (hS.get 4 rfl) hxi hyi).2 hsrc hw3 hnk).mono ?_;rintro v w' ⟨rfl,mg,mc,hk⟩;refine KeepC.mk hk.ext ?_;rw [hyx] at hk;replace hS:=St.callAt (A:=zsL Y W i la lc (two (1 - y.fro) (some ⟨(Y.side (1 - y.fro)).n,0,none⟩) (zaK (Y.side (1 - (1 - y.fro))) (W.side (1 - (1 - y.fro))))) (two (1 - y.fro) (byP (Y.side (1 - y.fro))) (byP (Y.side (1 - (1 - y.fro)))))) (B:=[_]) hS hk;repeat' ((conv=>whnf);first|apply RetC.mk|refine rgO ?_|refine ixO ?_|(first|apply brD|apply zad|apply brN|apply brI)<;>(intro))
   exact ⟨rfl,hU (A:={ Y.side (1 - y.fro) with mg:=mg,mc:=mc }) rfl rfl rfl (St.rgotOff (B:=zan { Y.side (1 - y.fro) with mg:=mg,mc:=mc } (N.hear y).2 (R.side (1 - y.fro))) (hS.keep 13))⟩
end
section
variable {w w' w0 : World} {Y : RWorldA} {W : WorldS} {R : RBys} {m j : Nat}
theorem zm7 (k:Int) (h:RStands w0 m j w Y W R):CallC Tryz.prog 54 #[.pointer (some ⟨Y.w,0,none⟩),.int .i64 k] w fun v w'=>v = .int .i64 ((W.twice k).1:Nat)∧RDoes w0 m j w Y W R (W.twice k).2 w':=by
 have hflen:=h.ok.fly;by_cases hu:W.at_ k=0
 case neg =>
  have hb:k < 0∨k≥W.fly.length:=by
   unfold WorldS.at_ at hu;refine Classical.byContradiction fun h=>hu (if_neg h)
  have h4:W.at_ k=4:=if_pos hb;rw [show W.twice k=(W.at_ k,W) from if_pos hu,h4];refine zaa tabOk Tryz.func54 (by kernel_rfl) rfl Tryz.ntmps54 (lbO rfl) ?_;have hld:=h.has.start;(conv=>whnf);refine brD (fun h1=>?_) (fun h1=>?_)
  ·repeat' ((conv=>whnf);first|apply RetC.mk|refine rgO ?_|refine ixO ?_|(first|apply brD|apply zad|apply brN|apply brI)<;>(intro))
   exact ⟨rfl,RDoes.same h (Nat.le_refl _) (Nat.le_refl _) (Ext.refl _ _)⟩
  ·(conv=>whnf)
   refine hld.ld 0 rfl rfl ?_;(conv=>whnf);refine brD (fun h2=>?_) (fun h2=>by omega);repeat' ((conv=>whnf);first|apply RetC.mk|refine rgO ?_|refine ixO ?_|(first|apply brD|apply zad|apply brN|apply brI)<;>(intro))
   exact ⟨rfl,RDoes.same h (Nat.le_refl _) (Nat.le_refl _) (Ext.refl _ _)⟩
 obtain ⟨i,rfl,hi⟩:=znE hu;have hS:=h.has.left.start;have hc:(zat Y.vs W.fly).holds w:=hS.get 4 rfl;have hl:Y.vs.length=W.fly.length:=hc.1;obtain ⟨x,hx⟩:∃ x,Y.vs[i]?=some x:=⟨_,List.getElem?_eq_getElem (by omega)⟩;obtain ⟨y,hy⟩:∃ y,W.fly[i]?=some y:=⟨_,List.getElem?_eq_getElem (by omega)⟩;have hcap:=zmE (hS.get 3 rfl);obtain ⟨b0,o0,hfa,_⟩:=(zap (G:=fun _=>True) zak (hS.get 3 rfl) (fun _ _=>trivial)).cells i x hx;have hlt:(Y.vs.take (i+1)).length=i+1:=by rw [List.length_take];omega
 refine zaa tabOk Tryz.func54 (by kernel_rfl) rfl Tryz.ntmps54 (lbO rfl) ?_;(conv=>whnf);refine hS.ld 0 rfl rfl ?_;(conv=>whnf);refine brD (fun h2=>absurd h2 (by omega)) (fun h2=>?_);(conv=>whnf);refine hS.ld 0 rfl rfl ?_;(conv=>whnf);refine brD (fun h3=>?_) (fun h3=>?_)
 ·rw [show W.twice i=(6,W) by unfold WorldS.twice;rw [if_neg (fun h=>h hu),if_pos (by omega)]];repeat' ((conv=>whnf);first|apply RetC.mk|refine rgO ?_|refine ixO ?_|(first|apply brD|apply zad|apply brN|apply brI)<;>(intro))
  exact ⟨rfl,RDoes.same h (Nat.le_refl _) (Nat.le_refl _) (Ext.refl _ _)⟩
 have hw:W.twice i=(0,{ W with fly:=W.fly.take (i+1)++y::W.fly.drop (i+1) }):=by
  unfold WorldS.twice;rw [if_neg (fun h=>h hu),if_neg (by omega)];show (match W.fly[(i:Int).toNat]? with|none=>_|some x=>_)=_;rw [Int.toNat_natCast,hy]
 have hok:=h.ok.twice i;rw [hw] at hok ⊢
 have hll:(W.fly.take (i+1)++y::W.fly.drop (i+1)).length=i+1+1+(W.fly.length - (i+1)):=by
  simp only [List.length_append,List.length_cons,List.length_take,List.length_drop];omega
 replace hS:=hS.addNil 200 5 zae;(conv=>whnf);refine hS.ld 0 rfl rfl ?_;(conv=>whnf);refine rgO ?_;(conv=>whnf);refine zpc (j:=i+1) (zap (G:=fun _=>True) zak (hS.get 3 rfl) (fun _ _=>trivial)) hcap Tryz.underlying81 (by kernel_rfl) (by omega) (by omega) (fun a5 c5 hx5=>?_);(conv=>whnf);refine hS.appS zak 6 (xs:=[]) Tryz.underlying81 (bytes:=56) (by kernel_rfl) (z:=.agg (zae zcx).toArray) (by kernel_rfl) rfl rfl hx5 (by unfold maxLen;simp;omega) (by simp;omega) (fun a6 c6 w6 hS=>?_);rw [show ([]:List NoteV).length+(i+1)=i+1 by simp] at hS ⊢;(conv=>whnf);refine hS.ld 0 rfl (v:=.slice (some ⟨b0,o0,none⟩) W.fly.length Y.lc) (by rw [← hfa];rfl) ?_;(conv=>whnf);refine ixO ?_;(conv=>whnf);refine hS.ldRow zak 3 (by rw [← hfa];rfl) hx rfl ?_;(conv=>whnf);refine hS.lit Tryz.underlying81 (sz:=5) (by kernel_rfl) (z:=.agg (zae zcx).toArray) (by kernel_rfl) rfl rfl (cs:=zae x) (by rfl) (fun b9 w7 hb9 hS=>?_);(conv=>whnf);refine hS.appS zak 6 (ys:=[x]) (G:=fun _=>True) Tryz.underlying81 (bytes:=56) (by kernel_rfl) (z:=.agg (zae zcx).toArray) (by kernel_rfl) rfl rfl (Slc.of_blk zak (hS.blk 7 rfl) rfl (by simp) (fun _ _=>trivial) rfl) (by simp only [List.nil_append];rw [hlt];unfold maxLen;omega) (by simp only [List.nil_append];rw [hlt];omega) (fun a8 c8 w8 hS=>?_);simp only [List.nil_append] at hS ⊢;rw [hlt] at hS ⊢;(conv=>whnf);refine hS.ld 0 rfl rfl ?_;(conv=>whnf);refine rgO ?_;(conv=>whnf);refine ziW (j:=i+1) (zap (G:=fun _=>True) zak (hS.get 3 rfl) (fun _ _=>trivial)) hcap Tryz.underlying81 (by kernel_rfl) (by kernel_rfl) (by omega) (by omega) (fun a7 c7 hx7 hc7=>?_);have hlt2:(Y.vs.take (i+1)++[x]).length=i+1+1:=by rw [List.length_append,hlt];rfl
 conv=>whnf
 refine hS.appS zak 6 Tryz.underlying81 (bytes:=56) (by kernel_rfl) (z:=.agg (zae zcx).toArray) (by kernel_rfl) rfl rfl hx7 (by rw [hlt2];unfold maxLen;omega) (by rw [hlt2];omega) (fun a9 c9 w9 hS=>?_);rw [hlt2,← hll] at hS ⊢;rw [show Y.vs.take (i+1)++[x]++Y.vs.drop (i+1)=Y.vs.take (i+1)++x::Y.vs.drop (i+1) by simp] at hS;(conv=>whnf);refine hS.st 0 rfl (by exact Nat.le_of_ble_eq_true rfl) rfl (fun w10 hS=>?_);repeat' ((conv=>whnf);first|apply RetC.mk|refine rgO ?_|refine ixO ?_|(first|apply brD|apply zad|apply brN|apply brI)<;>(intro))
 obtain ⟨hxy,hsl⟩:=zca (hS.get 4 rfl) hx hy;have hS2:=(hS.upd 4 rfl (e':=zat (Y.vs.take (i+1)++x::Y.vs.drop (i+1)) (W.fly.take (i+1)++y::W.fly.drop (i+1))) (T:=No) (Ext.refl _ _) (fun _ h=>h.elim) zaJ (zhC (hS.get 4 rfl) hxy hsl) (fun b hb=>.inl ((ziv hb).elim id fun h=>cellsE_foot.2 ⟨x,List.mem_of_getElem? hx,h⟩))).sel [0,1,2,6,4,5] (by decide);have hk2:=RTurns.fixed h.has (Y':={ Y with la:=a9,lc:=c9,vs:=Y.vs.take (i+1)++x::Y.vs.drop (i+1) }) (W':={ W with fly:=W.fly.take (i+1)++y::W.fly.drop (i+1) }) (St.turns hS2) rfl rfl rfl rfl;exact ⟨rfl,{ Y with la:=a9,lc:=c9,vs:=Y.vs.take (i+1)++x::Y.vs.drop (i+1) },R,rfl,hk2,h.turns hk2 hok h.rules h.a h.b⟩
end
end Go.Proofs.YtogjajjdaoihdaaGreatDoor
