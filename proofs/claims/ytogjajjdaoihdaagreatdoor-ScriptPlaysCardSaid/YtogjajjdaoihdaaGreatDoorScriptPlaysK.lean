/-
  Texts of this claim, joined: ScrH, ScrI, RefReadD, RefReadE, LawS, ScrL, PolicyLaw, ScrX, ScrY, ScriptAgain, ScrZ, ScrQ, ScrU, ScrV, FlowG, ScrK, ScrJ, ScriptPlays.
-/
import Derived.Test.YtogjajjdaoihdaaGreatDoorScriptPlaysJ
import Derived.Shelf.Vars
import Derived.Lay
import Derived.LaidHandle

namespace Go.Proofs.YtogjajjdaoihdaaGreatDoor
set_option maxRecDepth 20000
open Go Ev
section
variable {w : World} {G G' : List UInt8 → Prop} {a b : Option Addr} {n m c d : Nat} {xs ys : List (List UInt8)}
theorem zqS {k:Nat}{x y:List UInt8}(hx:xs[k]?=some x) (hy:ys[k]?=some y) (h:xs.take k=ys.take k) (e:x=y):xs.take (k+1)=ys.take (k+1):=by
 rw [List.take_add_one,List.take_add_one,hx,hy,h,e]
theorem zgh (hx:Slc w 1 zbe G a n xs) (hy:Slc w 1 zbe G' b m ys) :
  CallC Tryz.prog 19 #[.slice a n c,.slice b m d] w fun v w'=>v = .bool (decide (xs=ys))∧Ext No w w':=by
 have hm:=hx.max;have hl:=hx.len;have hl2:=hy.len;refine zaa tabOk Tryz.func19 (by kernel_rfl) rfl Tryz.ntmps19 (lbO rfl) ?_;have hS:=St.start w No;(conv=>whnf);refine zad (fun h1=>?_) (fun h1=>?_)
 ·repeat' ((conv=>whnf);first|apply RetC.mk|refine rgO ?_|refine ixO ?_|(first|apply brD|apply zad|apply brN|apply brI)<;>(intro))
  refine ⟨?_,hS.ext⟩;have:xs≠ys:=fun e=>h1 (by rw [← hl,← hl2,e])
  simp [this]
 have hnm:n=m:=by omega
 subst hnm;(conv=>whnf)
 refine zaL tabOk (fun σ w' q=>∃ k:Nat,σ=[(5,.int .i64 k),(1,.slice b n d),(0,.slice a n c)]∧q=n - k∧k≤n∧St w No w' []∧xs.take k=ys.take k)
  (σ':=[(5,.int .i64 ((0:Nat):Int)),(1,.slice b n d),(0,.slice a n c)]) (n:=n) ⟨rfl,rfl,rfl,trivial⟩ ⟨0,rfl,rfl,Nat.zero_le _,hS,rfl⟩ ?_
 clear hS;rintro _ w1 q ⟨k,rfl,rfl,hk,hS,hi⟩;(conv=>whnf);refine brD (fun h3=>?_) (fun h3=>?_)
 ·obtain ⟨b0,o0,x,hxk,_,rfl,_,hc⟩:=hx.at (k:=k) (by omega);obtain ⟨b1,o1,y,hyk,_,rfl,_,hd⟩:=hy.at (k:=k) (by omega);(conv=>whnf)
  (refine zah tabOk mixed [] No [0,1,2,3,4,5,6,7,8] (by kernel_rfl) ?_;rintro w1 rfl;replace hS:=hS.drew)
  (conv=>whnf);refine ixO ?_;(conv=>whnf);refine hS.ldrF (hc.one 0 rfl) id id ?_;(conv=>whnf);refine ixO ?_;(conv=>whnf);refine hS.ldrF (hd.one 0 rfl) id id ?_;(conv=>whnf);refine zuS ?_;(conv=>whnf);refine zad (fun h4=>?_) (fun h4=>?_)
  ·repeat' ((conv=>whnf);first|apply RetC.mk|refine rgO ?_|refine ixO ?_|(first|apply brD|apply zad|apply brN|apply brI)<;>(intro))
   refine ⟨?_,hS.ext⟩;have:xs≠ys:=fun e=>h4 (by subst e;exact Option.some.inj (hxk.symm.trans hyk))
   simp [this]
  ·(conv=>whnf)
   refine rgO ?_;(conv=>whnf);refine LoopE.mk ⟨_,[(5,.int .i64 ((k+1:Nat):Int)),(1,_),(0,_)],?_,⟨rfl,rfl,rfl,trivial⟩,⟨k+1,rfl,rfl,by omega,hS,zqS hxk hyk hi h4⟩⟩;omega
 ·repeat' ((conv=>whnf);first|apply RetC.mk|refine rgO ?_|refine ixO ?_|(first|apply brD|apply zad|apply brN|apply brI)<;>(intro))
  have:k=n:=by omega
  subst this;rw [List.take_of_length_le (by omega),List.take_of_length_le (by omega)] at hi;exact ⟨by simp [hi],hS.ext⟩
end
def zdQ:RuleS:=⟨true,true,0,1,9⟩
def pkt56:PktS:=⟨1,5,1,6,9,0⟩
def zl8:List UInt8:=[97,108,108,111,119,32,111,117,116,32,97,110,121,32,49,45,57,10]
def zim:List UInt8:=[116,105,99,107,32,49,32,49,48]
def zh8:List UInt8:=[97,108,108]
def zii:List UInt8:=[115,119,105,116,99,104]
def zvz:List UInt8:=[117,100,112,32,53,58,49,32,54,58,57]
def zgd:List UInt8:=[105,110,115,105,100,101,32]++zvz
def zih:List UInt8:=[102,108,111,119,115,32,49]
def zlf:List UInt8:=[117,100,112,32,49,58,50,48,50,52,32,54,58,57]
theorem znI:Lib.itoa 1=[49]:=Lib.decDigits_one (i:=1) (by decide)
theorem zvq:Lib.itoa 5=[53]:=Lib.decDigits_one (i:=5) (by decide)
theorem zuq:Lib.itoa 6=[54]:=Lib.decDigits_one (i:=6) (by decide)
theorem zsP:Lib.itoa 9=[57]:=Lib.decDigits_one (i:=9) (by decide)
theorem zqO:Lib.itoa 2024=[50,48,50,52]:=by
 have h:=zkf 3 [50,48,50,52] rfl ⟨by decide,by decide,fun _=>by decide⟩;exact h
theorem zpo:za4 zl8=([zdQ],(0,-1)):=by
 have h:=zeF (l:=[zdQ]) (by decide)
 have e:zbx [zdQ]=zl8:=by
  simp only [zbx,zdQ,List.flatMap_cons,List.flatMap_nil,RuleS.line,RuleS.words,znI,zsP];decide
 rwa [e] at h
theorem zo7:pkt56.text=zvz:=by
 simp only [PktS.text,zeD,pkt56,znI,zvq,zuq,zsP];decide
def zsB:Bool :=
 let R:=(WorldS.born [zdQ]).ticks 1 10
 let V:=R.2.land R.2.fly.length
 let I:=V.inside pkt56
 decide (R.1=0)&&decide (R.2.fly.length=1)&&decide (V.to=1)&&decide (V.epoch=1)&&decide (I.1=0)&&decide (I.2.1=⟨1,1,2024,6,9,0⟩)&&decide (I.2.2.upErr 1=0)&&(match (I.2.2.side 1).node with|some N=>decide (zaI N.tab.cells=1)|none=>false)
theorem zk4:zsB=true:=by decide +kernel
theorem zfy {l:List UInt8}{W:WorldS}{d:Cmd}{xs:List Int}(h:(Lib.cut l [32]).1≠zbF) (h2:(Lib.cut l [32]).1≠zbm) (h3:zcf ((zbg 32 l).headD [])=some d) (h4:zco d.form ((zbg 32 l).drop 1)=some xs):tellS l W=(if (d.does xs W).1.2=0 then (d.does xs W).1.1 else zdO (d.does xs W).1.2,(d.does xs W).2):=by
 unfold tellS;rw [zjl h h2 h3 h4]
theorem zk6:(runS [zim,zh8,zii,zgd,zih] (.born [zdQ])).1=[tOk,[49],[49,32,49],zlf,[49]]:=by
 have hb:=zk4;unfold zsB at hb;simp only [Bool.and_eq_true,decide_eq_true_eq] at hb;obtain ⟨⟨⟨⟨⟨⟨⟨h1,h2⟩,h3⟩,h4⟩,h5⟩,h6⟩,h7⟩,h8⟩:=hb
 have t1:tellS zim (.born [zdQ])=(tOk,((WorldS.born [zdQ]).ticks 1 10).2):=by
  rw [zfy (d:=.tick) (xs:=[1,10]) (by decide) (by decide) (by decide) (by decide)];show (if ((WorldS.born [zdQ]).ticks 1 10).1=0 then tOk else _,((WorldS.born [zdQ]).ticks 1 10).2)=_;rw [if_pos h1]
 generalize (WorldS.born [zdQ]).ticks 1 10=R at h1 h2 h3 h4 h5 h6 h7 h8 t1
 have t2:tellS zh8 R.2=([49],R.2.land R.2.fly.length):=by
  rw [zfy (d:=.all) (xs:=[]) (by decide) (by decide) (by decide) (by decide)];show (Lib.itoa (R.2.fly.length:Nat),R.2.land R.2.fly.length)=_;rw [h2,show ((1:Nat):Int)=1 from rfl,znI]
 generalize R.2.land R.2.fly.length=V at h3 h4 h5 h6 h7 h8 t2
 have t3:tellS zii V=([49,32,49],V):=by
  rw [zfy (d:=.switch) (xs:=[]) (by decide) (by decide) (by decide) (by decide)];show (if V.to < 0 then ze9 else Lib.itoa V.to++[32]++Lib.itoa V.epoch,V)=_;rw [h3,h4,if_neg (by decide),znI];rfl
 have t4:tellS zgd V=(zlf,(V.inside pkt56).2.2):=by
  have hr:(Lib.cut zgd [32]).2.1=pkt56.text:=by rw [zo7];decide
  have hp:playS zgd V=((zlf,0),(V.inside pkt56).2.2):=by
   rw [zlz (by decide),hr,zei (zeM (by decide)) h5,h6]
   have ho:(⟨1,1,2024,6,9,0⟩:PktS).text=zlf:=by
    simp only [PktS.text,zeD,znI,zqO,zuq,zsP];decide
   rw [ho];rfl
  unfold tellS;rw [hp];rfl
 generalize (V.inside pkt56).2.2=Z at h7 h8 t4
 have t5:tellS zih Z=([49],Z):=by
  rw [zfy (d:=.flows) (xs:=[1]) (by decide) (by decide) (by decide) (by decide)]
  have ha:zbM Z 1 (fun N=>(zaI N.tab.cells:Nat))=([49],0):=by
   unfold zbM;split at h8
   ·rename_i N hN;rw [hN];dsimp only;rw [if_pos h7,of_decide_eq_true h8];rw [show ((1:Nat):Int)=1 from rfl,znI]
   ·cases h8
  show (if (zbM Z 1 (fun N=>(zaI N.tab.cells:Nat))).2=0 then (zbM Z 1 (fun N=>(zaI N.tab.cells:Nat))).1 else _,Z)=_;rw [ha];rfl
 simp only [runS,t1,t2,t3,t4,t5]
section
variable {w : World} {E : Nat → Addr} {W0 : World}
theorem znX:zcn [zim,zh8,zii,zgd,zih]≤40000000:=by decide +kernel
theorem zqR (B:Base E W0) (hx0:Ext No W0 w):CallC Tryz.prog 8 #[] w fun v w'=>v = .bool true∧Ext No w w':=by
 refine zaa tabOk Tryz.func8 (by kernel_rfl) rfl Tryz.ntmps8 (lbO rfl) ?_;have hS:=St.start w No;(conv=>whnf);refine hS.lit (cs:=[zim,zh8,zii,zgd,zih].map fun l=>.string (bs l)) Tryz.underlying22 (sz:=1) (by kernel_rfl) (z:=.string (bs [])) (by kernel_rfl) rfl rfl (by rfl) (fun b w1 hb hS=>?_);have hx:Slc w1 1 zbe (fun t=>t.length≤100000) (some ⟨b,0,none⟩) 5 [zim,zh8,zii,zgd,zih]:=Slc.of_blk zfP (hS.blk 0 rfl) rfl (by decide) (by decide) rfl;(conv=>whnf);refine (zpi B (hx0.trans hS.ext) zl8 (by decide) hx znX).mono ?_
 have hsc:scriptS zl8 [zim,zh8,zii,zgd,zih]=((0,-1),[tOk,[49],[49,32,49],zlf,[49]]):=by
  unfold scriptS;rw [if_neg (by decide),zpo,if_neg (by decide),zk6]
 rw [hsc];rintro v w2 ⟨⟨a2,c2,e,rfl,hf,ho,_⟩,hx2⟩;replace hS:=hS.no hx2
 obtain rfl:e = .nilIface:=by
  rcases hf with ⟨_,h⟩ | ⟨_,h,_⟩
  ·exact h
  ·exact absurd h (by decide)
 have hz:=zap (G:=fun _=>True) zfP ho (fun _ _=>trivial);(conv=>whnf);refine hS.litX (cs:=[tOk,[49],[49,32,49],zlf,[49]].map fun l=>.string (bs l)) Tryz.underlying22 (sz:=1) (by kernel_rfl) (z:=.string (bs [])) (by kernel_rfl) rfl rfl (by rfl) (fun b3 w3 hb3 hx3 hS=>?_);have hy:Slc w3 1 zbe (fun _=>True) (some ⟨b3,0,none⟩) 5 [tOk,[49],[49,32,49],zlf,[49]]:=Slc.of_blk zfP (hS.blk 1 rfl) rfl (by decide) (fun _ _=>trivial) rfl;(conv=>whnf);refine (zgh (hz.no hx3) hy).mono ?_;rintro v w4 ⟨rfl,hx4⟩;replace hS:=hS.no hx4;repeat' ((conv=>whnf);first|apply RetC.mk|refine rgO ?_|refine ixO ?_|(first|apply brD|apply zad|apply brN|apply brI)<;>(intro))
 exact ⟨rfl,hS.ext⟩
end
theorem zpB (d:Cmd):d.word=[116,105,99,107]∨d.word=[99,117,116]∨d.word=[103,111]∨d.word=[108,111,115,101]∨d.word=[116,119,105,99,101]∨d.word=[100,111,119,110]∨d.word=[117,112]∨d.word=[97,99,116,105,118,101]∨d.word=[102,108,111,119,115]∨d.word=[109,105,114,114,111,114]∨d.word=[101,112,111,99,104]∨d.word=[108,105,102,101]∨d.word=[97,108,108]∨d.word=[102,108,121]∨d.word=[115,119,105,116,99,104]∨d.word=[101,118,101,110,116,115]:=by
 cases d<;>simp [Cmd.word]
section
variable {w : World}
theorem zoJ (s:List UInt8) (w:World):CallC Tryz.prog 13 #[.string (bs s)] w fun v w'=>v = .tuple #[.string (bs ((zbW s).getD [])),.bool (zbW s).isSome]∧w=w':=by
 refine zaa tabOk Tryz.func13 (by kernel_rfl) rfl Tryz.ntmps13 (lbO rfl) ?_;(conv=>whnf);refine zbt (b:=[116,105,99,107]) ?_;by_cases h0:s=[116,105,99,107]
 ·rw [decide_eq_true h0];repeat' ((conv=>whnf);first|apply RetC.mk|refine rgO ?_|refine ixO ?_|(first|apply brD|apply zad|apply brN|apply brI)<;>(intro))
  rw [h0,show zbW [116,105,99,107]=some [115,110] by decide];exact ⟨rfl,rfl⟩
 rw [decide_eq_false h0];(conv=>whnf);refine zbt (b:=[99,117,116]) ?_;by_cases h1:s=[99,117,116]
 ·rw [decide_eq_true h1];repeat' ((conv=>whnf);first|apply RetC.mk|refine rgO ?_|refine ixO ?_|(first|apply brD|apply zad|apply brN|apply brI)<;>(intro))
  rw [h1,show zbW [99,117,116]=some [115,110] by decide];exact ⟨rfl,rfl⟩
 rw [decide_eq_false h1];(conv=>whnf);refine zbt (b:=[103,111]) ?_;by_cases h2:s=[103,111]
 ·rw [decide_eq_true h2];repeat' ((conv=>whnf);first|apply RetC.mk|refine rgO ?_|refine ixO ?_|(first|apply brD|apply zad|apply brN|apply brI)<;>(intro))
  rw [h2,show zbW [103,111]=some [110] by decide];exact ⟨rfl,rfl⟩
 rw [decide_eq_false h2];(conv=>whnf);refine zbt (b:=[108,111,115,101]) ?_;by_cases h3:s=[108,111,115,101]
 ·rw [decide_eq_true h3];repeat' ((conv=>whnf);first|apply RetC.mk|refine rgO ?_|refine ixO ?_|(first|apply brD|apply zad|apply brN|apply brI)<;>(intro))
  rw [h3,show zbW [108,111,115,101]=some [110] by decide];exact ⟨rfl,rfl⟩
 rw [decide_eq_false h3];(conv=>whnf);refine zbt (b:=[116,119,105,99,101]) ?_;by_cases h4:s=[116,119,105,99,101]
 ·rw [decide_eq_true h4];repeat' ((conv=>whnf);first|apply RetC.mk|refine rgO ?_|refine ixO ?_|(first|apply brD|apply zad|apply brN|apply brI)<;>(intro))
  rw [h4,show zbW [116,119,105,99,101]=some [110] by decide];exact ⟨rfl,rfl⟩
 rw [decide_eq_false h4];(conv=>whnf);refine zbt (b:=[100,111,119,110]) ?_;by_cases h5:s=[100,111,119,110]
 ·rw [decide_eq_true h5];repeat' ((conv=>whnf);first|apply RetC.mk|refine rgO ?_|refine ixO ?_|(first|apply brD|apply zad|apply brN|apply brI)<;>(intro))
  rw [h5,show zbW [100,111,119,110]=some [115] by decide];exact ⟨rfl,rfl⟩
 rw [decide_eq_false h5];(conv=>whnf);refine zbt (b:=[117,112]) ?_;by_cases h6:s=[117,112]
 ·rw [decide_eq_true h6];repeat' ((conv=>whnf);first|apply RetC.mk|refine rgO ?_|refine ixO ?_|(first|apply brD|apply zad|apply brN|apply brI)<;>(intro))
  rw [h6,show zbW [117,112]=some [115] by decide];exact ⟨rfl,rfl⟩
 rw [decide_eq_false h6];(conv=>whnf);refine zbt (b:=[97,99,116,105,118,101]) ?_;by_cases h7:s=[97,99,116,105,118,101]
 ·rw [decide_eq_true h7];repeat' ((conv=>whnf);first|apply RetC.mk|refine rgO ?_|refine ixO ?_|(first|apply brD|apply zad|apply brN|apply brI)<;>(intro))
  rw [h7,show zbW [97,99,116,105,118,101]=some [115] by decide];exact ⟨rfl,rfl⟩
 rw [decide_eq_false h7];(conv=>whnf);refine zbt (b:=[102,108,111,119,115]) ?_;by_cases h8:s=[102,108,111,119,115]
 ·rw [decide_eq_true h8];repeat' ((conv=>whnf);first|apply RetC.mk|refine rgO ?_|refine ixO ?_|(first|apply brD|apply zad|apply brN|apply brI)<;>(intro))
  rw [h8,show zbW [102,108,111,119,115]=some [115] by decide];exact ⟨rfl,rfl⟩
 rw [decide_eq_false h8];(conv=>whnf);refine zbt (b:=[109,105,114,114,111,114]) ?_;by_cases h9:s=[109,105,114,114,111,114]
 ·rw [decide_eq_true h9];repeat' ((conv=>whnf);first|apply RetC.mk|refine rgO ?_|refine ixO ?_|(first|apply brD|apply zad|apply brN|apply brI)<;>(intro))
  rw [h9,show zbW [109,105,114,114,111,114]=some [115] by decide];exact ⟨rfl,rfl⟩
 rw [decide_eq_false h9];(conv=>whnf);refine zbt (b:=[101,112,111,99,104]) ?_;by_cases h10:s=[101,112,111,99,104]
 ·rw [decide_eq_true h10];repeat' ((conv=>whnf);first|apply RetC.mk|refine rgO ?_|refine ixO ?_|(first|apply brD|apply zad|apply brN|apply brI)<;>(intro))
  rw [h10,show zbW [101,112,111,99,104]=some [115] by decide];exact ⟨rfl,rfl⟩
 rw [decide_eq_false h10];(conv=>whnf);refine zbt (b:=[108,105,102,101]) ?_;by_cases h11:s=[108,105,102,101]
 ·rw [decide_eq_true h11];repeat' ((conv=>whnf);first|apply RetC.mk|refine rgO ?_|refine ixO ?_|(first|apply brD|apply zad|apply brN|apply brI)<;>(intro))
  rw [h11,show zbW [108,105,102,101]=some [115] by decide];exact ⟨rfl,rfl⟩
 rw [decide_eq_false h11];(conv=>whnf);refine zbt (b:=[105,110,115,105,100,101]) ?_;by_cases h12:s=[105,110,115,105,100,101]
 ·rw [decide_eq_true h12];repeat' ((conv=>whnf);first|apply RetC.mk|refine rgO ?_|refine ixO ?_|(first|apply brD|apply zad|apply brN|apply brI)<;>(intro))
  rw [h12,show zbW [105,110,115,105,100,101]=some [112] by decide];exact ⟨rfl,rfl⟩
 rw [decide_eq_false h12];(conv=>whnf);refine zbt (b:=[111,117,116,115,105,100,101]) ?_;by_cases h13:s=[111,117,116,115,105,100,101]
 ·rw [decide_eq_true h13];repeat' ((conv=>whnf);first|apply RetC.mk|refine rgO ?_|refine ixO ?_|(first|apply brD|apply zad|apply brN|apply brI)<;>(intro))
  rw [h13,show zbW [111,117,116,115,105,100,101]=some [112] by decide];exact ⟨rfl,rfl⟩
 rw [decide_eq_false h13];(conv=>whnf);refine zbt (b:=[97,108,108]) ?_;by_cases h14:s=[97,108,108]
 ·rw [decide_eq_true h14];repeat' ((conv=>whnf);first|apply RetC.mk|refine rgO ?_|refine ixO ?_|(first|apply brD|apply zad|apply brN|apply brI)<;>(intro))
  rw [h14,show zbW [97,108,108]=some [] by decide];exact ⟨rfl,rfl⟩
 rw [decide_eq_false h14];(conv=>whnf);refine zbt (b:=[102,108,121]) ?_;by_cases h15:s=[102,108,121]
 ·rw [decide_eq_true h15];repeat' ((conv=>whnf);first|apply RetC.mk|refine rgO ?_|refine ixO ?_|(first|apply brD|apply zad|apply brN|apply brI)<;>(intro))
  rw [h15,show zbW [102,108,121]=some [] by decide];exact ⟨rfl,rfl⟩
 rw [decide_eq_false h15];(conv=>whnf);refine zbt (b:=[115,119,105,116,99,104]) ?_;by_cases h16:s=[115,119,105,116,99,104]
 ·rw [decide_eq_true h16];repeat' ((conv=>whnf);first|apply RetC.mk|refine rgO ?_|refine ixO ?_|(first|apply brD|apply zad|apply brN|apply brI)<;>(intro))
  rw [h16,show zbW [115,119,105,116,99,104]=some [] by decide];exact ⟨rfl,rfl⟩
 rw [decide_eq_false h16];(conv=>whnf);refine zbt (b:=[101,118,101,110,116,115]) ?_;by_cases h17:s=[101,118,101,110,116,115]
 ·rw [decide_eq_true h17];repeat' ((conv=>whnf);first|apply RetC.mk|refine rgO ?_|refine ixO ?_|(first|apply brD|apply zad|apply brN|apply brI)<;>(intro))
  rw [h17,show zbW [101,118,101,110,116,115]=some [] by decide];exact ⟨rfl,rfl⟩
 rw [decide_eq_false h17]
 have hf:zbW s=none:=by
  unfold zbW;rw [if_neg (fun h=>h.elim h12 h13)];cases hc:zcf s with
  | none=>rfl
  | some d =>
   have hw:=zh5 hc;rcases zpB d with h|h|h|h|h|h|h|h|h|h|h|h|h|h|h|h<;>rw [h] at hw<;>contradiction
 repeat' ((conv=>whnf);first|apply RetC.mk|refine rgO ?_|refine ixO ?_|(first|apply brD|apply zad|apply brN|apply brI)<;>(intro))
 rw [hf];exact ⟨rfl,rfl⟩
theorem zbw (k:Nat) (h1:1≤k) (h2:k < 12) (w:World):CallC Tryz.prog 14 #[.int .i64 (k:Int)] w fun v w'=>v = .string (bs (zdO k))∧Ext No w w':=by
 have hk:k=1∨k=2∨k=3∨k=4∨k=5∨k=6∨k=7∨k=8∨k=9∨k=10∨k=11:=by omega
 rcases hk with rfl|rfl|rfl|rfl|rfl|rfl|rfl|rfl|rfl|rfl|rfl
 all_goals
  refine zaa tabOk Tryz.func14 (by kernel_rfl) rfl Tryz.ntmps14 (lbO rfl) ?_;have hS:=St.start w No;(conv=>whnf);refine hS.lit (cs:=[zoc 1,zoc 2,zoc 3,zoc 4,zoc 5,zoc 6,zoc 7,zoc 8,zoc 9,zoc 10,zoc 11].map fun l=>.string (bs l)) Tryz.underlying22 (sz:=1) (by kernel_rfl) (z:=.string (bs [])) (by kernel_rfl) rfl rfl (by rfl) (fun b w1 hb hS=>?_);(conv=>whnf);refine rgO ?_;(conv=>whnf);refine ixO ?_;(conv=>whnf);refine hS.ld 0 rfl rfl ?_;(conv=>whnf);refine zbp (a:=[116,119,105,110,114,97,109,112,97,114,116,58,32]) (by decide) ?_;repeat' ((conv=>whnf);first|apply RetC.mk|refine rgO ?_|refine ixO ?_|(first|apply brD|apply zad|apply brN|apply brI)<;>(intro))
  exact ⟨rfl,hS.ext⟩
end
def RuleS.pr (r:RuleS):List Pr:=[.bool r.allow,.bool r.out,.int r.proto,.int r.low,.int r.top]
section
variable {w : World} {G G' : RuleS → Prop} {a b : Option Addr} {n m c d : Nat} {xs ys : List RuleS}
theorem ze3 {pr:Int}(h:0≤pr∧pr≤2):[Value.string (bs zrR),.string (bs znh),.string (bs znf)][0+pr.toNat * 1]?=some (.string (bs (zcU pr))):=by
 have:pr=0∨pr=1∨pr=2:=by omega
 rcases this with rfl|rfl|rfl<;>rfl
theorem zjL (hx:Slc w 5 zal G a n xs) (hg:zgv xs) :
  CallC Tryz.prog 18 #[.slice a n c] w fun v w'=>v = .string (bs (zbx xs))∧Ext No w w':=by
 have hm:=hx.max;have hl:=hx.len;have hg1:=hg.1;refine zaa tabOk Tryz.func18 (by kernel_rfl) rfl Tryz.ntmps18 (lbO rfl) ?_;have hS:=St.start w No;(conv=>whnf)
 refine zaL tabOk (fun σ w' q=>∃ k:Nat,σ=[(4,.int .i64 (k:Int)),(3,.string (bs (zbx (xs.take k)))),(0,.slice a n c)]∧q=n - k∧k≤n∧St w No w' [])
  (σ':=[(4,.int .i64 ((0:Nat):Int)),(3,.string (bs [])),(0,.slice a n c)]) (n:=n) ⟨rfl,rfl,rfl,trivial⟩ ⟨0,rfl,rfl,Nat.zero_le _,hS⟩ ?_
 clear hS;rintro _ w1 q ⟨k,rfl,rfl,hk,hS⟩;have hl1:=zeT (l:=xs.take k) fun r hr=>(zlB (hg.2 r (List.mem_of_mem_take hr))).1
 rw [List.length_take] at hl1;(conv=>whnf);refine brD (fun h3=>?_) (fun h3=>?_)
 ·obtain ⟨b0,o0,x,hxk,_,rfl,_,hc⟩:=hx.at (k:=k) (by omega);have hst:=znx hxk;obtain ⟨hp0,hp2,hlo,hlt,hto⟩:=zhc (hg.2 x (List.mem_of_getElem? hxk));obtain ⟨al,ou,pr,lo,tp⟩:=x;dsimp only at hp0 hp2 hlo hlt hto;obtain ⟨lo,rfl⟩:∃ j:Nat,lo=j:=⟨lo.toNat,by omega⟩;obtain ⟨tp,rfl⟩:∃ j:Nat,tp=j:=⟨tp.toNat,by omega⟩;have hpr:0≤pr∧pr≤2:=⟨hp0,hp2⟩;have hlol:=zha (v:=(lo:Int)) (by omega) (by omega);have htol:=zha (v:=(tp:Int)) (by omega) (by omega)
  have hpl:(zcU pr).length≤3:=by
   unfold zcU;split
   ·decide
   ·split<;>decide
  (conv=>whnf);refine ixO ?_;(conv=>whnf);refine hS.lar (l:=zal ⟨al,ou,pr,lo,tp⟩) rfl hc id ?_;(conv=>whnf);refine hS.new (fun b5 w' hb5 hS=>?_);(conv=>whnf);refine hS.st 0 rfl (lbO rfl) rfl (fun w' hS=>?_);replace hS:St w No w' [blk b5 98 (zal ⟨al,ou,pr,lo,tp⟩)]:=hS;cases al with
  | false =>
   (conv=>whnf);refine hS.ld 0 rfl rfl ?_;cases ou with
   | false =>
    (conv=>whnf);refine hS.ld 0 rfl rfl ?_;(conv=>whnf);refine zeI tabOk mixed [11] (No) (.take 0 (.take 1 (.take 2 (.take 3 (.take 4 (.take 5 (.take 6 (.take 8 (.take 9 (.take 14 (.take 15 (.take 19 (.take 20 (.alt 7 (.take 10 (.alt 11 (.take 12 (.take 13 (.alt 16 (.take 17 (.take 18 (.alt 21 (.take 22 (.take 23 (.take 24 .fin))) .fin))) .fin))) (.alt 16 (.alt 11 (.take 12 (.take 13 (.take 17 (.take 18 (.alt 21 (.take 22 (.take 23 (.take 24 .fin))) .fin))))) (.alt 21 (.alt 11 (.take 12 (.take 13 (.take 17 (.take 18 (.take 22 (.take 23 (.take 24 .fin))))))) .fin) .fin)) .fin))) (.alt 16 (.alt 7 (.take 10 (.alt 11 (.take 12 (.take 13 (.take 17 (.take 18 (.alt 21 (.take 22 (.take 23 (.take 24 .fin))) .fin))))) (.alt 21 (.alt 11 (.take 12 (.take 13 (.take 17 (.take 18 (.take 22 (.take 23 (.take 24 .fin))))))) .fin) .fin))) (.alt 21 (.alt 7 (.take 10 (.alt 11 (.take 12 (.take 13 (.take 17 (.take 18 (.take 22 (.take 23 (.take 24 .fin))))))) .fin)) .fin) .fin)) .fin))))))))))))))) (by kernel_rfl) ?_;rintro w1 rfl;replace hS:=hS.drew;have hK:=hS.ref No;repeat' ((conv=>whnf);first|refine And.intro ?_ ?_|refine rgO ?_|refine IdxC.mk (by dsimp only;omega) (by dsimp only;omega) ?_|refine hS.ldF 0 rfl rfl id ?_|refine zbp (by simp only [List.length_append,List.length_cons,List.length_nil];omega) ?_|(refine (zbS lo (by omega) _).mono ?_;rintro v w5 ⟨rfl,hx'⟩;replace hS:=hS.no hx';replace hK:=hK.trans hx';clear hx';refine KeepC.mk hK ?_)|(refine (zbS tp (by omega) _).mono ?_;rintro v w5 ⟨rfl,hx'⟩;replace hS:=hS.no hx';replace hK:=hK.trans hx';clear hx';refine KeepC.mk hK ?_)|(refine hS.litX Tryz.underlying22 (sz:=1) (by kernel_rfl) (z:=.string (bs [])) (by kernel_rfl) rfl rfl (cs:=[.string (bs zrR),.string (bs znh),.string (bs znf)]) (by rfl) (fun b9 w5 hb9 hx' hS=>?_);replace hK:=hK.trans hx';clear hx';refine KeepC.mk hK ?_)|refine hS.ld 1 rfl (v:=.string (bs (zcU pr))) (ze3 hpr) (KeepC.mk hK ?_))
    all_goals
     refine LoopE.mk ⟨_,[(4,.int .i64 ((k+1:Nat):Int)),(3,.string (bs (zbx (xs.take (k+1))))),(0,_)],?_,⟨rfl,?_,rfl,trivial⟩,⟨k+1,rfl,rfl,by omega,hS.keep 0⟩⟩
     ·omega
     ·refine congrArg (fun l=>some (Value.string (bs l))) ?_;rw [hst];simp [RuleS.line,RuleS.words,Lib.join_cons,Lib.joinTail,zb6,zhP,zjA,sIn]
   | true =>
    (conv=>whnf);refine hS.ld 0 rfl rfl ?_;(conv=>whnf);refine zeI tabOk mixed [11] (No) (.take 0 (.take 1 (.take 2 (.take 3 (.take 4 (.take 5 (.take 6 (.take 8 (.take 9 (.take 14 (.take 15 (.take 19 (.take 20 (.alt 7 (.take 10 (.alt 11 (.take 12 (.take 13 (.alt 16 (.take 17 (.take 18 (.alt 21 (.take 22 (.take 23 (.take 24 .fin))) .fin))) .fin))) (.alt 16 (.alt 11 (.take 12 (.take 13 (.take 17 (.take 18 (.alt 21 (.take 22 (.take 23 (.take 24 .fin))) .fin))))) (.alt 21 (.alt 11 (.take 12 (.take 13 (.take 17 (.take 18 (.take 22 (.take 23 (.take 24 .fin))))))) .fin) .fin)) .fin))) (.alt 16 (.alt 7 (.take 10 (.alt 11 (.take 12 (.take 13 (.take 17 (.take 18 (.alt 21 (.take 22 (.take 23 (.take 24 .fin))) .fin))))) (.alt 21 (.alt 11 (.take 12 (.take 13 (.take 17 (.take 18 (.take 22 (.take 23 (.take 24 .fin))))))) .fin) .fin))) (.alt 21 (.alt 7 (.take 10 (.alt 11 (.take 12 (.take 13 (.take 17 (.take 18 (.take 22 (.take 23 (.take 24 .fin))))))) .fin)) .fin) .fin)) .fin))))))))))))))) (by kernel_rfl) ?_;rintro w1 rfl;replace hS:=hS.drew;have hK:=hS.ref No;repeat' ((conv=>whnf);first|refine And.intro ?_ ?_|refine rgO ?_|refine IdxC.mk (by dsimp only;omega) (by dsimp only;omega) ?_|refine hS.ldF 0 rfl rfl id ?_|refine zbp (by simp only [List.length_append,List.length_cons,List.length_nil];omega) ?_|(refine (zbS lo (by omega) _).mono ?_;rintro v w5 ⟨rfl,hx'⟩;replace hS:=hS.no hx';replace hK:=hK.trans hx';clear hx';refine KeepC.mk hK ?_)|(refine (zbS tp (by omega) _).mono ?_;rintro v w5 ⟨rfl,hx'⟩;replace hS:=hS.no hx';replace hK:=hK.trans hx';clear hx';refine KeepC.mk hK ?_)|(refine hS.litX Tryz.underlying22 (sz:=1) (by kernel_rfl) (z:=.string (bs [])) (by kernel_rfl) rfl rfl (cs:=[.string (bs zrR),.string (bs znh),.string (bs znf)]) (by rfl) (fun b9 w5 hb9 hx' hS=>?_);replace hK:=hK.trans hx';clear hx';refine KeepC.mk hK ?_)|refine hS.ld 1 rfl (v:=.string (bs (zcU pr))) (ze3 hpr) (KeepC.mk hK ?_))
    all_goals
     refine LoopE.mk ⟨_,[(4,.int .i64 ((k+1:Nat):Int)),(3,.string (bs (zbx (xs.take (k+1))))),(0,_)],?_,⟨rfl,?_,rfl,trivial⟩,⟨k+1,rfl,rfl,by omega,hS.keep 0⟩⟩
     ·omega
     ·refine congrArg (fun l=>some (Value.string (bs l))) ?_;rw [hst];simp [RuleS.line,RuleS.words,Lib.join_cons,Lib.joinTail,zb6,zhP,zjA,sIn]
  | true =>
   (conv=>whnf);refine hS.ld 0 rfl rfl ?_;cases ou with
   | false =>
    (conv=>whnf);refine hS.ld 0 rfl rfl ?_;(conv=>whnf);refine zeI tabOk mixed [11] (No) (.take 0 (.take 1 (.take 2 (.take 3 (.take 4 (.take 5 (.take 6 (.take 8 (.take 9 (.take 14 (.take 15 (.take 19 (.take 20 (.alt 7 (.take 10 (.alt 11 (.take 12 (.take 13 (.alt 16 (.take 17 (.take 18 (.alt 21 (.take 22 (.take 23 (.take 24 .fin))) .fin))) .fin))) (.alt 16 (.alt 11 (.take 12 (.take 13 (.take 17 (.take 18 (.alt 21 (.take 22 (.take 23 (.take 24 .fin))) .fin))))) (.alt 21 (.alt 11 (.take 12 (.take 13 (.take 17 (.take 18 (.take 22 (.take 23 (.take 24 .fin))))))) .fin) .fin)) .fin))) (.alt 16 (.alt 7 (.take 10 (.alt 11 (.take 12 (.take 13 (.take 17 (.take 18 (.alt 21 (.take 22 (.take 23 (.take 24 .fin))) .fin))))) (.alt 21 (.alt 11 (.take 12 (.take 13 (.take 17 (.take 18 (.take 22 (.take 23 (.take 24 .fin))))))) .fin) .fin))) (.alt 21 (.alt 7 (.take 10 (.alt 11 (.take 12 (.take 13 (.take 17 (.take 18 (.take 22 (.take 23 (.take 24 .fin))))))) .fin)) .fin) .fin)) .fin))))))))))))))) (by kernel_rfl) ?_;rintro w1 rfl;replace hS:=hS.drew;have hK:=hS.ref No;repeat' ((conv=>whnf);first|refine And.intro ?_ ?_|refine rgO ?_|refine IdxC.mk (by dsimp only;omega) (by dsimp only;omega) ?_|refine hS.ldF 0 rfl rfl id ?_|refine zbp (by simp only [List.length_append,List.length_cons,List.length_nil];omega) ?_|(refine (zbS lo (by omega) _).mono ?_;rintro v w5 ⟨rfl,hx'⟩;replace hS:=hS.no hx';replace hK:=hK.trans hx';clear hx';refine KeepC.mk hK ?_)|(refine (zbS tp (by omega) _).mono ?_;rintro v w5 ⟨rfl,hx'⟩;replace hS:=hS.no hx';replace hK:=hK.trans hx';clear hx';refine KeepC.mk hK ?_)|(refine hS.litX Tryz.underlying22 (sz:=1) (by kernel_rfl) (z:=.string (bs [])) (by kernel_rfl) rfl rfl (cs:=[.string (bs zrR),.string (bs znh),.string (bs znf)]) (by rfl) (fun b9 w5 hb9 hx' hS=>?_);replace hK:=hK.trans hx';clear hx';refine KeepC.mk hK ?_)|refine hS.ld 1 rfl (v:=.string (bs (zcU pr))) (ze3 hpr) (KeepC.mk hK ?_))
    all_goals
     refine LoopE.mk ⟨_,[(4,.int .i64 ((k+1:Nat):Int)),(3,.string (bs (zbx (xs.take (k+1))))),(0,_)],?_,⟨rfl,?_,rfl,trivial⟩,⟨k+1,rfl,rfl,by omega,hS.keep 0⟩⟩
     ·omega
     ·refine congrArg (fun l=>some (Value.string (bs l))) ?_;rw [hst];simp [RuleS.line,RuleS.words,Lib.join_cons,Lib.joinTail,zb6,zhP,zjA,sIn]
   | true =>
    (conv=>whnf);refine hS.ld 0 rfl rfl ?_;(conv=>whnf);refine zeI tabOk mixed [11] (No) (.take 0 (.take 1 (.take 2 (.take 3 (.take 4 (.take 5 (.take 6 (.take 8 (.take 9 (.take 14 (.take 15 (.take 19 (.take 20 (.alt 7 (.take 10 (.alt 11 (.take 12 (.take 13 (.alt 16 (.take 17 (.take 18 (.alt 21 (.take 22 (.take 23 (.take 24 .fin))) .fin))) .fin))) (.alt 16 (.alt 11 (.take 12 (.take 13 (.take 17 (.take 18 (.alt 21 (.take 22 (.take 23 (.take 24 .fin))) .fin))))) (.alt 21 (.alt 11 (.take 12 (.take 13 (.take 17 (.take 18 (.take 22 (.take 23 (.take 24 .fin))))))) .fin) .fin)) .fin))) (.alt 16 (.alt 7 (.take 10 (.alt 11 (.take 12 (.take 13 (.take 17 (.take 18 (.alt 21 (.take 22 (.take 23 (.take 24 .fin))) .fin))))) (.alt 21 (.alt 11 (.take 12 (.take 13 (.take 17 (.take 18 (.take 22 (.take 23 (.take 24 .fin))))))) .fin) .fin))) (.alt 21 (.alt 7 (.take 10 (.alt 11 (.take 12 (.take 13 (.take 17 (.take 18 (.take 22 (.take 23 (.take 24 .fin))))))) .fin)) .fin) .fin)) .fin))))))))))))))) (by kernel_rfl) ?_;rintro w1 rfl;replace hS:=hS.drew;have hK:=hS.ref No;repeat' ((conv=>whnf);first|refine And.intro ?_ ?_|refine rgO ?_|refine IdxC.mk (by dsimp only;omega) (by dsimp only;omega) ?_|refine hS.ldF 0 rfl rfl id ?_|refine zbp (by simp only [List.length_append,List.length_cons,List.length_nil];omega) ?_|(refine (zbS lo (by omega) _).mono ?_;rintro v w5 ⟨rfl,hx'⟩;replace hS:=hS.no hx';replace hK:=hK.trans hx';clear hx';refine KeepC.mk hK ?_)|(refine (zbS tp (by omega) _).mono ?_;rintro v w5 ⟨rfl,hx'⟩;replace hS:=hS.no hx';replace hK:=hK.trans hx';clear hx';refine KeepC.mk hK ?_)|(refine hS.litX Tryz.underlying22 (sz:=1) (by kernel_rfl) (z:=.string (bs [])) (by kernel_rfl) rfl rfl (cs:=[.string (bs zrR),.string (bs znh),.string (bs znf)]) (by rfl) (fun b9 w5 hb9 hx' hS=>?_);replace hK:=hK.trans hx';clear hx';refine KeepC.mk hK ?_)|refine hS.ld 1 rfl (v:=.string (bs (zcU pr))) (ze3 hpr) (KeepC.mk hK ?_))
    all_goals
     refine LoopE.mk ⟨_,[(4,.int .i64 ((k+1:Nat):Int)),(3,.string (bs (zbx (xs.take (k+1))))),(0,_)],?_,⟨rfl,?_,rfl,trivial⟩,⟨k+1,rfl,rfl,by omega,hS.keep 0⟩⟩
     ·omega
     ·refine congrArg (fun l=>some (Value.string (bs l))) ?_;rw [hst];simp [RuleS.line,RuleS.words,Lib.join_cons,Lib.joinTail,zb6,zhP,zjA,sIn]
 ·repeat' ((conv=>whnf);first|apply RetC.mk|refine rgO ?_|refine ixO ?_|(first|apply brD|apply zad|apply brN|apply brI)<;>(intro))
  have:k=n:=by omega
  subst this;rw [List.take_of_length_le (by omega)];exact ⟨rfl,hS.ext⟩
end
end Go.Proofs.YtogjajjdaoihdaaGreatDoor

namespace Go.Proofs.YtogjajjdaoihdaaGreatDoor.Ev
set_option maxRecDepth 20000
open Go Go.ChangeShapes Go.WideShapes Go.ChangeAt Go.RowKit

theorem laidMetH_layVars {P:Program}{w0 w':World}{L:List (String × DataW Unit)}{fuel:Nat}
  (hh:w'.heap=(w0.layVars P (L.filter fun x=>x.2.handleName?.isNone)).heap)
  (hf:w0.layFits P (L.filter fun x=>x.2.handleName?.isNone) []=true)
  (hi:w0.layIfaces P (L.filter fun x=>x.2.handleName?.isNone) w'=true)
  (hH:(L.filter fun x=>x.2.handleName?.isSome&&x.2.funcsIn?.isNone).all (handleAtB P w')=true)
  (hF:funcsRun P w' fuel ((funcsListed L).map (·.1))=some ((funcsListed L).map (·.2.funcsOut))):laidMetH P L w':=by
 refine laidMetH_of_parts3 (fuel:=fuel) ?_ hH hF;generalize (L.filter fun x=>x.2.handleName?.isNone)=laid at hh hf hi ⊢;have e1:(laid.filter fun x=>(laid.map (·.1)).contains x.1)=laid:=List.filter_eq_self.2 fun x hx=>List.contains_iff_mem.2 (List.mem_map.2 ⟨x,hx,rfl⟩)
 have e2:(laid.filter fun x=>!(laid.map (·.1)).contains x.1)=[]:=List.filter_eq_nil_iff.2 fun x hx=>by rw [List.contains_iff_mem.2 (List.mem_map.2 ⟨x,hx,rfl⟩)];simp
 exact laidMet_layVars (w0:=w0) (laid.map (·.1)) [] (by rw [e1];exact hh) (by rw [e1];exact hf) (by rw [e1];exact hi) (by rw [e2];exact LaidIn.none)
theorem law_liftedS {C:Checked}{f:FuncId}{fn:Func}{s:ChangeSpec}{tb:TypeId}(L:List (String × DataW Unit)) (os:Os) (started:os.Started) (H:Type) (enc:TypeId × Value→H)
  (own:ownKnob C.prog.godebug=none) (hbody:fn.body.isNone=false) (noInit:C.prog.inits.idxOf? f=none) (hfn:C.prog.funcs[f]?=some fn) (hvars:s.vars=[])
  (hs:∀ ds:List (DataW H),ds.length=fn.params.toList.length→(s.fn H (ds++[])).results=[.lit (.bool true)]∧(s.fn H (ds++[])).args=ds∧(s.fn H (ds++[])).vars=[])
  (hres:fn.resultTypes = #[tb]) (hbool:C.prog.underlying tb=some .bool) (hlaid:laidOutB C.prog=true) (hread:(fn.params.toList.all fun t=>C.prog.readableRec t&&decide (t < C.prog.types.size))=true)
  (witness:∃ (w:World) (tape:Tape) (i:Input),w.os=os∧(w.forCall tape i).Shaped C.prog∧i.vars=[]∧Input.okWide C.prog (w.forCall tape i) .any w.heap.size f i ∧
   ((s.pre enc C.prog fn [] false (w.forCall tape i).memory i.args∧laidMetH C.prog L (w.forCall tape i).memory)∧sizedMet enc C.prog fn (OpenSpec.ofChange s) false (w.forCall tape i).memory i.args)∧({}:Assume).holds C.prog (lone (Frame.enter C.prog f i.args .normal) [] (w.forCall tape i)))
  (walk:∀ (W:World) (args:List Value),W.ShapedOpen C.prog→ArgsOk C.prog W fn.params.toList args→laidMetH C.prog L W→CallC C.prog f args.toArray W fun v w'=>v = .bool true∧Ext No W w') :
  ReturnsInHanded {} C os f .any (fun w args=>(s.pre enc C.prog fn [] false w args∧laidMetH C.prog L w)∧sizedMet enc C.prog fn (OpenSpec.ofChange s) false w args) (s.post enc C.prog fn false true false false):=by
 refine returnsInHanded_of_calls own started noInit witness ?_;intro w tape i _ hsh _ hok hpre _;obtain ⟨_,_,_,fn',hfn',_,_,_,_,hval⟩:=hok;obtain rfl:fn'=fn:=Option.some.inj (hfn'.symm.trans hfn);obtain ⟨⟨⟨ds,gs,before,hw,_⟩,hx⟩,_⟩:=hpre;have hW:=DataW.Whole.of_heap (w':=w.forCall tape i) (by rfl) hw;have hL:laidMetH C.prog L (w.forCall tape i):=hx.of_heap (by rfl);generalize w.forCall tape i=W at hval hW hL hsh ⊢;generalize w.heap.size=base at hval;generalize i.args=args at hval hW ⊢
 have goal:Calls C.prog f args W fun e W'=>∃ v,e = .returned v∧s.post enc C.prog fn' false true false false W args v W':=by
  have hW':=hW;obtain ⟨p,q,hA,hV,rfl,hfz,hnd⟩:=hW;rw [hvars] at hV;obtain ⟨rfl,rfl⟩:=trodVars_none hV;have hok:=zkS fn'.params.toList args.toList ds p (fun j t v ht hv=>hval j t v (by simpa using ht) (by simpa using hv)) hA
  have hlen:ds.length=fn'.params.toList.length:=by
   have:∀ (ts:List TypeId) (vs:List Value) (ds:List (DataW H)) (ps:List MemPlace),DataW.TrodAll enc C.prog W 0 (fun _=>true) true ts vs ds ps→ds.length=ts.length:=by
    intro ts
    induction ts with
    | nil=>intro vs ds ps h;cases vs<;>cases ds<;>simp_all [DataW.TrodAll]
    | cons t ts ih =>
     intro vs ds ps h;obtain ⟨v,vs',d,ds',p,q,rfl,rfl,rfl,h1,h2⟩:=trodAll_cons h;simp [ih _ _ _ h2]
   exact this _ _ _ _ hA
  have hc:=(walk W args.toList hsh hok hL).calls hfn hbody;rw [Array.toArray_toList] at hc;refine hc.mono fun e W' ⟨v,he,hv,hext⟩=>?_
  subst he hv;obtain ⟨e1,e2,e3⟩:=hs ds hlen;have hlt:∀ x∈p,x.block < W.heap.size:=fun x hx=>hW'.lt x (by simpa using hx)
  refine ⟨_,rfl,ds,[],p++[],[],p,[],hW',?_,?_,?_,hext.below.frame _,fun h=>by cases h⟩
  ·rw [e1,hres];exact trodAll_mk1 (shut_bool hbool true)
  ·rw [e2];exact zhi hlaid hext.below _ _ _ _ hread hA hlt
  ·rw [hvars,e3];rfl
 refine goal.mono fun e W' ⟨v,he,hp⟩=>?_
 subst he;exact ChangeSpec.post_blind hp
end Go.Proofs.YtogjajjdaoihdaaGreatDoor.Ev
namespace Go.Proofs.YtogjajjdaoihdaaGreatDoor
set_option maxRecDepth 20000
open Go Ev Go.RowKit
theorem maxL_of {W:World}(h:W.ShapedOpen Tryz.prog):MaxL W :=
 cell_of_shapedOpen_int (g:=14) (t:=3) (zero:=#[.int .i64 0]) h (of_decide_eq_true (by kernel_rfl)) (by kernel_rfl) rfl (by kernel_rfl) (by kernel_rfl) Tryz.underlying3
theorem zpT {n : String} {text : List UInt8} {L : List (String × DataW Unit)} {W : World} {g : Nat} (hl : laidMetH Tryz.prog L W) (hm : (n, .iface "*errors.errorString" (.ptr (.agg [.lit (.string text)]))) ∈ L)
  (hg:Tryz.prog.globalNamed n=some g) (ht:(Tryz.prog.globals[g]?).map (·.type)=some 25):∃ e,W.cell? ⟨g,0,none⟩=some e∧(e = .nilIface∨∃ t p,e = .iface t p):=by
 obtain ⟨f,hf⟩:∃ f:Field,Tryz.prog.underlying 440=some (.struct #[f])∧f.type=9∧f.offset=0:=⟨_,Tryz.underlying440,rfl,rfl⟩;obtain ⟨a,h1,_⟩:=zkN (zfl hl hm rfl) hg ht Tryz.underlying25 zdy Tryz.underlying438 hf.1 hf.2.1 hf.2.2 Tryz.underlying9 (by kernel_rfl) (by kernel_rfl);exact ⟨_,h1,.inr ⟨_,_,rfl⟩⟩
def zvI:List UInt8:=[105,110,118,97,108,105,100,32,115,121,110,116,97,120]
def zvB:List UInt8:=[118,97,108,117,101,32,111,117,116,32,111,102,32,114,97,110,103,101]
theorem numV_of {L : List (String × DataW Unit)} {W : World} (hl : laidMetH Tryz.prog L W) (h1 : ("strconv.ErrSyntax", .iface "*errors.errorString" (.ptr (.agg [.lit (.string zvI)]))) ∈ L) (h2 : ("strconv.ErrRange", .iface "*errors.errorString" (.ptr (.agg [.lit (.string zvB)]))) ∈ L) : NumV W :=
 ⟨zpT hl h1 (by kernel_rfl) (by kernel_rfl),zpT hl h2 (by kernel_rfl) (by kernel_rfl)⟩
end Go.Proofs.YtogjajjdaoihdaaGreatDoor

namespace Go.Proofs.YtogjajjdaoihdaaGreatDoor
set_option maxRecDepth 20000
open Go Ev Go.RowKit
theorem zlb (k : Nat) (h0 : 1 ≤ k) (h1 : k < 12) : ∃ n, zdJ (H := Unit) k = (n, .iface "*errors.errorString" (.ptr (.agg [.lit (.string (zdO k))]))) := by
 have hk:k=1∨k=2∨k=3∨k=4∨k=5∨k=6∨k=7∨k=8∨k=9∨k=10∨k=11:=by omega
 rcases hk with rfl|rfl|rfl|rfl|rfl|rfl|rfl|rfl|rfl|rfl|rfl<;>exact ⟨_,rfl⟩
theorem zpy {P:Program}{n nm:String}{text:List UInt8}{W:World}{g:Nat}{ti tp te ts:TypeId}{ms:Array (String × TypeId)}{f:Field}
  (h:laidMet P [(n,.iface nm (.ptr (.agg [.lit (.string text)])))] W)
  (hg:P.globalNamed n=some g) (ht:(P.globals[g]?).map (·.type)=some ti) (hi:P.underlying ti=some (.interface ms)) (hrow:∀ u,P.typeName? 3 u=some nm→u=tp)
  (hp:P.underlying tp=some (.pointer te)) (he:P.underlying te=some (.struct #[f])) (hft:f.type=ts) (hfo:f.offset=0) (hs:P.underlying ts=some .string) (hc:P.cellsOf te=1) (hcs:P.cellsOf ts=1) :
  ∃ (a:Addr) (s:ByteArray),W.cell? ⟨g,0,none⟩=some (.iface tp (.pointer (some a)))∧W.cell? a=some (.string s)∧s.data.toList=text:=by
 obtain ⟨ps,⟨g0,t0,cs0,f0,p0,q0,hg0,ht0,hv0,hd0,_,e0⟩,_,hrows⟩:=h;obtain rfl:=Option.some.inj (hg.symm.trans hg0);obtain rfl:=Option.some.inj (ht.symm.trans ht0);subst e0;obtain ⟨l0⟩:=cs0
 have ok0:∀ u v,l0=[.iface u v]→Value.okWide P W .any 0 u v:=fun u v e=>by
  subst e;exact (hrows g 0 (by simp [MemPlace.row])).2 u v (by simpa using World.var?_cell hg0 hv0 0)
 obtain ⟨a0,s0,rfl,hc0,hs0,hz0,rfl⟩:=errorString_of_trod hi hrow hp he hft hfo hs hc hcs hd0 ok0;exact ⟨a0,s0,by simpa using World.var?_cell hg0 hv0 0,hc0,hs0⟩
theorem texts_of {L:List (String × DataW Unit)}{W:World}{E:Nat→Addr}{n:Nat}(hl:laidMetH Tryz.prog L W) (hE:Errs W E n allErrs) (hm:∀ k∈allErrs,zdJ k∈L) (k:Nat) (h0:1≤k) (h1:k < 12):W.cell? ⟨(E k).block,(E k).off,(E k).spot⟩=some (.string (bs (zdO k))):=by
 have hk:k∈allErrs:=by
  have hk:k=1∨k=2∨k=3∨k=4∨k=5∨k=6∨k=7∨k=8∨k=9∨k=10∨k=11:=by omega
  rcases hk with rfl|rfl|rfl|rfl|rfl|rfl|rfl|rfl|rfl|rfl|rfl<;>decide
 obtain ⟨nm,hf⟩:=zlb k h0 h1;have hin:=hm k hk;obtain ⟨hg,ht⟩:=zbU k;rw [hf] at hin hg;obtain ⟨f,hf1,hf2,hf3⟩:∃ f:Field,Tryz.prog.underlying 440=some (.struct #[f])∧f.type=9∧f.offset=0:=⟨_,Tryz.underlying440,rfl,rfl⟩;obtain ⟨a,s,g1,g2,g3⟩:=zpy (zfl hl hin rfl) hg ht Tryz.underlying25 zdy Tryz.underlying438 hf1 hf2 hf3 Tryz.underlying9 (by kernel_rfl) (by kernel_rfl);have h2:=hE.at_ k (List.contains_iff_mem.2 hk);rw [h2] at g1;simp only [Option.some.injEq,Value.iface.injEq,Value.pointer.injEq,true_and] at g1;rw [show (⟨(E k).block,(E k).off,(E k).spot⟩:Addr)=E k from rfl,g1,g2];obtain ⟨l,rfl⟩:=zug s;have h3:l=zdO k:=by simpa [bs] using g3
 rw [h3]

def RuleS.I (r:RuleS):Prop:=I64 r.proto∧I64 r.low∧I64 r.top
def PktS.I (p:PktS):Prop:=I64 p.proto∧I64 p.sa∧I64 p.sp∧I64 p.da∧I64 p.dp∧I64 p.flags
theorem zun {ps:List Pr}(hk:ps.map Pr.k=[.int,.int,.int,.int,.int,.int]) (hok:∀ p∈ps,p.ok):∃ r:PktS,ps.map Pr.v=zao r∧r.I:=by
 obtain ⟨p1,r,rfl,g1,hk⟩:=zbj hk;obtain ⟨p2,r,rfl,g2,hk⟩:=zbj hk;obtain ⟨p3,r,rfl,g3,hk⟩:=zbj hk;obtain ⟨p4,r,rfl,g4,hk⟩:=zbj hk;obtain ⟨p5,r,rfl,g5,hk⟩:=zbj hk;obtain ⟨p6,r,rfl,g6,hk⟩:=zbj hk;obtain rfl:=zj1 hk;obtain ⟨n1,rfl⟩:=zi0 g1;obtain ⟨n2,rfl⟩:=zi0 g2;obtain ⟨n3,rfl⟩:=zi0 g3;obtain ⟨n4,rfl⟩:=zi0 g4;obtain ⟨n5,rfl⟩:=zi0 g5;obtain ⟨n6,rfl⟩:=zi0 g6;exact ⟨⟨n1,n2,n3,n4,n5,n6⟩,rfl,hok (.int n1) (by simp),hok (.int n2) (by simp),hok (.int n3) (by simp),hok (.int n4) (by simp),hok (.int n5) (by simp),hok (.int n6) (by simp)⟩
def zaY (x:LineV):List Value:=.string (bs x.word)::.slice x.ra x.rn x.rc::zao x.p
structure LineV.Ok (W:World) (x:LineV):Prop where
 ns:Slc W 1 zcw (fun v=>I64 v) x.ra x.rn x.ns
 p:x.p.IP
theorem zvF {α:Type}{l:List α}(h:l.length=8):∃ a b c d e f g i,l=[a,b,c,d,e,f,g,i]:=by
 match l,h with
 | [a,b,c,d,e,f,g,i],_=>exact ⟨a,b,c,d,e,f,g,i,rfl⟩
theorem zrg {w:World}{d:Nat}(hd:10≤d):Dec Tryz.prog w d 41 zao PktS.I:=by
 intro cs h;have h1:zhX Tryz.prog 10 41=some [.int,.int,.int,.int,.int,.int]:=by kernel_rfl
 have h2:Tryz.prog.cellsOf 41=6:=by kernel_rfl
 obtain ⟨ps,rfl,hk,hok⟩:=zme 10 d _ _ cs h1 hd h2 h;obtain ⟨r,hr,hI⟩:=zun hk hok;exact ⟨r,hr,hI⟩
theorem zq9 {W:World}{c d e:Nat}(hc:10≤c) (hd:d=c+1) (he:e=d+1):Dec Tryz.prog W e 49 zaY (LineV.Ok W):=by
 intro cs h;obtain ⟨hl,hff⟩:=zn2 he Tryz.underlying49 h;have hl2:cs.length=8:=hl.trans (by kernel_rfl);clear hl h;have c0:Tryz.prog.cellsOf 9=1:=by kernel_rfl
 have c1:Tryz.prog.cellsOf 47=1:=by kernel_rfl
 have c2:Tryz.prog.cellsOf 41=6:=by kernel_rfl
 have h0:Shp Tryz.prog W d 9 ((cs.drop 0).take (Tryz.prog.cellsOf 9)):=hff 0 _ rfl;have h1:Shp Tryz.prog W d 47 ((cs.drop 1).take (Tryz.prog.cellsOf 47)):=hff 1 _ rfl;have h2:Shp Tryz.prog W d 41 ((cs.drop 2).take (Tryz.prog.cellsOf 41)):=hff 2 _ rfl;clear hff;rw [c0] at h0;rw [c1] at h1;rw [c2] at h2;obtain ⟨x0,x1,x2,x3,x4,x5,x6,x7,rfl⟩:=zvF hl2;simp only [List.drop_zero,List.drop_succ_cons,List.take_succ_cons,List.take_zero] at h0 h1 h2;obtain ⟨word,rfl⟩:=zsX hd Tryz.underlying9 h0;obtain ⟨l,rfl⟩:=zug word;obtain ⟨ra,rn,rc,rfl⟩:=zov hd Tryz.underlying47 h1
 obtain ⟨ns,hns,_⟩:=ztt (sz:=1) (enc:=zcw) (G:=fun v=>I64 v) (d:=c) hd Tryz.underlying47 (by kernel_rfl) (by decide) (by
  obtain ⟨c',rfl⟩:∃ c',c=c'+1:=⟨c - 1,by omega⟩;exact zs9 Tryz.underlying3) h1
 obtain ⟨p,hp,hpI⟩:=zrg (by omega) _ h2;refine ⟨⟨l,ra,rn,rc,ns,p⟩,?_,hns,hpI⟩;unfold zaY;dsimp only;rw [← hp]
section
variable {w W : World}
theorem zmt {p:PktS}(h:p.IP):p.text.length≤200:=by
 have e1:=zfj p.sa p.sp h.2.1 h.2.2.1;have e2:=zfj p.da p.dp h.2.2.2.1 h.2.2.2.2.1;have e3:=zhI p.flags;unfold PktS.text;split<;>simp only [List.length_append,List.length_cons,List.length_nil]<;>omega
end
section
variable {w : World}
set_option maxHeartbeats 2000000 in
theorem zpA (x:LineV) (hns:Slc w 1 zcw (fun v=>I64 v) x.ra x.rn x.ns) (hp:x.p.IP) (h60:x.word.length≤60) (h5:x.rn≤5) :
  CallC Tryz.prog 17 #[.agg (zaY x).toArray] w fun v w'=>(∃ s k,v = .tuple #[.string (bs s),.bool k]∧lineS x=if k=true then some s else none)∧Ext No w w':=by
 obtain ⟨word,ra,rn,rc,ns,p⟩:=x;dsimp only at hns hp h60 h5;have hl:=hns.len;have htl:=zmt hp;refine zaa tabOk Tryz.func17 (by kernel_rfl) rfl Tryz.ntmps17 (lbO rfl) ?_;have hS:=St.start w No;(conv=>whnf);refine hS.new (fun b1 w' hb1 hS=>?_);replace hS:St w No w' [blk b1 49 (zaY ⟨word,ra,rn,rc,ns,p⟩)]:=hS;(conv=>whnf);refine hS.ld 0 rfl rfl ?_;(conv=>whnf);refine (zoJ word _).mono ?_;rintro v w2 ⟨rfl,rfl⟩;cases hfw:zbW word with
 | none =>
  repeat' ((conv=>whnf);first|apply RetC.mk|refine rgO ?_|refine ixO ?_|(first|apply brD|apply zad|apply brN|apply brI)<;>(intro))
  refine ⟨⟨[],false,rfl,zgL ⟨fun h=>(by cases h),fun ⟨f,h,_⟩=>?_⟩ fun h=>by cases h⟩,hS.ext⟩;rw [hfw] at h;cases h
 | some f =>
  have hbad:¬ ((f=[112]∧p.err=0)∨(f≠[112]∧Fit f ns))→lineS ⟨word,ra,rn,rc,ns,p⟩=if false=true then some [] else none:=fun hn=>zgL ⟨fun h=>(by cases h),fun ⟨g,h,hc⟩=>by
   rw [hfw] at h;cases h;exact absurd hc hn⟩ fun h=>by cases h
  (conv=>whnf);refine zbt (b:=[112]) ?_;(conv=>whnf);refine brD (fun h1=>?_) (fun h1=>?_)
  ·subst h1;(conv=>whnf)
   (refine zah tabOk mixed [] (No) [0,1,2,3,4,7,8,5,6,9,10,11,12] (by kernel_rfl) ?_;rintro w1 rfl;replace hS:=hS.drew)
   (conv=>whnf);refine hS.ldF 0 rfl rfl id ?_;(conv=>whnf);refine zbp (b:=[32]) (by simp;omega) ?_;(conv=>whnf);refine hS.laF 0 (l:=zao p) rfl rfl rfl id ?_;(conv=>whnf);refine hS.laF 0 (l:=zao p) rfl rfl rfl id ?_;(conv=>whnf);refine (zdu p hp _).mono ?_;rintro v w3 ⟨rfl,hx3⟩;replace hS:=hS.no hx3;refine KeepC.mk hx3 ?_;(conv=>whnf);refine zbp (by simp;omega) ?_;(conv=>whnf);refine (zho p _).mono ?_;rintro v w4 ⟨rfl,hx4⟩;replace hS:=hS.no hx4;refine KeepC.mk (hx3.trans hx4) ?_;repeat' ((conv=>whnf);first|apply RetC.mk|refine rgO ?_|refine ixO ?_|(first|apply brD|apply zad|apply brN|apply brI)<;>(intro))
   refine ⟨⟨word++[32]++p.text,decide (p.err=0),?_,zgL ⟨fun h=>⟨_,hfw,.inl ⟨rfl,of_decide_eq_true h⟩⟩,fun ⟨g,h,hc⟩=>?_⟩ fun _=>?_⟩,hS.ext⟩
   ·have he:(((p.err:Nat):Int) == 0)=decide (p.err=0):=by
     rw [Bool.eq_iff_iff,beq_iff_eq,decide_eq_true_iff];omega
    rw [he]
   ·rw [hfw] at h;cases h;rcases hc with ⟨_,h⟩ | ⟨h,_⟩
    ·exact decide_eq_true h
    ·exact absurd rfl h
   ·unfold zi2;rw [if_pos hfw]
  ·have hfz:(bs ((some f).getD [])).size=f.length:=zaN f;(conv=>whnf);refine hS.ld 0 rfl rfl ?_;(conv=>whnf);refine zad (fun h2=>?_) (fun h2=>?_)
   ·repeat' ((conv=>whnf);first|apply RetC.mk|refine rgO ?_|refine ixO ?_|(first|apply brD|apply zad|apply brN|apply brI)<;>(intro))
    exact ⟨⟨[],false,rfl,hbad fun h=>h.elim (fun h=>h1 h.1) fun h=>by have:=h.2.1;dsimp only at h2;omega⟩,hS.ext⟩
   have hfl:f.length=rn:=by dsimp only at h2;omega
   (conv=>whnf);refine hS.ld 0 rfl rfl ?_;(conv=>whnf)
   refine zaL tabOk (fun σ w' q=>∃ k:Nat,σ=[(7,.int .i64 (k:Int)),(6,.string (bs (word++zey (ns.take k)))),(4,.string (bs f)),(1,.pointer (some ⟨b1,0,none⟩))]∧q=rn - k∧k≤rn∧(∀ (i:Nat) c n,i < k→f[i]?=some c→ns[i]?=some n→0≤n∧n≤99999∧(c=115→n≤1))∧St w No w' [blk b1 49 (zaY ⟨word,ra,rn,rc,ns,p⟩)])
    (σ':=[(7,.int .i64 ((0:Nat):Int)),(6,.string (bs word)),(4,.string (bs f)),(1,.pointer (some ⟨b1,0,none⟩))]) (n:=rn) ⟨rfl,rfl,rfl,rfl,trivial⟩ ⟨0,by rw [List.take_zero];simp [zey,Lib.joinTail],rfl,Nat.zero_le _,(fun i c n hi=>by omega),hS⟩ ?_
   clear hS;rintro _ w3 q ⟨k,rfl,rfl,hk,hfit,hS⟩;have hnl:(zey (ns.take k)).length≤5 * 22:=Nat.le_trans (zkR fun n hn=>hns.good n (List.mem_of_mem_take hn)) (Nat.mul_le_mul_right _ (by rw [List.length_take];omega));(conv=>whnf);refine hS.ld 0 rfl rfl ?_;(conv=>whnf);refine brD (fun h3=>?_) (fun h3=>?_)
   ·obtain ⟨bn,on,n,hnk,hgn,rfl,_,hcn⟩:=hns.at (k:=k) (by omega);obtain ⟨c,hck⟩:∃ c,f[k]?=some c:=⟨_,List.getElem?_eq_getElem (by omega)⟩;have hil:=Lib.itoa_length_le n hgn.1 hgn.2;(conv=>whnf);refine zsz Tryz.underlying9 rfl hck ?_;(conv=>whnf);refine eqC ?_
    have hcc:((c.toNat:Int) == 115)=decide (c=115):=by
     rw [Bool.eq_iff_iff,beq_iff_eq,decide_eq_true_iff];exact ⟨fun h=>UInt8.toNat_inj.1 (by show c.toNat=115;omega),fun h=>by rw [h];rfl⟩
    rw [hcc];have hbad:=fun (hn:¬ (0≤n∧n≤99999∧(c=115→n≤1)))=>hbad fun h=>h.elim (fun h=>h1 h.1) fun h=>hn (h.2.2 k c n hck hnk)
    (conv=>whnf);refine brD (fun h6=>?_) (fun h6=>?_)
    ·have hgood:¬ n < 0→¬ n > 1→0≤n∧n≤99999∧(c=115→n≤1):=fun a b=>⟨by omega,by omega,fun _=>by omega⟩
     (conv=>whnf);refine hS.ld 0 rfl rfl ?_;(conv=>whnf);refine ixO ?_;(conv=>whnf);refine hS.ldr (hcn.one 0 rfl) id ?_;(conv=>whnf);refine brD (fun h7=>?_) (fun h7=>?_)
     ·repeat' ((conv=>whnf);first|apply RetC.mk|refine rgO ?_|refine ixO ?_|(first|apply brD|apply zad|apply brN|apply brI)<;>(intro))
      exact ⟨⟨[],false,rfl,hbad fun h=>by have:=h.1;omega⟩,hS.ext⟩
     (conv=>whnf);refine hS.ld 0 rfl rfl ?_;(conv=>whnf);refine ixO ?_;(conv=>whnf);refine hS.ldr (hcn.one 0 rfl) id ?_;(conv=>whnf);refine brD (fun h8=>?_) (fun h8=>?_)
     ·repeat' ((conv=>whnf);first|apply RetC.mk|refine rgO ?_|refine ixO ?_|(first|apply brD|apply zad|apply brN|apply brI)<;>(intro))
      exact ⟨⟨[],false,rfl,hbad fun h=>by (have:=h.2.2 h6;omega)⟩,hS.ext⟩
     (conv=>whnf);refine zbp (b:=[32]) (by simp;omega) ?_;(conv=>whnf);refine hS.ld 0 rfl rfl ?_;(conv=>whnf);refine ixO ?_;(conv=>whnf);refine hS.ldr (hcn.one 0 rfl) id ?_;(conv=>whnf);refine (zaB n hgn _).mono ?_;rintro v w5 ⟨rfl,hx5⟩;replace hS:=hS.no hx5;(conv=>whnf);refine zbp (by simp;omega) ?_;rw [show word++zey (ns.take k)++[32]++Lib.itoa n=word++zey (ns.take (k+1)) by rw [ziu hnk];simp];(conv=>whnf);refine rgO ?_;(conv=>whnf);refine LoopE.mk ⟨_,[(7,.int .i64 ((k+1:Nat):Int)),(6,_),(4,_),(1,_)],?_,⟨rfl,rfl,rfl,rfl,trivial⟩,⟨k+1,rfl,rfl,by omega,?_,hS⟩⟩
     ·omega
     ·intro i c' n' hi hc' hn';by_cases e:i=k
      ·subst e;rw [hck] at hc';rw [hnk] at hn';cases hc';cases hn';exact hgood h7 h8
      ·exact hfit i c' n' (by omega) hc' hn'
    ·have hgood:¬ n < 0→¬ n > 99999→0≤n∧n≤99999∧(c=115→n≤1):=fun a b=>⟨by omega,by omega,fun e=>absurd e h6⟩
     (conv=>whnf);refine hS.ld 0 rfl rfl ?_;(conv=>whnf);refine ixO ?_;(conv=>whnf);refine hS.ldr (hcn.one 0 rfl) id ?_;(conv=>whnf);refine brD (fun h7=>?_) (fun h7=>?_)
     ·repeat' ((conv=>whnf);first|apply RetC.mk|refine rgO ?_|refine ixO ?_|(first|apply brD|apply zad|apply brN|apply brI)<;>(intro))
      exact ⟨⟨[],false,rfl,hbad fun h=>by have:=h.1;omega⟩,hS.ext⟩
     (conv=>whnf);refine hS.ld 0 rfl rfl ?_;(conv=>whnf);refine ixO ?_;(conv=>whnf);refine hS.ldr (hcn.one 0 rfl) id ?_;(conv=>whnf);refine brD (fun h8=>?_) (fun h8=>?_)
     ·repeat' ((conv=>whnf);first|apply RetC.mk|refine rgO ?_|refine ixO ?_|(first|apply brD|apply zad|apply brN|apply brI)<;>(intro))
      exact ⟨⟨[],false,rfl,hbad fun h=>by (have:=h.2.1;omega)⟩,hS.ext⟩
     (conv=>whnf);refine zbp (b:=[32]) (by simp;omega) ?_;(conv=>whnf);refine hS.ld 0 rfl rfl ?_;(conv=>whnf);refine ixO ?_;(conv=>whnf);refine hS.ldr (hcn.one 0 rfl) id ?_;(conv=>whnf);refine (zaB n hgn _).mono ?_;rintro v w5 ⟨rfl,hx5⟩;replace hS:=hS.no hx5;(conv=>whnf);refine zbp (by simp;omega) ?_;rw [show word++zey (ns.take k)++[32]++Lib.itoa n=word++zey (ns.take (k+1)) by rw [ziu hnk];simp];(conv=>whnf);refine rgO ?_;(conv=>whnf);refine LoopE.mk ⟨_,[(7,.int .i64 ((k+1:Nat):Int)),(6,_),(4,_),(1,_)],?_,⟨rfl,rfl,rfl,rfl,trivial⟩,⟨k+1,rfl,rfl,by omega,?_,hS⟩⟩
     ·omega
     ·intro i c' n' hi hc' hn';by_cases e:i=k
      ·subst e;rw [hck] at hc';rw [hnk] at hn';cases hc';cases hn';exact hgood h7 h8
      ·exact hfit i c' n' (by omega) hc' hn'
   ·obtain rfl:k=rn:=by omega
    have htk:ns.take k=ns:=List.take_of_length_le (by omega);rw [htk] at *;repeat' ((conv=>whnf);first|apply RetC.mk|refine rgO ?_|refine ixO ?_|(first|apply brD|apply zad|apply brN|apply brI)<;>(intro))
    refine ⟨⟨word++zey ns,true,rfl,zgL ⟨fun _=>⟨f,hfw,.inr ⟨h1,by dsimp only;omega,fun i c n hc hn=>hfit i c n (by have:=(List.getElem?_eq_some_iff.1 hn).1;dsimp only at this;omega) hc hn⟩⟩,fun _=>rfl⟩ fun _=>?_⟩,hS.ext⟩;unfold zi2;rw [if_neg (fun h=>h1 (by rw [hfw] at h;exact Option.some.inj h))]
end
noncomputable def linesS (l:List LineV):List (List UInt8):=l.filterMap lineS
theorem zlc {l:List LineV}{k:Nat}{x:LineV}(h:l[k]?=some x):linesS (l.take (k+1))=linesS (l.take k)++(lineS x).toList:=by
 unfold linesS;rw [List.take_add_one,h,List.filterMap_append];show _++List.filterMap lineS [x]=_;cases hx:lineS x<;>simp [hx]
theorem zh6 (l:List LineV):(linesS l).length≤l.length:=List.length_filterMap_le _ _
theorem zns {x:LineV}{s:List UInt8}(h:lineS x=some s) (l:List (List UInt8)):zcn (l++[s])=zcn l+(34 * zaT s+1):=by
 unfold zcn;rw [List.map_append,List.sum_append];simp
theorem zo6 {x:LineV}{s:List UInt8}(h:lineS x=some s) (h60:x.word.length≤60) (hns:x.ns.length≤5) (hI:∀ n∈x.ns,I64 n) (hp:x.p.IP):s.length≤500:=by
 rcases zgO h with hw | ⟨d,hw,hd,hi,ho⟩
 ·obtain ⟨rfl,_⟩:=zjo h hw;have:=zmt hp;rw [List.length_append,List.length_cons];omega
 ·obtain ⟨rfl,_⟩:=zjd h hw hd hi ho;have:=zkR hI;have h2:x.ns.length * 22≤5 * 22:=Nat.mul_le_mul_right _ hns;rw [List.length_append];omega
section
variable {E : Nat → Addr} {w : World}
end
section
variable {w w' w0 : World} {Y : RWorldA} {W : WorldS} {R : RBys} {m j : Nat}
theorem zcZ (e:Nat) (h:e < 12) (s:List UInt8) (w:World):CallC Tryz.prog 49 #[.int .i64 (e:Int),.string (bs s)] w fun v w'=>v = .string (bs (if e=0 then s else zdO e))∧Ext No w w':=by
 refine zaa tabOk Tryz.func49 (by kernel_rfl) rfl Tryz.ntmps49 (lbO rfl) ?_;have hS:=St.start w No;(conv=>whnf);refine brD (fun h1=>?_) (fun h1=>?_)
 ·(conv=>whnf)
  refine (zbw e (by omega) h _).mono ?_;rintro v w1 ⟨rfl,hx⟩;replace hS:=hS.no hx;repeat' ((conv=>whnf);first|apply RetC.mk|refine rgO ?_|refine ixO ?_|(first|apply brD|apply zad|apply brN|apply brI)<;>(intro))
  rw [if_neg (by omega)];exact ⟨rfl,hS.ext⟩
 ·repeat' ((conv=>whnf);first|apply RetC.mk|refine rgO ?_|refine ixO ?_|(first|apply brD|apply zad|apply brN|apply brI)<;>(intro))
  rw [if_pos (by omega)];exact ⟨rfl,hS.ext⟩
theorem znz {es:List (Int × Int)}{k:Nat}{x:Int × Int}(h:es[k]?=some x):Lib.join ((es.map zex).take (k+1)) [44,32]=(if k=0 then [] else Lib.join ((es.map zex).take k) [44,32]++[44,32])++zex x:=by
 have hst:(es.map zex).take (k+1)=(es.map zex).take k++[zex x]:=by rw [List.take_add_one,List.getElem?_map,h];rfl
 rw [hst];split
 ·rename_i hk;subst hk;rw [List.take_zero,List.nil_append,Lib.join_one];rfl
 ·rename_i hk;have hlt:=(List.getElem?_eq_some_iff.1 h).1
  rw [zhw _ _ _ (fun e=>by
   have:=congrArg List.length e;rw [List.length_take,List.length_map,List.length_nil] at this;omega)]
theorem zhR {a:Option Addr}{n c:Nat}{es:List (Int × Int)}(hx:Slc w 2 zbG zva a n es) (hn:n≤1000):CallC Tryz.prog 58 #[.slice a n c] w fun v w'=>v = .string (bs (zdC es))∧Ext No w w':=by
 have hl:=hx.len;have hgood:=hx.good;refine zaa tabOk Tryz.func58 (by kernel_rfl) rfl Tryz.ntmps58 (lbO rfl) ?_;have hS:=St.start w No;(conv=>whnf)
 refine zaL tabOk (fun σ w' q=>∃ k:Nat,σ=[(4,.int .i64 (k:Int)),(3,.string (bs (Lib.join ((es.map zex).take k) [44,32]))),(0,.slice a n c)]∧q=n - k∧k≤n∧St w No w' [])
  (σ':=[(4,.int .i64 ((0:Nat):Int)),(3,.string (bs [])),(0,.slice a n c)]) (n:=n) ⟨rfl,rfl,rfl,trivial⟩ ⟨0,rfl,rfl,Nat.zero_le _,hS⟩ ?_
 clear hS;rintro _ w1 q ⟨k,rfl,rfl,hk,hS⟩
 have hjl:=zjW (n:=43) (sep:=[44,32]) (xs:=(es.map zex).take k) fun y hy=>by
  obtain ⟨e,he,rfl⟩:=List.mem_map.1 (List.mem_of_mem_take hy);exact zmf (hgood e he)
 have hj45:((es.map zex).take k).length * (43+[44,32].length)≤1000 * 45:=Nat.mul_le_mul (by rw [List.length_take,List.length_map];omega) (Nat.le_refl _);(conv=>whnf);refine brD (fun h3=>?_) (fun h3=>?_)
 ·obtain ⟨b0,o0,x,hxk,hgx,rfl,hb0,hc⟩:=hx.at (k:=k) (by omega);have hst:=znz hxk;have e1:=Lib.itoa_length_le x.1 hgx.1.1 hgx.1.2;have e2:=Lib.itoa_length_le x.2 hgx.2.1 hgx.2.2;generalize hJ:Lib.join ((es.map zex).take k) [44,32]=J at hjl hst ⊢;(conv=>whnf);refine brD (fun h4=>?_) (fun h4=>?_)
  ·rw [if_neg (by omega)] at hst;(conv=>whnf);refine zbp (b:=[44,32]) (by simp;omega) ?_;(conv=>whnf)
   (refine zah tabOk mixed [] (No) [0,1,2,3,4,5,9,10,11,12,13,6,7,8,14,15,16] (by kernel_rfl) ?_;rintro w1 rfl;replace hS:=hS.drew)
   have hK:=hS.ref No;(conv=>whnf);refine ixO ?_;(conv=>whnf);refine hS.ldrF (hc.one 0 rfl) id id ?_;(conv=>whnf);refine ixO ?_;(conv=>whnf);refine hS.ldrF (hc.one 1 rfl) id id ?_;(conv=>whnf);refine (zaB x.1 hgx.1 _).mono ?_;rintro v w2 ⟨rfl,hx'⟩;replace hS:=hS.no hx';replace hK:=hK.trans hx';refine KeepC.mk hK ?_;(conv=>whnf);refine zbp (a:=(J++[44,32])) (by simp;omega) ?_;(conv=>whnf);refine zbp (b:=[32]) (by simp;omega) ?_;(conv=>whnf);refine (zaB x.2 hgx.2 _).mono ?_;rintro v w3 ⟨rfl,hx'⟩;replace hS:=hS.no hx';replace hK:=hK.trans hx';refine KeepC.mk hK ?_;(conv=>whnf);refine zbp (by simp;omega) ?_;rw [show (J++[44,32])++Lib.itoa x.1++[32]++Lib.itoa x.2=Lib.join ((es.map zex).take (k+1)) [44,32] by rw [hst];simp [zex]];(conv=>whnf);refine rgO ?_;(conv=>whnf);refine LoopE.mk ⟨_,[(4,.int .i64 ((k+1:Nat):Int)),(3,_),(0,_)],?_,⟨rfl,rfl,rfl,trivial⟩,⟨k+1,rfl,rfl,by omega,hS⟩⟩;omega
  ·rw [if_pos (by omega)] at hst
   have hJ0:J=[]:=by
    obtain rfl:k=0:=by omega
    rw [← hJ];rfl
   subst hJ0;(conv=>whnf)
   (refine zah tabOk mixed [] (No) [0,1,2,3,4,5,9,10,11,12,13,6,7,8,14,15,16] (by kernel_rfl) ?_;rintro w1 rfl;replace hS:=hS.drew)
   have hK:=hS.ref No;(conv=>whnf);refine ixO ?_;(conv=>whnf);refine hS.ldrF (hc.one 0 rfl) id id ?_;(conv=>whnf);refine ixO ?_;(conv=>whnf);refine hS.ldrF (hc.one 1 rfl) id id ?_;(conv=>whnf);refine (zaB x.1 hgx.1 _).mono ?_;rintro v w2 ⟨rfl,hx'⟩;replace hS:=hS.no hx';replace hK:=hK.trans hx';refine KeepC.mk hK ?_;(conv=>whnf);refine zbp (a:=([]:List UInt8)) (by simp;omega) ?_;(conv=>whnf);refine zbp (b:=[32]) (by simp;omega) ?_;(conv=>whnf);refine (zaB x.2 hgx.2 _).mono ?_;rintro v w3 ⟨rfl,hx'⟩;replace hS:=hS.no hx';replace hK:=hK.trans hx';refine KeepC.mk hK ?_;(conv=>whnf);refine zbp (by simp;omega) ?_;rw [show ([]:List UInt8)++Lib.itoa x.1++[32]++Lib.itoa x.2=Lib.join ((es.map zex).take (k+1)) [44,32] by rw [hst];simp [zex]];(conv=>whnf);refine rgO ?_;(conv=>whnf);refine LoopE.mk ⟨_,[(4,.int .i64 ((k+1:Nat):Int)),(3,_),(0,_)],?_,⟨rfl,rfl,rfl,trivial⟩,⟨k+1,rfl,rfl,by omega,hS⟩⟩;omega
 ·obtain rfl:k=n:=by omega
  rw [List.take_of_length_le (by rw [List.length_map];omega)];(conv=>whnf);refine zbt (b:=[]) ?_;unfold zdC;by_cases he:es=[]
  ·subst he;repeat' ((conv=>whnf);first|apply RetC.mk|refine rgO ?_|refine ixO ?_|(first|apply brD|apply zad|apply brN|apply brI)<;>(intro))
   exact ⟨rfl,hS.ext⟩
  ·have hne:Lib.join (es.map zex) [44,32]≠[]:=by
    have:=znb es;unfold zdC at this
    rwa [if_neg he] at this
   rw [decide_eq_false hne,if_neg he];repeat' ((conv=>whnf);first|apply RetC.mk|refine rgO ?_|refine ixO ?_|(first|apply brD|apply zad|apply brN|apply brI)<;>(intro))
   exact ⟨rfl,hS.ext⟩
theorem RDoes.after {w1:World}{m' j':Nat}{W':WorldS}(h:RStands w0 m j w Y W R) (hx:Ext No w w1) (k:RDoes w0 m' j' w1 Y W R W' w'):RDoes w0 m' j' w Y W R W' w':=by
 obtain ⟨Y',R',e,hT,hst⟩:=k;exact ⟨Y',R',e,(Turns.of_no h.has hx).trans hT,hst⟩
theorem RDoes.later {w1:World}{m' j':Nat}{W':WorldS}(k:RDoes w0 m' j' w Y W R W' w1) (hx:Ext No w1 w'):RDoes w0 m' j' w Y W R W' w':=by
 obtain ⟨Y',R',e,hT,hst⟩:=k;exact ⟨Y',R',e,hT.trans (Turns.of_no hst.has hx),hst.no hx⟩
theorem RDoes.up {m' j' m2 j2:Nat}{W':WorldS}(k:RDoes w0 m' j' w Y W R W' w') (hm:m'≤m2) (hj:j'≤j2):RDoes w0 m2 j2 w Y W R W' w':=by
 obtain ⟨Y',R',e,hT,hst⟩:=k;exact ⟨Y',R',e,hT,hst.has,hst.ok.mono hm,hst.ext,hst.new,hst.rules,hst.a.le hj,hst.b.le hj⟩
end
section
variable {w w' w0 : World} {Y : RWorldA} {W : WorldS} {R : RBys} {m j : Nat} {ra : Option Addr} {rn rc : Nat} {ns : List Int} {p : PktS}
theorem RStands.out (h:RStands w0 m j w Y W R) {b:Nat}(hb:b < w0.heap.size∨w.heap.size≤b):¬ inF (zaw Y W R) b:=fun hin=>by
 have h1:=h.new b hin;obtain ⟨e,he,hbe⟩:=hin;have h2:=h.has.lt e he b hbe;omega
theorem RDoes.grown {m' j':Nat}{W':WorldS}(k:RDoes w0 m' j' w Y W R W' w'):Ext (inF (zaw Y W R)) w w':=by
 obtain ⟨_,_,_,hT,_⟩:=k;exact hT.ext
abbrev zs7 (w0:World) (m j:Nat) (w:World) (Y:RWorldA) (W:WorldS) (R:RBys) (r:Nat × WorldS) (v:Value) (w':World):Prop:=v = .string (bs (if r.1=0 then tOk else zdO r.1))∧RDoes w0 m j w Y W R r.2 w'
theorem zuD (hns:Slc w0 1 zcw (fun v=>I64 v) ra rn ns) (h1:rn=1) (h:RStands w0 m j w Y W R):CallC Tryz.prog 21 #[.pointer (some ⟨Y.w,0,none⟩),.agg (zaY ⟨[103,111],ra,rn,rc,ns,p⟩).toArray] w (zs7 w0 (m) (j) w Y W R (W.deliver (at0 ns 0))):=by
 obtain ⟨b0,o0,n0,hat,hg,rfl,hb0,hc0⟩:=(hns.no h.ext).at (k:=0) (by omega);rw [zbi hat];subst h1;refine zaa tabOk Tryz.func21 (by kernel_rfl) rfl Tryz.ntmps21 (lbO rfl) ?_;have hS:=St.start w No;(conv=>whnf);refine hS.newX (hS.ref No) (fun b3 w1 hb3 _ _ hS=>?_);replace hS:St w No w1 [blk b3 49 (zaY ⟨[103,111],_,_,_,_,_⟩)]:=hS;(conv=>whnf);refine hS.ld 0 rfl rfl ?_;(conv=>whnf)
 iterate 3 (refine zbt ?_;(conv=>whnf))
 refine hS.ld 0 rfl rfl ?_;(conv=>whnf);refine IdxC.mk (by omega) (by dsimp only;omega) ?_;(conv=>whnf);refine hS.ldr (hc0.one 0 rfl) id ?_;(conv=>whnf);refine (zgo n0 (h.no hS.ext)).mono ?_;rintro v w2 ⟨rfl,hk⟩;(conv=>whnf);refine (zcZ _ (ze5 _ _) tOk _).mono ?_;rintro v w3 ⟨rfl,hx3⟩;repeat' ((conv=>whnf);first|apply RetC.mk|refine rgO ?_|refine ixO ?_|(first|apply brD|apply zad|apply brN|apply brI)<;>(intro))
 exact ⟨rfl,(hk.after h hS.ext).later hx3⟩
theorem zsb (hns:Slc w0 1 zcw (fun v=>I64 v) ra rn ns) (h1:rn=1) (h:RStands w0 m j w Y W R):CallC Tryz.prog 21 #[.pointer (some ⟨Y.w,0,none⟩),.agg (zaY ⟨[108,111,115,101],ra,rn,rc,ns,p⟩).toArray] w (zs7 w0 (m) (j) w Y W R (W.drop (at0 ns 0))):=by
 obtain ⟨b0,o0,n0,hat,hg,rfl,hb0,hc0⟩:=(hns.no h.ext).at (k:=0) (by omega);rw [zbi hat];subst h1;refine zaa tabOk Tryz.func21 (by kernel_rfl) rfl Tryz.ntmps21 (lbO rfl) ?_;have hS:=St.start w No;(conv=>whnf);refine hS.newX (hS.ref No) (fun b3 w1 hb3 _ _ hS=>?_);replace hS:St w No w1 [blk b3 49 (zaY ⟨[108,111,115,101],_,_,_,_,_⟩)]:=hS;(conv=>whnf);refine hS.ld 0 rfl rfl ?_;(conv=>whnf)
 iterate 4 (refine zbt ?_;(conv=>whnf))
 refine hS.ld 0 rfl rfl ?_;(conv=>whnf);refine IdxC.mk (by omega) (by dsimp only;omega) ?_;(conv=>whnf);refine hS.ldr (hc0.one 0 rfl) id ?_;(conv=>whnf);refine (zp9 n0 (h.no hS.ext)).mono ?_;rintro v w2 ⟨rfl,hk⟩;(conv=>whnf);refine (zcZ _ (zip _ _) tOk _).mono ?_;rintro v w3 ⟨rfl,hx3⟩;repeat' ((conv=>whnf);first|apply RetC.mk|refine rgO ?_|refine ixO ?_|(first|apply brD|apply zad|apply brN|apply brI)<;>(intro))
 exact ⟨rfl,(hk.after h hS.ext).later hx3⟩
theorem zpe (hns:Slc w0 1 zcw (fun v=>I64 v) ra rn ns) (h1:rn=1) (h:RStands w0 m j w Y W R):CallC Tryz.prog 21 #[.pointer (some ⟨Y.w,0,none⟩),.agg (zaY ⟨[116,119,105,99,101],ra,rn,rc,ns,p⟩).toArray] w (zs7 w0 (m) (j) w Y W R (W.twice (at0 ns 0))):=by
 obtain ⟨b0,o0,n0,hat,hg,rfl,hb0,hc0⟩:=(hns.no h.ext).at (k:=0) (by omega);rw [zbi hat];subst h1;refine zaa tabOk Tryz.func21 (by kernel_rfl) rfl Tryz.ntmps21 (lbO rfl) ?_;have hS:=St.start w No;(conv=>whnf);refine hS.newX (hS.ref No) (fun b3 w1 hb3 _ _ hS=>?_);replace hS:St w No w1 [blk b3 49 (zaY ⟨[116,119,105,99,101],_,_,_,_,_⟩)]:=hS;(conv=>whnf);refine hS.ld 0 rfl rfl ?_;(conv=>whnf)
 iterate 5 (refine zbt ?_;(conv=>whnf))
 refine hS.ld 0 rfl rfl ?_;(conv=>whnf);refine IdxC.mk (by omega) (by dsimp only;omega) ?_;(conv=>whnf);refine hS.ldr (hc0.one 0 rfl) id ?_;(conv=>whnf);refine (zm7 n0 (h.no hS.ext)).mono ?_;rintro v w2 ⟨rfl,hk⟩;(conv=>whnf);refine (zcZ _ (zgT _ _) tOk _).mono ?_;rintro v w3 ⟨rfl,hx3⟩;repeat' ((conv=>whnf);first|apply RetC.mk|refine rgO ?_|refine ixO ?_|(first|apply brD|apply zad|apply brN|apply brI)<;>(intro))
 exact ⟨rfl,(hk.after h hS.ext).later hx3⟩
theorem zrB (hns:Slc w0 1 zcw (fun v=>I64 v) ra rn ns) (h1:rn=1) (h:RStands w0 m j w Y W R):CallC Tryz.prog 21 #[.pointer (some ⟨Y.w,0,none⟩),.agg (zaY ⟨[100,111,119,110],ra,rn,rc,ns,p⟩).toArray] w (zs7 w0 (m) (j) w Y W R (W.down (at0 ns 0))):=by
 obtain ⟨b0,o0,n0,hat,hg,rfl,hb0,hc0⟩:=(hns.no h.ext).at (k:=0) (by omega);rw [zbi hat];subst h1;refine zaa tabOk Tryz.func21 (by kernel_rfl) rfl Tryz.ntmps21 (lbO rfl) ?_;have hS:=St.start w No;(conv=>whnf);refine hS.newX (hS.ref No) (fun b3 w1 hb3 _ _ hS=>?_);replace hS:St w No w1 [blk b3 49 (zaY ⟨[100,111,119,110],_,_,_,_,_⟩)]:=hS;(conv=>whnf);refine hS.ld 0 rfl rfl ?_;(conv=>whnf)
 iterate 6 (refine zbt ?_;(conv=>whnf))
 refine hS.ld 0 rfl rfl ?_;(conv=>whnf);refine IdxC.mk (by omega) (by dsimp only;omega) ?_;(conv=>whnf);refine hS.ldr (hc0.one 0 rfl) id ?_;(conv=>whnf);refine (zqZ n0 (h.no hS.ext)).mono ?_;rintro v w2 ⟨rfl,hk⟩;(conv=>whnf);refine (zcZ _ (zie _ _) tOk _).mono ?_;rintro v w3 ⟨rfl,hx3⟩;repeat' ((conv=>whnf);first|apply RetC.mk|refine rgO ?_|refine ixO ?_|(first|apply brD|apply zad|apply brN|apply brI)<;>(intro))
 exact ⟨rfl,(hk.after h hS.ext).later hx3⟩
theorem zuQ (hns:Slc w0 1 zcw (fun v=>I64 v) ra rn ns) (h1:rn=1) (h:RStands w0 m j w Y W R) (hj:j≤50000000):CallC Tryz.prog 21 #[.pointer (some ⟨Y.w,0,none⟩),.agg (zaY ⟨[117,112],ra,rn,rc,ns,p⟩).toArray] w (zs7 w0 (m) (j+18) w Y W R (W.up (at0 ns 0))):=by
 obtain ⟨b0,o0,n0,hat,hg,rfl,hb0,hc0⟩:=(hns.no h.ext).at (k:=0) (by omega);rw [zbi hat];subst h1;refine zaa tabOk Tryz.func21 (by kernel_rfl) rfl Tryz.ntmps21 (lbO rfl) ?_;have hS:=St.start w No;(conv=>whnf);refine hS.newX (hS.ref No) (fun b3 w1 hb3 _ _ hS=>?_);replace hS:St w No w1 [blk b3 49 (zaY ⟨[117,112],_,_,_,_,_⟩)]:=hS;(conv=>whnf);refine hS.ld 0 rfl rfl ?_;(conv=>whnf)
 iterate 7 (refine zbt ?_;(conv=>whnf))
 refine hS.ld 0 rfl rfl ?_;(conv=>whnf);refine IdxC.mk (by omega) (by dsimp only;omega) ?_;(conv=>whnf);refine hS.ldr (hc0.one 0 rfl) id ?_;(conv=>whnf);refine (zqt n0 (h.no hS.ext) hj).mono ?_;rintro v w2 ⟨rfl,hk⟩;(conv=>whnf);refine (zcZ _ (zmG _ _) tOk _).mono ?_;rintro v w3 ⟨rfl,hx3⟩;repeat' ((conv=>whnf);first|apply RetC.mk|refine rgO ?_|refine ixO ?_|(first|apply brD|apply zad|apply brN|apply brI)<;>(intro))
 exact ⟨rfl,(hk.after h hS.ext).later hx3⟩
theorem zrE (hns:Slc w0 1 zcw (fun v=>I64 v) ra rn ns) (h1:rn=2) (h2:0≤at0 ns 1) (h:RStands w0 m j w Y W R) (hm:m+34 * (at0 ns 1).toNat≤40000000) (hj:j+18 * (at0 ns 1).toNat≤50000000):CallC Tryz.prog 21 #[.pointer (some ⟨Y.w,0,none⟩),.agg (zaY ⟨[116,105,99,107],ra,rn,rc,ns,p⟩).toArray] w (zs7 w0 (m+34 * (at0 ns 1).toNat) (j+18 * (at0 ns 1).toNat) w Y W R (W.ticks (at0 ns 0) (at0 ns 1).toNat)):=by
 obtain ⟨b0,o0,n0,hat,hg,hra0,hb0,hc0⟩:=hns.at (k:=0) (by omega);obtain ⟨b1,o1,n1,hat1,hg1,hra,hb1,hc1⟩:=hns.at (k:=1) (by omega);rw [hra0] at hra;cases hra;subst hra0;rw [zbi hat1] at *;rw [zbi hat];obtain ⟨k1,rfl⟩:∃ k:Nat,n1=k:=⟨n1.toNat,by omega⟩;subst h1;have ho:=h.out (.inl hb0);refine zaa tabOk Tryz.func21 (by kernel_rfl) rfl Tryz.ntmps21 (lbO rfl) ?_;have hS:=St.start w No;(conv=>whnf);refine hS.newX (hS.ref No) (fun b3 w1 hb3 _ _ hS=>?_);replace hS:St w No w1 [blk b3 49 (zaY ⟨[116,105,99,107],_,_,_,_,_⟩)]:=hS;(conv=>whnf);refine hS.ld 0 rfl rfl ?_;(conv=>whnf);refine zbt (b:=[116,105,99,107]) ?_;(conv=>whnf);have ho3:=h.out (.inr hb3);have hx1:=h.ext.trans hS.ext
 (refine zah tabOk mixed [] (inF (zaw Y W R)) [0,1,2,3,4,5,6,7,8,9,10,11] (by kernel_rfl) ?_;rintro w1 rfl;replace hS:=hS.drew)
 conv=>whnf
 refine hS.ldF 0 rfl rfl ho3 ?_;(conv=>whnf);refine IdxC.mk (by omega) (by dsimp only;omega) ?_;(conv=>whnf);refine Ev.ldFc (h.ext.cell (hc0.one 0 rfl) id |> fun e=>hS.ext.cell e id) ho ?_;(conv=>whnf);refine hS.ldF 0 rfl rfl ho3 ?_;(conv=>whnf);refine IdxC.mk (by omega) (by dsimp only;omega) ?_;(conv=>whnf);refine Ev.ldFc (h.ext.cell (hc1.one 0 rfl) id |> fun e=>hS.ext.cell e id) ho ?_;(conv=>whnf);refine (zpm n0 k1 (h.no hS.ext) (by simpa using hm) (by simpa using hj)).mono ?_;rintro v w2 ⟨rfl,hk⟩;have hke:=hk.grown;refine KeepC.mk hke ?_;(conv=>whnf);refine (zcZ _ (zeR _ _ _) tOk _).mono ?_;rintro v w3 ⟨rfl,hx3⟩;refine KeepC.mk (hke.trans hx3.of_no) ?_;repeat' ((conv=>whnf);first|apply RetC.mk|refine rgO ?_|refine ixO ?_|(first|apply brD|apply zad|apply brN|apply brI)<;>(intro))
 exact ⟨rfl,(hk.after h hS.ext).later hx3⟩
theorem zs2 (hns:Slc w0 1 zcw (fun v=>I64 v) ra rn ns) (h1:rn=2) (h2:0≤at0 ns 1) (h:RStands w0 m j w Y W R):CallC Tryz.prog 21 #[.pointer (some ⟨Y.w,0,none⟩),.agg (zaY ⟨[99,117,116],ra,rn,rc,ns,p⟩).toArray] w (zs7 w0 (m) (j) w Y W R (W.cut (at0 ns 0) (at0 ns 1))):=by
 obtain ⟨b0,o0,n0,hat,hg,hra0,hb0,hc0⟩:=hns.at (k:=0) (by omega);obtain ⟨b1,o1,n1,hat1,hg1,hra,hb1,hc1⟩:=hns.at (k:=1) (by omega);rw [hra0] at hra;cases hra;subst hra0;rw [zbi hat1] at *;rw [zbi hat];obtain ⟨k1,rfl⟩:∃ k:Nat,n1=k:=⟨n1.toNat,by omega⟩;subst h1;have ho:=h.out (.inl hb0);refine zaa tabOk Tryz.func21 (by kernel_rfl) rfl Tryz.ntmps21 (lbO rfl) ?_;have hS:=St.start w No;(conv=>whnf);refine hS.newX (hS.ref No) (fun b3 w1 hb3 _ _ hS=>?_);replace hS:St w No w1 [blk b3 49 (zaY ⟨[99,117,116],_,_,_,_,_⟩)]:=hS;(conv=>whnf);refine hS.ld 0 rfl rfl ?_;(conv=>whnf)
 iterate 2 (refine zbt ?_;(conv=>whnf))
 have ho3:=h.out (.inr hb3);have hx1:=h.ext.trans hS.ext
 (refine zah tabOk mixed [] (inF (zaw Y W R)) [0,1,2,3,4,5,6,7,8,9,10,11] (by kernel_rfl) ?_;rintro w1 rfl;replace hS:=hS.drew)
 conv=>whnf
 refine hS.ldF 0 rfl rfl ho3 ?_;(conv=>whnf);refine IdxC.mk (by omega) (by dsimp only;omega) ?_;(conv=>whnf);refine Ev.ldFc (h.ext.cell (hc0.one 0 rfl) id |> fun e=>hS.ext.cell e id) ho ?_;(conv=>whnf);refine hS.ldF 0 rfl rfl ho3 ?_;(conv=>whnf);refine IdxC.mk (by omega) (by dsimp only;omega) ?_;(conv=>whnf);refine Ev.ldFc (h.ext.cell (hc1.one 0 rfl) id |> fun e=>hS.ext.cell e id) ho ?_;(conv=>whnf);refine (zto n0 k1 hg1.2 (h.no hS.ext)).mono ?_;rintro v w2 ⟨rfl,hk⟩;have hke:=hk.grown;refine KeepC.mk hke ?_;(conv=>whnf);refine (zcZ _ (zki _ _ _) tOk _).mono ?_;rintro v w3 ⟨rfl,hx3⟩;refine KeepC.mk (hke.trans hx3.of_no) ?_;repeat' ((conv=>whnf);first|apply RetC.mk|refine rgO ?_|refine ixO ?_|(first|apply brD|apply zad|apply brN|apply brI)<;>(intro))
 exact ⟨rfl,(hk.after h hS.ext).later hx3⟩
end
section
variable {w w' w0 : World} {Y : RWorldA} {W : WorldS} {R : RBys} {m j : Nat} {ra : Option Addr} {rn rc : Nat} {ns : List Int} {p : PktS}
abbrev Said (w0:World) (m j:Nat) (w:World) (Y:RWorldA) (W:WorldS) (R:RBys) (t:List UInt8) (W':WorldS) (v:Value) (w':World):Prop:=v = .string (bs t)∧RDoes w0 m j w Y W R W' w'
theorem ztr (h:RStands w0 m j w Y W R):CallC Tryz.prog 21 #[.pointer (some ⟨Y.w,0,none⟩),.agg (zaY ⟨[102,108,121],ra,rn,rc,ns,p⟩).toArray] w (Said w0 m j w Y W R (Lib.itoa (W.fly.length:Nat)) W):=by
 have hfl:=h.ok.fly;refine zaa tabOk Tryz.func21 (by kernel_rfl) rfl Tryz.ntmps21 (lbO rfl) ?_;have hS:=St.start w No;(conv=>whnf);refine hS.newX (hS.ref No) (fun b3 w1 hb3 _ _ hS=>?_);replace hS:St w No w1 [blk b3 49 (zaY ⟨[102,108,121],_,_,_,_,_⟩)]:=hS;(conv=>whnf);refine hS.ld 0 rfl rfl ?_;(conv=>whnf)
 iterate 11 (refine zbt ?_;(conv=>whnf))
 have hW:=(h.no hS.ext).has.start;refine hW.ld 0 rfl rfl ?_;(conv=>whnf);refine (zaB _ ⟨by omega,by omega⟩ _).mono ?_;rintro v w2 ⟨rfl,hx⟩;repeat' ((conv=>whnf);first|apply RetC.mk|refine rgO ?_|refine ixO ?_|(first|apply brD|apply zad|apply brN|apply brI)<;>(intro))
 exact ⟨rfl,RDoes.same h (Nat.le_refl _) (Nat.le_refl _) (hS.ext.trans hx)⟩
theorem znt (h:RStands w0 m j w Y W R) (hE:EpW W):CallC Tryz.prog 21 #[.pointer (some ⟨Y.w,0,none⟩),.agg (zaY ⟨[115,119,105,116,99,104],ra,rn,rc,ns,p⟩).toArray] w (Said w0 m j w Y W R (if W.to < 0 then ze9 else Lib.itoa W.to++[32]++Lib.itoa W.epoch) W):=by
 have hto:=h.ok.to;have hep:=hE.sw.i64;have e1:=Lib.itoa_length_le W.to (by omega) (by omega);have e2:=Lib.itoa_length_le W.epoch hep.1 hep.2;refine zaa tabOk Tryz.func21 (by kernel_rfl) rfl Tryz.ntmps21 (lbO rfl) ?_;have hS:=St.start w No;(conv=>whnf);refine hS.newX (hS.ref No) (fun b3 w1 hb3 _ _ hS=>?_);replace hS:St w No w1 [blk b3 49 (zaY ⟨[115,119,105,116,99,104],_,_,_,_,_⟩)]:=hS;(conv=>whnf);refine hS.ld 0 rfl rfl ?_;(conv=>whnf)
 iterate 12 (refine zbt ?_;(conv=>whnf))
 have hW:=(h.no hS.ext).has.start;refine hW.ld 0 rfl rfl ?_;(conv=>whnf);refine brD (fun h1=>?_) (fun h1=>?_)
 ·rw [if_pos h1];repeat' ((conv=>whnf);first|apply RetC.mk|refine rgO ?_|refine ixO ?_|(first|apply brD|apply zad|apply brN|apply brI)<;>(intro))
  exact ⟨rfl,RDoes.same h (Nat.le_refl _) (Nat.le_refl _) hS.ext⟩
 ·rw [if_neg h1];replace hS:=hS.keep 0;(conv=>whnf)
  (refine zah tabOk mixed [] (No) [0,1,2,3,6,7,8,9,4,5,10,11,12] (by kernel_rfl) ?_;rintro w1 rfl;replace hS:=hS.drew)
  have hW:=(h.no hS.ext).has.start;(conv=>whnf);refine hW.ldF 0 rfl rfl id ?_;(conv=>whnf);refine hW.ldF 0 rfl rfl id ?_;(conv=>whnf);refine (zaB _ ⟨by omega,by omega⟩ _).mono ?_;rintro v w2 ⟨rfl,hx⟩;replace hS:=hS.no hx;refine KeepC.mk hx ?_;(conv=>whnf);refine zbp (b:=[32]) (by simp;omega) ?_;(conv=>whnf);refine (zaB _ hep _).mono ?_;rintro v w3 ⟨rfl,hx3⟩;replace hS:=hS.no hx3;refine KeepC.mk (hx.trans hx3) ?_;(conv=>whnf);refine zbp (by simp;omega) ?_;repeat' ((conv=>whnf);first|apply RetC.mk|refine rgO ?_|refine ixO ?_|(first|apply brD|apply zad|apply brN|apply brI)<;>(intro))
  exact ⟨rfl,RDoes.same h (Nat.le_refl _) (Nat.le_refl _) hS.ext⟩
theorem zno (h:RStands w0 m j w Y W R) (hE:EpW W):CallC Tryz.prog 21 #[.pointer (some ⟨Y.w,0,none⟩),.agg (zaY ⟨[101,118,101,110,116,115],ra,rn,rc,ns,p⟩).toArray] w (Said w0 m j w Y W R (zdC W.events) W):=by
 refine zaa tabOk Tryz.func21 (by kernel_rfl) rfl Tryz.ntmps21 (lbO rfl) ?_;have hS:=St.start w No;(conv=>whnf);refine hS.newX (hS.ref No) (fun b3 w1 hb3 _ _ hS=>?_);replace hS:St w No w1 [blk b3 49 (zaY ⟨[101,118,101,110,116,115],_,_,_,_,_⟩)]:=hS;(conv=>whnf);refine hS.ld 0 rfl rfl ?_;(conv=>whnf)
 iterate 13 (refine zbt ?_;(conv=>whnf))
 have hW:=(h.no hS.ext).has.start;refine hW.ld 0 rfl rfl ?_;(conv=>whnf);refine (zhR (zap zkF (hW.get 5 rfl) fun e he=>⟨by rcases (hE.ev e he).1 with h|h<;>rw [h]<;>exact ⟨by decide,by decide⟩,(hE.ev e he).2.i64⟩) h.ok.events).mono ?_;rintro v w2 ⟨rfl,hx⟩;repeat' ((conv=>whnf);first|apply RetC.mk|refine rgO ?_|refine ixO ?_|(first|apply brD|apply zad|apply brN|apply brI)<;>(intro))
 exact ⟨rfl,RDoes.same h (Nat.le_refl _) (Nat.le_refl _) (hS.ext.trans hx)⟩
theorem zsT (h:RStands w0 m j w Y W R):CallC Tryz.prog 21 #[.pointer (some ⟨Y.w,0,none⟩),.agg (zaY ⟨[97,108,108],ra,rn,rc,ns,p⟩).toArray] w (Said w0 m j w Y W R (Lib.itoa (W.fly.length:Nat)) (W.land W.fly.length)):=by
 have hfl:=h.ok.fly;refine zaa tabOk Tryz.func21 (by kernel_rfl) rfl Tryz.ntmps21 (lbO rfl) ?_;have hS:=St.start w No;(conv=>whnf);refine hS.newX (hS.ref No) (fun b3 w1 hb3 _ _ hS=>?_);replace hS:St w No w1 [blk b3 49 (zaY ⟨[97,108,108],_,_,_,_,_⟩)]:=hS;(conv=>whnf);refine hS.ld 0 rfl rfl ?_;(conv=>whnf)
 iterate 10 (refine zbt ?_;(conv=>whnf))
 have h1:=h.no hS.ext;have hW:=h1.has.start;refine hW.ld 0 rfl rfl ?_;(conv=>whnf)
 refine zaL tabOk (fun σ w' r=>∃ (V4:WorldS),σ=[(7,.int .i64 (W.fly.length:Nat)),(0,.pointer (some ⟨Y.w,0,none⟩))]∧r=V4.fly.length∧RDoes w0 m j w Y W R V4 w'∧W.land W.fly.length=V4.land V4.fly.length)
  (σ':=[(7,.int .i64 (W.fly.length:Nat)),(0,.pointer (some ⟨Y.w,0,none⟩))]) (n:=W.fly.length) ⟨rfl,rfl,trivial⟩ ⟨W,rfl,rfl,RDoes.same h (Nat.le_refl _) (Nat.le_refl _) hS.ext,rfl⟩ ?_
 clear hS hW h1;rintro _ w4 r ⟨V4,rfl,rfl,⟨Y4,R4,hw4,hT4,h4⟩,hr4⟩;have hS:=h4.has.start;rw [← hw4];(conv=>whnf);refine hS.ld 0 rfl rfl ?_;(conv=>whnf);refine brD (fun h5=>?_) (fun h5=>?_)
 ·obtain ⟨q,hf⟩:∃ q,V4.fly.length=q+1:=⟨V4.fly.length - 1,by omega⟩;obtain ⟨hd1,hd2⟩:=zl6 hf;(conv=>whnf);refine (zgo 0 h4).mono ?_;rintro v w5 ⟨rfl,Y5,R5,hw5,hT5,h5⟩;rw [hw4];(conv=>whnf);refine LoopE.mk ⟨_,[(7,_),(0,.pointer (some ⟨Y.w,0,none⟩))],?_,⟨rfl,rfl,trivial⟩,⟨(V4.deliver 0).2,rfl,rfl,⟨Y5,R5,hw5.trans hw4,hT4.trans hT5,h5⟩,?_⟩⟩
  ·omega
  ·rw [hr4,hf,hd2];show (if V4.fly.length=0 then _ else _)=_;rw [if_neg (by omega)]
 ·have hf:V4.fly.length=0:=by omega
  rw [hw4];(conv=>whnf);refine (zaB _ ⟨by omega,by omega⟩ _).mono ?_;rintro v w5 ⟨rfl,hx⟩;repeat' ((conv=>whnf);first|apply RetC.mk|refine rgO ?_|refine ixO ?_|(first|apply brD|apply zad|apply brN|apply brI)<;>(intro))
  rw [hr4,hf];exact ⟨rfl,RDoes.later ⟨Y4,R4,hw4,hT4,h4⟩ hx⟩
end
section
variable {w w' w0 : World} {Y : RWorldA} {W : WorldS} {R : RBys} {m j : Nat} {ra : Option Addr} {rn rc : Nat} {ns : List Int} {p : PktS}
theorem zgt (l:List CellS):(zaV l).length=zaI l:=by
 unfold zaV zaI;rw [List.length_map]
theorem zm6 (hns:Slc w0 1 zcw (fun v=>I64 v) ra rn ns) (h1:rn=1) (hn:at0 ns 0=0∨at0 ns 0=1) (h:RStands w0 m j w Y W R):CallC Tryz.prog 21 #[.pointer (some ⟨Y.w,0,none⟩),.agg (zaY ⟨[97,99,116,105,118,101],ra,rn,rc,ns,p⟩).toArray] w (Said w0 m j w Y W R (zcP W (at0 ns 0)) W):=by
 obtain ⟨b0,o0,n0,hat,hg0,rfl,hb0,hc0⟩:=(hns.no h.ext).at (k:=0) (by omega);rw [zbi hat] at hn ⊢;subst h1;cases hN:(W.side n0).node with
 | none =>
  have hres:zcP W n0=zrJ:=by
   unfold zcP;rw [hN]
  rw [hres];refine zaa tabOk Tryz.func21 (by kernel_rfl) rfl Tryz.ntmps21 (lbO rfl) ?_;have hS:=St.start w No;(conv=>whnf);refine hS.newX (hS.ref No) (fun b3 w1 hb3 _ _ hS=>?_);replace hS:St w No w1 [blk b3 49 (zaY ⟨[97,99,116,105,118,101],_,_,_,_,_⟩)]:=hS;(conv=>whnf);refine hS.ld 0 rfl rfl ?_;(conv=>whnf)
  iterate 13 (refine zbt ?_;(conv=>whnf))
  (refine zah tabOk mixed [] No [0,1,2,3,4,5,6,7,8,9,10] (by kernel_rfl) ?_;rintro w1 rfl;replace hS:=hS.drew)
  have hW:=((h.no hS.ext).half hn).start;rw [zbV hN] at hW;obtain ⟨g,hg⟩:=za1 (hW.get 1 rfl);(conv=>whnf);refine hW.ldF 0 rfl (v:=.slice (some ⟨g,0,none⟩) 2 Y.nc) (by rw [← hg];rfl) id ?_;(conv=>whnf);refine hS.ldF 0 rfl rfl id ?_;(conv=>whnf);refine IdxC.mk (by omega) (by dsimp only;omega) ?_;(conv=>whnf);refine Ev.ldFc (hS.ext.cell (hc0.one 0 rfl) id) id ?_;(conv=>whnf);refine ixO ?_;(conv=>whnf);refine hW.ldTwoF 1 hn (by rw [← hg];rfl) rfl id ?_;(conv=>whnf);refine hS.ld 0 rfl rfl ?_;(conv=>whnf);refine zbt (b:=[97,99,116,105,118,101]) ?_;(conv=>whnf);repeat' ((conv=>whnf);first|apply RetC.mk|refine rgO ?_|refine ixO ?_|(first|apply brD|apply zad|apply brN|apply brI)<;>(intro))
  exact ⟨rfl,RDoes.same h (Nat.le_refl _) (Nat.le_refl _) hS.ext⟩
 | some N =>
  have hO:=((h.ok.side hn).node N hN).1;have hAs:=hO.asks
  have hres:zcP W n0=(if N.role.active=true then zu1 else tNo):=by
   unfold zcP;rw [hN];exact if_pos (zbr hn hN)
  rw [hres];refine zaa tabOk Tryz.func21 (by kernel_rfl) rfl Tryz.ntmps21 (lbO rfl) ?_;have hS:=St.start w No;(conv=>whnf);refine hS.newX (hS.ref No) (fun b3 w1 hb3 _ _ hS=>?_);replace hS:St w No w1 [blk b3 49 (zaY ⟨[97,99,116,105,118,101],_,_,_,_,_⟩)]:=hS;(conv=>whnf);refine hS.ld 0 rfl rfl ?_;(conv=>whnf)
  iterate 13 (refine zbt ?_;(conv=>whnf))
  (refine zah tabOk mixed [] No [0,1,2,3,4,5,6,7,8,9,10] (by kernel_rfl) ?_;rintro w1 rfl;replace hS:=hS.drew)
  have hW:=((h.no hS.ext).half hn).start;rw [zbB hN] at hW;obtain ⟨g,hg⟩:=za1 (hW.get 1 rfl);(conv=>whnf);refine hW.ldF 0 rfl (v:=.slice (some ⟨g,0,none⟩) 2 Y.nc) (by rw [← hg];rfl) id ?_;(conv=>whnf);refine hS.ldF 0 rfl rfl id ?_;(conv=>whnf);refine IdxC.mk (by omega) (by dsimp only;omega) ?_;(conv=>whnf);refine Ev.ldFc (hS.ext.cell (hc0.one 0 rfl) id) id ?_;(conv=>whnf);refine ixO ?_;(conv=>whnf);refine hW.ldTwoF 1 hn (by rw [← hg];rfl) rfl id ?_;(conv=>whnf);refine hS.ld 0 rfl rfl ?_;(conv=>whnf);refine zbt (b:=[97,99,116,105,118,101]) ?_;(conv=>whnf);refine hW.ld 6 rfl rfl ?_;(conv=>whnf);refine hW.ld 7 rfl rfl ?_;(conv=>whnf);refine brI (fun ha=>?_) (fun ha=>?_)
  ·rw [if_pos ha];repeat' ((conv=>whnf);first|apply RetC.mk|refine rgO ?_|refine ixO ?_|(first|apply brD|apply zad|apply brN|apply brI)<;>(intro))
   exact ⟨rfl,RDoes.same h (Nat.le_refl _) (Nat.le_refl _) hS.ext⟩
  ·rw [if_neg (by rw [ha];decide)];repeat' ((conv=>whnf);first|apply RetC.mk|refine rgO ?_|refine ixO ?_|(first|apply brD|apply zad|apply brN|apply brI)<;>(intro))
   exact ⟨rfl,RDoes.same h (Nat.le_refl _) (Nat.le_refl _) hS.ext⟩
theorem zoF (hns:Slc w0 1 zcw (fun v=>I64 v) ra rn ns) (h1:rn=1) (hn:at0 ns 0=0∨at0 ns 0=1) (h:RStands w0 m j w Y W R):CallC Tryz.prog 21 #[.pointer (some ⟨Y.w,0,none⟩),.agg (zaY ⟨[102,108,111,119,115],ra,rn,rc,ns,p⟩).toArray] w (Said w0 m j w Y W R ((if (zbM W (at0 ns 0) (fun N=>(zaI N.tab.cells:Nat))).2=0 then (zbM W (at0 ns 0) (fun N=>(zaI N.tab.cells:Nat))).1 else zdO (zbM W (at0 ns 0) (fun N=>(zaI N.tab.cells:Nat))).2)) W):=by
 obtain ⟨b0,o0,n0,hat,hg0,rfl,hb0,hc0⟩:=(hns.no h.ext).at (k:=0) (by omega);rw [zbi hat] at hn ⊢;subst h1;cases hN:(W.side n0).node with
 | none =>
  have hres:(if (zbM W n0 (fun N=>(zaI N.tab.cells:Nat))).2=0 then (zbM W n0 (fun N=>(zaI N.tab.cells:Nat))).1 else zdO (zbM W n0 (fun N=>(zaI N.tab.cells:Nat))).2)=zdO 7:=by
   unfold zbM;rw [hN];dsimp only;rw [zbC hn hN];rfl
  rw [hres];refine zaa tabOk Tryz.func21 (by kernel_rfl) rfl Tryz.ntmps21 (lbO rfl) ?_;have hS:=St.start w No;(conv=>whnf);refine hS.newX (hS.ref No) (fun b3 w1 hb3 _ _ hS=>?_);replace hS:St w No w1 [blk b3 49 (zaY ⟨[102,108,111,119,115],_,_,_,_,_⟩)]:=hS;(conv=>whnf);refine hS.ld 0 rfl rfl ?_;(conv=>whnf)
  iterate 13 (refine zbt ?_;(conv=>whnf))
  (refine zah tabOk mixed [] No [0,1,2,3,4,5,6,7,8,9,10] (by kernel_rfl) ?_;rintro w1 rfl;replace hS:=hS.drew)
  have hW:=((h.no hS.ext).half hn).start;rw [zbV hN] at hW;obtain ⟨g,hg⟩:=za1 (hW.get 1 rfl);(conv=>whnf);refine hW.ldF 0 rfl (v:=.slice (some ⟨g,0,none⟩) 2 Y.nc) (by rw [← hg];rfl) id ?_;(conv=>whnf);refine hS.ldF 0 rfl rfl id ?_;(conv=>whnf);refine IdxC.mk (by omega) (by dsimp only;omega) ?_;(conv=>whnf);refine Ev.ldFc (hS.ext.cell (hc0.one 0 rfl) id) id ?_;(conv=>whnf);refine ixO ?_;(conv=>whnf);refine hW.ldTwoF 1 hn (by rw [← hg];rfl) rfl id ?_;(conv=>whnf);refine hS.ld 0 rfl rfl ?_;(conv=>whnf);refine zbt (b:=[97,99,116,105,118,101]) ?_;(conv=>whnf);refine (zbw 7 (by omega) (by omega) _).mono ?_;rintro v w2 ⟨rfl,hx⟩;repeat' ((conv=>whnf);first|apply RetC.mk|refine rgO ?_|refine ixO ?_|(first|apply brD|apply zad|apply brN|apply brI)<;>(intro))
  exact ⟨rfl,RDoes.same h (Nat.le_refl _) (Nat.le_refl _) (hS.ext.trans hx)⟩
 | some N =>
  have hO:=((h.ok.side hn).node N hN).1;have hAs:=hO.asks
  have hres:(if (zbM W n0 (fun N=>(zaI N.tab.cells:Nat))).2=0 then (zbM W n0 (fun N=>(zaI N.tab.cells:Nat))).1 else zdO (zbM W n0 (fun N=>(zaI N.tab.cells:Nat))).2)=Lib.itoa ((zaI N.tab.cells:Nat)):=by
   have ha:zbM W n0 (fun N=>(zaI N.tab.cells:Nat))=(Lib.itoa ((zaI N.tab.cells:Nat)),0):=(by unfold zbM;rw [hN];exact if_pos (zbr hn hN));rw [ha];rfl
  rw [hres];refine zaa tabOk Tryz.func21 (by kernel_rfl) rfl Tryz.ntmps21 (lbO rfl) ?_;have hS:=St.start w No;(conv=>whnf);refine hS.newX (hS.ref No) (fun b3 w1 hb3 _ _ hS=>?_);replace hS:St w No w1 [blk b3 49 (zaY ⟨[102,108,111,119,115],_,_,_,_,_⟩)]:=hS;(conv=>whnf);refine hS.ld 0 rfl rfl ?_;(conv=>whnf)
  iterate 13 (refine zbt ?_;(conv=>whnf))
  (refine zah tabOk mixed [] No [0,1,2,3,4,5,6,7,8,9,10] (by kernel_rfl) ?_;rintro w1 rfl;replace hS:=hS.drew)
  have hW:=((h.no hS.ext).half hn).start;rw [zbB hN] at hW;obtain ⟨g,hg⟩:=za1 (hW.get 1 rfl);(conv=>whnf);refine hW.ldF 0 rfl (v:=.slice (some ⟨g,0,none⟩) 2 Y.nc) (by rw [← hg];rfl) id ?_;(conv=>whnf);refine hS.ldF 0 rfl rfl id ?_;(conv=>whnf);refine IdxC.mk (by omega) (by dsimp only;omega) ?_;(conv=>whnf);refine Ev.ldFc (hS.ext.cell (hc0.one 0 rfl) id) id ?_;(conv=>whnf);refine ixO ?_;(conv=>whnf);refine hW.ldTwoF 1 hn (by rw [← hg];rfl) rfl id ?_;(conv=>whnf);refine hS.ld 0 rfl rfl ?_;(conv=>whnf);refine zbt (b:=[97,99,116,105,118,101]) ?_;(conv=>whnf);refine hS.ld 0 rfl rfl ?_;(conv=>whnf);refine zbt (b:=[102,108,111,119,115]) ?_;(conv=>whnf);refine hW.ld 6 rfl rfl ?_;(conv=>whnf);refine ldc (zbQ (hW.get 9 rfl)) ?_;(conv=>whnf);refine (zfE (zeh (hW.get 9 rfl)) (by omega)).mono ?_;rintro v w2 ⟨a5,c5,rfl,hx5,_,_⟩;rw [zgt];(conv=>whnf);refine (zaB _ hAs.1 _).mono ?_;rintro v w3 ⟨rfl,hx⟩;replace hx:=hx5.trans hx;repeat' ((conv=>whnf);first|apply RetC.mk|refine rgO ?_|refine ixO ?_|(first|apply brD|apply zad|apply brN|apply brI)<;>(intro))
  exact ⟨rfl,RDoes.same h (Nat.le_refl _) (Nat.le_refl _) (hS.ext.trans hx)⟩
theorem zm2 (hns:Slc w0 1 zcw (fun v=>I64 v) ra rn ns) (h1:rn=1) (hn:at0 ns 0=0∨at0 ns 0=1) (h:RStands w0 m j w Y W R):CallC Tryz.prog 21 #[.pointer (some ⟨Y.w,0,none⟩),.agg (zaY ⟨[109,105,114,114,111,114],ra,rn,rc,ns,p⟩).toArray] w (Said w0 m j w Y W R ((if (zbM W (at0 ns 0) (fun N=>(zaI N.mir.cells:Nat))).2=0 then (zbM W (at0 ns 0) (fun N=>(zaI N.mir.cells:Nat))).1 else zdO (zbM W (at0 ns 0) (fun N=>(zaI N.mir.cells:Nat))).2)) W):=by
 obtain ⟨b0,o0,n0,hat,hg0,rfl,hb0,hc0⟩:=(hns.no h.ext).at (k:=0) (by omega);rw [zbi hat] at hn ⊢;subst h1;cases hN:(W.side n0).node with
 | none =>
  have hres:(if (zbM W n0 (fun N=>(zaI N.mir.cells:Nat))).2=0 then (zbM W n0 (fun N=>(zaI N.mir.cells:Nat))).1 else zdO (zbM W n0 (fun N=>(zaI N.mir.cells:Nat))).2)=zdO 7:=by
   unfold zbM;rw [hN];dsimp only;rw [zbC hn hN];rfl
  rw [hres];refine zaa tabOk Tryz.func21 (by kernel_rfl) rfl Tryz.ntmps21 (lbO rfl) ?_;have hS:=St.start w No;(conv=>whnf);refine hS.newX (hS.ref No) (fun b3 w1 hb3 _ _ hS=>?_);replace hS:St w No w1 [blk b3 49 (zaY ⟨[109,105,114,114,111,114],_,_,_,_,_⟩)]:=hS;(conv=>whnf);refine hS.ld 0 rfl rfl ?_;(conv=>whnf)
  iterate 13 (refine zbt ?_;(conv=>whnf))
  (refine zah tabOk mixed [] No [0,1,2,3,4,5,6,7,8,9,10] (by kernel_rfl) ?_;rintro w1 rfl;replace hS:=hS.drew)
  have hW:=((h.no hS.ext).half hn).start;rw [zbV hN] at hW;obtain ⟨g,hg⟩:=za1 (hW.get 1 rfl);(conv=>whnf);refine hW.ldF 0 rfl (v:=.slice (some ⟨g,0,none⟩) 2 Y.nc) (by rw [← hg];rfl) id ?_;(conv=>whnf);refine hS.ldF 0 rfl rfl id ?_;(conv=>whnf);refine IdxC.mk (by omega) (by dsimp only;omega) ?_;(conv=>whnf);refine Ev.ldFc (hS.ext.cell (hc0.one 0 rfl) id) id ?_;(conv=>whnf);refine ixO ?_;(conv=>whnf);refine hW.ldTwoF 1 hn (by rw [← hg];rfl) rfl id ?_;(conv=>whnf);refine hS.ld 0 rfl rfl ?_;(conv=>whnf);refine zbt (b:=[97,99,116,105,118,101]) ?_;(conv=>whnf);refine (zbw 7 (by omega) (by omega) _).mono ?_;rintro v w2 ⟨rfl,hx⟩;repeat' ((conv=>whnf);first|apply RetC.mk|refine rgO ?_|refine ixO ?_|(first|apply brD|apply zad|apply brN|apply brI)<;>(intro))
  exact ⟨rfl,RDoes.same h (Nat.le_refl _) (Nat.le_refl _) (hS.ext.trans hx)⟩
 | some N =>
  have hO:=((h.ok.side hn).node N hN).1;have hAs:=hO.asks
  have hres:(if (zbM W n0 (fun N=>(zaI N.mir.cells:Nat))).2=0 then (zbM W n0 (fun N=>(zaI N.mir.cells:Nat))).1 else zdO (zbM W n0 (fun N=>(zaI N.mir.cells:Nat))).2)=Lib.itoa ((zaI N.mir.cells:Nat)):=by
   have ha:zbM W n0 (fun N=>(zaI N.mir.cells:Nat))=(Lib.itoa ((zaI N.mir.cells:Nat)),0):=(by unfold zbM;rw [hN];exact if_pos (zbr hn hN));rw [ha];rfl
  rw [hres];refine zaa tabOk Tryz.func21 (by kernel_rfl) rfl Tryz.ntmps21 (lbO rfl) ?_;have hS:=St.start w No;(conv=>whnf);refine hS.newX (hS.ref No) (fun b3 w1 hb3 _ _ hS=>?_);replace hS:St w No w1 [blk b3 49 (zaY ⟨[109,105,114,114,111,114],_,_,_,_,_⟩)]:=hS;(conv=>whnf);refine hS.ld 0 rfl rfl ?_;(conv=>whnf)
  iterate 13 (refine zbt ?_;(conv=>whnf))
  (refine zah tabOk mixed [] No [0,1,2,3,4,5,6,7,8,9,10] (by kernel_rfl) ?_;rintro w1 rfl;replace hS:=hS.drew)
  have hW:=((h.no hS.ext).half hn).start;rw [zbB hN] at hW;obtain ⟨g,hg⟩:=za1 (hW.get 1 rfl);(conv=>whnf);refine hW.ldF 0 rfl (v:=.slice (some ⟨g,0,none⟩) 2 Y.nc) (by rw [← hg];rfl) id ?_;(conv=>whnf);refine hS.ldF 0 rfl rfl id ?_;(conv=>whnf);refine IdxC.mk (by omega) (by dsimp only;omega) ?_;(conv=>whnf);refine Ev.ldFc (hS.ext.cell (hc0.one 0 rfl) id) id ?_;(conv=>whnf);refine ixO ?_;(conv=>whnf);refine hW.ldTwoF 1 hn (by rw [← hg];rfl) rfl id ?_;(conv=>whnf);refine hS.ld 0 rfl rfl ?_;(conv=>whnf);refine zbt (b:=[97,99,116,105,118,101]) ?_;(conv=>whnf);refine hS.ld 0 rfl rfl ?_;(conv=>whnf)
  iterate 2 (refine zbt ?_;(conv=>whnf))
  refine hW.ld 6 rfl rfl ?_;(conv=>whnf);have hM:=hW.get 11 rfl;refine ldc (hM.2.1.cell 1) ?_;(conv=>whnf);refine (zfE (zap (G:=fun _=>True) zau hM.2.2 (fun _ _=>trivial)) (by omega)).mono ?_;rintro v w2 ⟨a5,c5,rfl,hx5,_,_⟩;rw [zgt];(conv=>whnf);refine (zaB _ hAs.2.1 _).mono ?_;rintro v w3 ⟨rfl,hx⟩;replace hx:=hx5.trans hx;repeat' ((conv=>whnf);first|apply RetC.mk|refine rgO ?_|refine ixO ?_|(first|apply brD|apply zad|apply brN|apply brI)<;>(intro))
  exact ⟨rfl,RDoes.same h (Nat.le_refl _) (Nat.le_refl _) (hS.ext.trans hx)⟩
theorem zqc (hns:Slc w0 1 zcw (fun v=>I64 v) ra rn ns) (h1:rn=1) (hn:at0 ns 0=0∨at0 ns 0=1) (h:RStands w0 m j w Y W R):CallC Tryz.prog 21 #[.pointer (some ⟨Y.w,0,none⟩),.agg (zaY ⟨[101,112,111,99,104],ra,rn,rc,ns,p⟩).toArray] w (Said w0 m j w Y W R ((if (zbM W (at0 ns 0) (fun N=>N.role.epoch)).2=0 then (zbM W (at0 ns 0) (fun N=>N.role.epoch)).1 else zdO (zbM W (at0 ns 0) (fun N=>N.role.epoch)).2)) W):=by
 obtain ⟨b0,o0,n0,hat,hg0,rfl,hb0,hc0⟩:=(hns.no h.ext).at (k:=0) (by omega);rw [zbi hat] at hn ⊢;subst h1;cases hN:(W.side n0).node with
 | none =>
  have hres:(if (zbM W n0 (fun N=>N.role.epoch)).2=0 then (zbM W n0 (fun N=>N.role.epoch)).1 else zdO (zbM W n0 (fun N=>N.role.epoch)).2)=zdO 7:=by
   unfold zbM;rw [hN];dsimp only;rw [zbC hn hN];rfl
  rw [hres];refine zaa tabOk Tryz.func21 (by kernel_rfl) rfl Tryz.ntmps21 (lbO rfl) ?_;have hS:=St.start w No;(conv=>whnf);refine hS.newX (hS.ref No) (fun b3 w1 hb3 _ _ hS=>?_);replace hS:St w No w1 [blk b3 49 (zaY ⟨[101,112,111,99,104],_,_,_,_,_⟩)]:=hS;(conv=>whnf);refine hS.ld 0 rfl rfl ?_;(conv=>whnf)
  iterate 13 (refine zbt ?_;(conv=>whnf))
  (refine zah tabOk mixed [] No [0,1,2,3,4,5,6,7,8,9,10] (by kernel_rfl) ?_;rintro w1 rfl;replace hS:=hS.drew)
  have hW:=((h.no hS.ext).half hn).start;rw [zbV hN] at hW;obtain ⟨g,hg⟩:=za1 (hW.get 1 rfl);(conv=>whnf);refine hW.ldF 0 rfl (v:=.slice (some ⟨g,0,none⟩) 2 Y.nc) (by rw [← hg];rfl) id ?_;(conv=>whnf);refine hS.ldF 0 rfl rfl id ?_;(conv=>whnf);refine IdxC.mk (by omega) (by dsimp only;omega) ?_;(conv=>whnf);refine Ev.ldFc (hS.ext.cell (hc0.one 0 rfl) id) id ?_;(conv=>whnf);refine ixO ?_;(conv=>whnf);refine hW.ldTwoF 1 hn (by rw [← hg];rfl) rfl id ?_;(conv=>whnf);refine hS.ld 0 rfl rfl ?_;(conv=>whnf);refine zbt (b:=[97,99,116,105,118,101]) ?_;(conv=>whnf);refine (zbw 7 (by omega) (by omega) _).mono ?_;rintro v w2 ⟨rfl,hx⟩;repeat' ((conv=>whnf);first|apply RetC.mk|refine rgO ?_|refine ixO ?_|(first|apply brD|apply zad|apply brN|apply brI)<;>(intro))
  exact ⟨rfl,RDoes.same h (Nat.le_refl _) (Nat.le_refl _) (hS.ext.trans hx)⟩
 | some N =>
  have hO:=((h.ok.side hn).node N hN).1;have hAs:=hO.asks
  have hres:(if (zbM W n0 (fun N=>N.role.epoch)).2=0 then (zbM W n0 (fun N=>N.role.epoch)).1 else zdO (zbM W n0 (fun N=>N.role.epoch)).2)=Lib.itoa (N.role.epoch):=by
   have ha:zbM W n0 (fun N=>N.role.epoch)=(Lib.itoa (N.role.epoch),0):=(by unfold zbM;rw [hN];exact if_pos (zbr hn hN));rw [ha];rfl
  rw [hres];refine zaa tabOk Tryz.func21 (by kernel_rfl) rfl Tryz.ntmps21 (lbO rfl) ?_;have hS:=St.start w No;(conv=>whnf);refine hS.newX (hS.ref No) (fun b3 w1 hb3 _ _ hS=>?_);replace hS:St w No w1 [blk b3 49 (zaY ⟨[101,112,111,99,104],_,_,_,_,_⟩)]:=hS;(conv=>whnf);refine hS.ld 0 rfl rfl ?_;(conv=>whnf)
  iterate 13 (refine zbt ?_;(conv=>whnf))
  (refine zah tabOk mixed [] No [0,1,2,3,4,5,6,7,8,9,10] (by kernel_rfl) ?_;rintro w1 rfl;replace hS:=hS.drew)
  have hW:=((h.no hS.ext).half hn).start;rw [zbB hN] at hW;obtain ⟨g,hg⟩:=za1 (hW.get 1 rfl);(conv=>whnf);refine hW.ldF 0 rfl (v:=.slice (some ⟨g,0,none⟩) 2 Y.nc) (by rw [← hg];rfl) id ?_;(conv=>whnf);refine hS.ldF 0 rfl rfl id ?_;(conv=>whnf);refine IdxC.mk (by omega) (by dsimp only;omega) ?_;(conv=>whnf);refine Ev.ldFc (hS.ext.cell (hc0.one 0 rfl) id) id ?_;(conv=>whnf);refine ixO ?_;(conv=>whnf);refine hW.ldTwoF 1 hn (by rw [← hg];rfl) rfl id ?_;(conv=>whnf);refine hS.ld 0 rfl rfl ?_;(conv=>whnf);refine zbt (b:=[97,99,116,105,118,101]) ?_;(conv=>whnf);refine hS.ld 0 rfl rfl ?_;(conv=>whnf)
  iterate 3 (refine zbt ?_;(conv=>whnf))
  refine hW.ld 6 rfl rfl ?_;(conv=>whnf);refine hW.ld 7 rfl rfl ?_;(conv=>whnf);refine (zaB _ hAs.2.2.1 _).mono ?_;rintro v w3 ⟨rfl,hx⟩;repeat' ((conv=>whnf);first|apply RetC.mk|refine rgO ?_|refine ixO ?_|(first|apply brD|apply zad|apply brN|apply brI)<;>(intro))
  exact ⟨rfl,RDoes.same h (Nat.le_refl _) (Nat.le_refl _) (hS.ext.trans hx)⟩
theorem zqI (hns:Slc w0 1 zcw (fun v=>I64 v) ra rn ns) (h1:rn=1) (hn:at0 ns 0=0∨at0 ns 0=1) (h:RStands w0 m j w Y W R):CallC Tryz.prog 21 #[.pointer (some ⟨Y.w,0,none⟩),.agg (zaY ⟨[108,105,102,101],ra,rn,rc,ns,p⟩).toArray] w (Said w0 m j w Y W R ((if (zbM W (at0 ns 0) (fun N=>(N.cell.li:Nat))).2=0 then (zbM W (at0 ns 0) (fun N=>(N.cell.li:Nat))).1 else zdO (zbM W (at0 ns 0) (fun N=>(N.cell.li:Nat))).2)) W):=by
 obtain ⟨b0,o0,n0,hat,hg0,rfl,hb0,hc0⟩:=(hns.no h.ext).at (k:=0) (by omega);rw [zbi hat] at hn ⊢;subst h1;cases hN:(W.side n0).node with
 | none =>
  have hres:(if (zbM W n0 (fun N=>(N.cell.li:Nat))).2=0 then (zbM W n0 (fun N=>(N.cell.li:Nat))).1 else zdO (zbM W n0 (fun N=>(N.cell.li:Nat))).2)=zdO 7:=by
   unfold zbM;rw [hN];dsimp only;rw [zbC hn hN];rfl
  rw [hres];refine zaa tabOk Tryz.func21 (by kernel_rfl) rfl Tryz.ntmps21 (lbO rfl) ?_;have hS:=St.start w No;(conv=>whnf);refine hS.newX (hS.ref No) (fun b3 w1 hb3 _ _ hS=>?_);replace hS:St w No w1 [blk b3 49 (zaY ⟨[108,105,102,101],_,_,_,_,_⟩)]:=hS;(conv=>whnf);refine hS.ld 0 rfl rfl ?_;(conv=>whnf)
  iterate 13 (refine zbt ?_;(conv=>whnf))
  (refine zah tabOk mixed [] No [0,1,2,3,4,5,6,7,8,9,10] (by kernel_rfl) ?_;rintro w1 rfl;replace hS:=hS.drew)
  have hW:=((h.no hS.ext).half hn).start;rw [zbV hN] at hW;obtain ⟨g,hg⟩:=za1 (hW.get 1 rfl);(conv=>whnf);refine hW.ldF 0 rfl (v:=.slice (some ⟨g,0,none⟩) 2 Y.nc) (by rw [← hg];rfl) id ?_;(conv=>whnf);refine hS.ldF 0 rfl rfl id ?_;(conv=>whnf);refine IdxC.mk (by omega) (by dsimp only;omega) ?_;(conv=>whnf);refine Ev.ldFc (hS.ext.cell (hc0.one 0 rfl) id) id ?_;(conv=>whnf);refine ixO ?_;(conv=>whnf);refine hW.ldTwoF 1 hn (by rw [← hg];rfl) rfl id ?_;(conv=>whnf);refine hS.ld 0 rfl rfl ?_;(conv=>whnf);refine zbt (b:=[97,99,116,105,118,101]) ?_;(conv=>whnf);refine (zbw 7 (by omega) (by omega) _).mono ?_;rintro v w2 ⟨rfl,hx⟩;repeat' ((conv=>whnf);first|apply RetC.mk|refine rgO ?_|refine ixO ?_|(first|apply brD|apply zad|apply brN|apply brI)<;>(intro))
  exact ⟨rfl,RDoes.same h (Nat.le_refl _) (Nat.le_refl _) (hS.ext.trans hx)⟩
 | some N =>
  have hO:=((h.ok.side hn).node N hN).1;have hAs:=hO.asks
  have hres:(if (zbM W n0 (fun N=>(N.cell.li:Nat))).2=0 then (zbM W n0 (fun N=>(N.cell.li:Nat))).1 else zdO (zbM W n0 (fun N=>(N.cell.li:Nat))).2)=Lib.itoa ((N.cell.li:Nat)):=by
   have ha:zbM W n0 (fun N=>(N.cell.li:Nat))=(Lib.itoa ((N.cell.li:Nat)),0):=(by unfold zbM;rw [hN];exact if_pos (zbr hn hN));rw [ha];rfl
  rw [hres];refine zaa tabOk Tryz.func21 (by kernel_rfl) rfl Tryz.ntmps21 (lbO rfl) ?_;have hS:=St.start w No;(conv=>whnf);refine hS.newX (hS.ref No) (fun b3 w1 hb3 _ _ hS=>?_);replace hS:St w No w1 [blk b3 49 (zaY ⟨[108,105,102,101],_,_,_,_,_⟩)]:=hS;(conv=>whnf);refine hS.ld 0 rfl rfl ?_;(conv=>whnf)
  iterate 13 (refine zbt ?_;(conv=>whnf))
  (refine zah tabOk mixed [] No [0,1,2,3,4,5,6,7,8,9,10] (by kernel_rfl) ?_;rintro w1 rfl;replace hS:=hS.drew)
  have hW:=((h.no hS.ext).half hn).start;rw [zbB hN] at hW;obtain ⟨g,hg⟩:=za1 (hW.get 1 rfl);(conv=>whnf);refine hW.ldF 0 rfl (v:=.slice (some ⟨g,0,none⟩) 2 Y.nc) (by rw [← hg];rfl) id ?_;(conv=>whnf);refine hS.ldF 0 rfl rfl id ?_;(conv=>whnf);refine IdxC.mk (by omega) (by dsimp only;omega) ?_;(conv=>whnf);refine Ev.ldFc (hS.ext.cell (hc0.one 0 rfl) id) id ?_;(conv=>whnf);refine ixO ?_;(conv=>whnf);refine hW.ldTwoF 1 hn (by rw [← hg];rfl) rfl id ?_;(conv=>whnf);refine hS.ld 0 rfl rfl ?_;(conv=>whnf);refine zbt (b:=[97,99,116,105,118,101]) ?_;(conv=>whnf);refine hS.ld 0 rfl rfl ?_;(conv=>whnf)
  iterate 3 (refine zbt ?_;(conv=>whnf))
  refine hW.ld 6 rfl rfl ?_;(conv=>whnf);refine hW.ld 8 rfl rfl ?_;(conv=>whnf);refine (zaB _ hAs.2.2.2 _).mono ?_;rintro v w3 ⟨rfl,hx⟩;repeat' ((conv=>whnf);first|apply RetC.mk|refine rgO ?_|refine ixO ?_|(first|apply brD|apply zad|apply brN|apply brI)<;>(intro))
  exact ⟨rfl,RDoes.same h (Nat.le_refl _) (Nat.le_refl _) (hS.ext.trans hx)⟩
end
def FV (f:FlowS):Prop:=f.proto=0∨(zdL f.ia f.ip=true∧zdL 1 f.port=true)
def CV (l:List CellS):Prop:=∀ c∈l,FV c.f
theorem zjF:FV zay:=.inl rfl
theorem CV.set {l:List CellS}(h:CV l) (k:Nat) {c:CellS}(hc:FV c.f):CV (l.set k c):=fun d hd=>(List.mem_or_eq_of_mem_set hd).elim (h d) fun e=>e ▸ hc
theorem CV.laid {l:List CellS}(h:CV l) (k:Nat) {f:FlowS}(hf:FV f):CV (zk1 l k f):=by
 unfold zk1;split
 ·exact h.set k hf
 ·exact h
theorem zhe:CV emptyCells:=fun c hc=>by
 obtain ⟨i,_,rfl⟩:=List.mem_map.1 hc;exact zjF
theorem CV.at {T:MirS}(h:CV T.cells) (k:Int):FV (zaD T k):=by
 unfold zaD;split
 ·rename_i c hc;exact h c (List.mem_of_getElem? hc)
 ·exact zjF
theorem CV.lay {T:MirS}(h:CV T.cells) {f:FlowS}(hf:FV f):CV (T.lay f).2.cells:=by
 unfold MirS.lay;split
 ·exact h
 ·exact h.laid _ hf
theorem CV.put {T:MirS}(h:CV T.cells) {f:FlowS}(hf:FV f):CV (T.put f).2.cells:=by
 unfold MirS.put;split
 ·exact h
 ·exact h.lay hf
theorem CV.add {T:MirS}(h:CV T.cells) {pr ia ip fa fp st un:Int}(he:zdL ia ip=true) (hl:0≤T.life∧T.life≤60000) (hl1:1≤T.life):CV (T.add pr ia ip fa fp st un).2.cells:=by
 unfold MirS.add;split
 ·exact h
 split
 ·rename_i i hi;have:=zmv _ _ hi;refine h.lay (.inr ⟨he,?_⟩);unfold zdL;dsimp only;refine decide_eq_true ⟨by decide,by decide,by omega,by omega⟩
 ·exact h
theorem CV.drop {T:MirS}(h:CV T.cells) (k:Int):CV (T.drop k).2.cells:=by
 unfold MirS.drop;split
 ·exact h
 ·exact h.laid _ zjF
theorem FV.til {f:FlowS}(h:FV f) (st un:Int):FV { f with state:=st,til:=un }:=h
theorem CV.setS {T:MirS}(h:CV T.cells) (k st un:Int):CV (T.setS k st un).2.cells:=by
 unfold MirS.setS;split
 ·exact h
 ·exact h.laid _ ((h.at k).til st un)
theorem CV.expire {T:MirS}(h:CV T.cells) (now:Int):CV (T.expire now).cells:=fun c hc=>by
 obtain ⟨d,hd,rfl|rfl⟩:=zgm hc
 ·exact h _ hd
 ·unfold zf5;split
  ·exact zjF
  ·exact h d hd
theorem CV.put1 {l:List CellS}(h:CV l) {c:CellS}(hc:FV c.f):CV (zbK l c):=by
 unfold zbK;split
 ·split
  ·exact h.set _ hc
  ·exact h
 ·exact h
theorem CV.foldl:∀ (xs:List CellS) {l:List CellS},CV l→CV xs→CV (xs.foldl zbK l)
 | [],_,h,_=>h
 | x::xs,l,h,hx=>CV.foldl xs (h.put1 (hx x List.mem_cons_self)) fun c hc=>hx c (List.mem_cons_of_mem _ hc)
theorem CV.tell {m:MirS}(h:CV m.cells) (life:Int) {xs:List CellS}(hx:CV xs):CV (m.tell life xs).2.cells:=by
 unfold MirS.tell;split
 ·exact h
 split
 ·exact h
 ·refine CV.foldl xs ?_ hx;split
  ·exact zhe
  ·exact h
theorem CV.puts (now:Int):∀ (l:List FlowS) {T:MirS},CV T.cells→(∀ f∈l,FV f)→CV (zcC now T l).cells
 | [],_,h,_=>h
 | f::l,T,h,hl=>CV.puts now l (h.put (FV.til (hl f List.mem_cons_self) f.state _)) fun g hg=>hl g (List.mem_cons_of_mem _ hg)
structure NV (N:NodeS):Prop where
 tab:CV N.tab.cells
 mir:CV N.mir.cells
theorem NV.pass {N:NodeS}(h:NV N) (k flags:Int) (out:Bool):NV (N.pass k flags out):=by
 refine ⟨?_,h.mir⟩;unfold NodeS.pass;dsimp only;split
 ·exact h.tab.drop k
 ·exact h.tab.setS k _ _
theorem NV.begin {m:Nat}{N:NodeS}(h:NV N) (hN:NOk m N) {p:PktS}(he:zdL p.sa p.sp=true):NV (N.begin p).2:=by
 have hid:=hN.id;have hlf:=hN.lif;unfold NodeS.begin;split
 ·exact h
 split
 ·exact h
 ·exact ⟨h.tab.add he ⟨by omega,by omega⟩ (by omega),h.mir⟩
theorem zgJ {p:PktS}(h:p.err=0):(p.proto=1∨p.proto=2)∧zdL p.sa p.sp=true∧zdL p.da p.dp=true∧0≤p.flags∧p.flags≤15∧¬ (p.proto=1∧p.flags≠0):=by
 unfold PktS.err at h;split at h
 ·cases h
 split at h
 ·cases h
 rename_i h1 h2;unfold PktS.bad at h1;rw [decide_eq_true_eq] at h1;refine ⟨by omega,?_,?_,by omega,by omega,h2⟩
 ·cases hb:zdL p.sa p.sp with
  | true=>rfl
  | false=>exact absurd (.inr (.inl hb)) h1
 ·cases hb:zdL p.da p.dp with
  | true=>rfl
  | false=>exact absurd (.inr (.inr (.inl hb))) h1
theorem zg0 {p:PktS}(h1:p.proto=1∨p.proto=2) (h2:zdL p.sa p.sp=true) (h3:zdL p.da p.dp=true) (h4:0≤p.flags) (h5:p.flags≤15) (h6:¬ (p.proto=1∧p.flags≠0)):p.err=0:=by
 unfold PktS.err PktS.bad
 rw [h2,h3,if_neg (by
  rw [decide_eq_true_eq];rintro (h|h|h|h|h)
  ·omega
  ·cases h
  ·cases h
  ·omega
  ·omega),if_neg h6]
theorem NV.inside {m:Nat}{N:NodeS}(h:NV N) (hN:NOk m N) (p:PktS):NV (N.inside p).2.2:=by
 unfold NodeS.inside;split
 ·exact h
 rename_i he;have hp:=zgJ (p:=p) (by omega);split
 ·exact h
 split
 ·exact h.pass _ _ _
 split
 ·exact h.begin hN hp.2.1
 ·exact h.begin hN hp.2.1
theorem NV.outside {N:NodeS}(h:NV N) (p:PktS):NV (N.outside p).2.2:=by
 unfold NodeS.outside;split
 ·exact h
 split
 ·exact h
 split
 ·exact h
 split
 ·exact h
 ·exact h.pass _ _ _
theorem NV.hear {N:NodeS}(h:NV N) (x:NoteS) (hx:CV x.cells):NV (N.hear x).2:=by
 unfold NodeS.hear;split
 ·exact h
 split
 ·exact h
 split
 ·exact ⟨h.tab,h.mir.tell _ hx⟩
 ·exact ⟨h.tab,h.mir.tell _ hx⟩
theorem NV.claim {N:NodeS}(h:NV N) (B:BytS):NV (N.claim B).2.1:=by
 unfold NodeS.claim;split
 ·exact h
 split
 ·exact ⟨h.tab,h.mir⟩
 ·refine ⟨CV.puts _ _ h.tab fun f hf=>?_,h.mir⟩;obtain ⟨c,hc,rfl⟩:=List.mem_map.1 hf;exact h.mir c (List.mem_filter.1 hc).1
theorem NV.step {N:NodeS}(h:NV N):NV N.step.2:=⟨h.tab.expire _,h.mir⟩
theorem NV.notes {N:NodeS}(h:NV N) (c:Bool):(∀ x∈(N.notes c).1,CV x.cells)∧NV (N.notes c).2:=by
 refine ⟨fun x hx=>?_,?_⟩
 ·unfold NodeS.notes at hx;dsimp only at hx;rcases List.mem_append.1 hx with hx|hx
  ·split at hx
   ·obtain rfl:=List.mem_singleton.1 hx;exact fun d hd=>by cases hd
   ·cases hx
  ·split at hx
   ·obtain rfl:=List.mem_singleton.1 hx;intro d hd;obtain ⟨k,_,rfl⟩:=List.mem_map.1 hd;unfold zmp;split
    ·rename_i c hc;exact h.tab c (List.mem_of_getElem? hc)
    ·exact zjF
   ·cases hx
 ·unfold NodeS.notes;dsimp only;split
  ·exact ⟨h.tab,h.mir⟩
  ·exact h
theorem NV.tick {N:NodeS}(h:NV N) (B:BytS):(∀ x∈(N.tick B).2.1,CV x.cells)∧NV (N.tick B).2.2.1:=by
 unfold NodeS.tick;split
 ·exact ⟨fun x hx=>(by cases hx),h⟩
 split
 ·split
  ·exact ⟨fun x hx=>(by cases hx),h.step.claim B⟩
  ·exact (h.step.claim B).notes _
 ·exact h.step.notes false
structure WV (W:WorldS):Prop where
 a:∀ N,W.a.node=some N→NV N
 b:∀ N,W.b.node=some N→NV N
 fly:∀ x∈W.fly,CV x.cells
theorem WV.side {W:WorldS}(h:WV W) {n:Int}{N:NodeS}(hN:(W.side n).node=some N):NV N:=by
 unfold WorldS.side at hN;split at hN
 ·exact h.a N hN
 ·exact h.b N hN
theorem WV.setSide {W:WorldS}(h:WV W) (n:Int) {s:SideS}(hs:∀ N,s.node=some N→NV N):WV (W.setSide n s):=by
 unfold WorldS.setSide;split
 ·exact ⟨hs,h.b,h.fly⟩
 ·exact ⟨h.a,hs,h.fly⟩
theorem zfg {N M:NodeS}{B:BytS}(h:NV M):∀ N,(⟨some M,B⟩:SideS).node=some N→NV N:=fun N hN=>by
 cases hN;exact h
theorem WV.tick {W:WorldS}(h:WV W) (n:Int):WV (W.tick n).2:=by
 unfold WorldS.tick;split
 ·exact h
 split
 ·exact h
 ·rename_i N hN;obtain ⟨h1,h2⟩:=(h.side hN).tick (W.side n).byt;unfold WorldS.ticked;split
  ·exact h.setSide n fun N hN=>by cases hN
  split
  ·exact h.setSide n (zfg (N:=N) h2)
  ·have h3:=h.setSide n (s:=⟨some (N.tick (W.side n).byt).2.2.1,(N.tick (W.side n).byt).2.2.2⟩) (zfg (N:=N) h2);refine ⟨h3.a,h3.b,fun x hx=>?_⟩;rcases List.mem_append.1 hx with hx|hx
   ·exact h.fly x hx
   ·exact h1 x (List.mem_of_mem_take hx)
theorem WV.ticks (n:Int):∀ (k:Nat) {W:WorldS},WV W→WV (W.ticks n k).2
 | 0,_,h=>h
 | k+1,W,h=>by
  show WV (if (W.tick n).1≠0 then W.tick n else (W.tick n).2.ticks n k).2;split
  ·exact h.tick n
  ·exact WV.ticks n k (h.tick n)
theorem WV.off {W:WorldS}(h:WV W) (k:Int):WV (W.off k):=⟨h.a,h.b,fun x hx=>h.fly x (List.mem_of_mem_eraseIdx hx)⟩
theorem WV.got {W:WorldS}(h:WV W) {x:NoteS}(hx:CV x.cells):WV (W.got x):=by
 unfold WorldS.got;split
 ·split
  ·exact ⟨h.a,h.b,h.fly⟩
  ·exact h
 split
 ·exact h
 split
 ·exact h
 ·rename_i N hN;exact h.setSide _ (zfg (N:=N) ((h.side hN).hear x hx))
theorem WV.deliver {W:WorldS}(h:WV W) (k:Int):WV (W.deliver k).2:=by
 unfold WorldS.deliver;split
 ·exact h
 split
 ·exact h
 ·rename_i x hx;exact (h.off k).got (h.fly x (List.mem_of_getElem? hx))
theorem WV.drop {W:WorldS}(h:WV W) (k:Int):WV (W.drop k).2:=by
 unfold WorldS.drop;split
 ·exact h
 ·exact h.off k
theorem WV.twice {W:WorldS}(h:WV W) (k:Int):WV (W.twice k).2:=by
 unfold WorldS.twice;split
 ·exact h
 split
 ·exact h
 split
 ·exact h
 ·rename_i x hx;refine ⟨h.a,h.b,fun y hy=>?_⟩;rcases List.mem_append.1 hy with hy|hy
  ·exact h.fly y (List.mem_of_mem_take hy)
  rcases List.mem_cons.1 hy with rfl|hy
  ·exact h.fly _ (List.mem_of_getElem? hx)
  ·exact h.fly y (List.mem_of_mem_drop hy)
theorem WV.down {W:WorldS}(h:WV W) (n:Int):WV (W.down n).2:=by
 unfold WorldS.down;split
 ·exact h
 ·exact h.setSide _ fun N hN=>by cases hN
theorem zk8 (n:Int) (B:BytS) (l:List RuleS):NV (zbL n B l).2.1:=⟨zhe,zhe⟩
theorem WV.up {W:WorldS}(h:WV W) (n:Int):WV (W.up n).2:=by
 unfold WorldS.up;split
 ·exact h
 split
 ·exact h
 split
 ·exact h.setSide _ fun N hN=>by cases hN
 ·exact h.setSide n fun N hN=>by
   cases hN;exact zk8 _ _ _
theorem WV.cut {W:WorldS}(h:WV W) (n k:Int):WV (W.cut n k).2:=by
 unfold WorldS.cut;split
 ·exact h
 ·exact h.setSide _ fun N hN=>h.side hN
theorem WV.inside {m:Nat}{W:WorldS}(h:WV W) (hO:WOk m W) (p:PktS):WV (W.inside p).2.2:=by
 unfold WorldS.inside;split
 ·exact h
 split
 ·exact h
 ·rename_i N hN;have ht:=(hO.hand (by omega)).1;exact h.setSide _ (zfg (N:=N) ((h.side hN).inside ((hO.side ht).node N hN).1 p))
theorem WV.outside {W:WorldS}(h:WV W) (p:PktS):WV (W.outside p).2.2:=by
 unfold WorldS.outside;split
 ·exact h
 split
 ·exact h
 ·rename_i N hN;exact h.setSide _ (zfg (N:=N) ((h.side hN).outside p))
theorem WV.land:∀ (k:Nat) {W:WorldS},WV W→WV (W.land k)
 | 0,_,h=>h
 | k+1,W,h=>by
  show WV (if W.fly.length=0 then W else (W.deliver 0).2.land k);split
  ·exact h
  ·exact WV.land k (h.deliver 0)
theorem WV.born (l:List RuleS):WV (.born l):=⟨fun N hN=>by cases hN;exact zk8 _ _ _,fun N hN=>by cases hN;exact zk8 _ _ _,fun x hx=>by cases hx⟩
theorem zqB {T:MirS}{f:FlowS}(h:(T.lay f).1.2=0):zaD (T.lay f).2 (T.lay f).1.1=f:=by
 unfold MirS.lay at h ⊢;split
 ·rename_i hn;rw [if_pos hn] at h;cases h
 ·rename_i hn;obtain ⟨j,c,hj,_,he,_⟩:=zg6 zbZ T.cells 0 (by omega);have hjj:(zc3 zbZ T.cells 0).toNat=j:=by omega
  dsimp only;rw [hjj];unfold zaD;rw [hjj,zeL hj];dsimp only;rw [List.getElem?_set_self (List.getElem?_eq_some_iff.1 hj).1]
theorem zrG {T:MirS}{pr ia ip fa fp st un:Int}(h:(T.add pr ia ip fa fp st un).1.2=0):(zaD (T.add pr ia ip fa fp st un).2 (T.add pr ia ip fa fp st un).1.1).proto=pr:=by
 unfold MirS.add at h ⊢;split
 ·rename_i h1;rw [if_pos h1] at h;cases h
 ·rename_i h1;rw [if_neg h1] at h;split
  ·rename_i i hi;rw [hi] at h;rw [zqB h]
  ·rename_i hi;rw [hi] at h;cases h
theorem zmB {p:PktS}(h:p.err=0):I64 p.proto∧I64 p.sa∧I64 p.sp∧I64 p.da∧I64 p.dp∧I64 p.flags:=by
 obtain ⟨h1,h2,h3,h4,h5,_⟩:=zgJ h;unfold zdL at h2 h3;rw [decide_eq_true_eq] at h2 h3;exact ⟨⟨by omega,by omega⟩,⟨by omega,by omega⟩,⟨by omega,by omega⟩,⟨by omega,by omega⟩,⟨by omega,by omega⟩,⟨by omega,by omega⟩⟩
theorem NV.found {N:NodeS}(h:NV N) {k:Int}(hp:(zaD N.tab k).proto≠0):zdL (zaD N.tab k).ia (zaD N.tab k).ip=true∧zdL 1 (zaD N.tab k).port=true:=(h.tab.at k).resolve_left hp
theorem znF {m:Nat}{N:NodeS}(h:NV N) (hN:NOk m N) {p:PktS}(hp:p.err=0) (h0:(N.inside p).1=0):(N.inside p).2.1.err=0:=by
 obtain ⟨g1,g2,g3,g4,g5,g6⟩:=zgJ hp;unfold NodeS.inside at h0 ⊢;rw [if_neg (fun h=>h hp)] at h0 ⊢;split at h0
 ·cases h0
 rename_i h1;rw [if_neg h1];split at h0
 ·rename_i h2;rw [if_pos h2];obtain ⟨_,c,_,hc,hpr,_⟩:=zbR hN.tab.len _ h2;exact zg0 g1 (h.found (fun e=>hpr ((congrArg FlowS.proto hc).trans e))).2 g3 g4 g5 g6
 rename_i h2;rw [if_neg h2];split at h0
 ·rename_i h3;exact absurd h0 h3
 rename_i h3;rw [if_neg h3];have hb:=h.begin hN (p:=p) g2
 have hpr:(zaD (N.begin p).2.tab (N.begin p).1.1).proto=p.proto:=by
  have h4:(N.begin p).1.2=0:=by omega
  unfold NodeS.begin at h4 ⊢;split
  ·rename_i h5;rw [if_pos h5] at h4;cases h4
  rename_i h5;rw [if_neg h5] at h4;split
  ·rename_i h6;rw [if_pos h6] at h4;exact absurd h4 h6
  rename_i h6;rw [if_neg h6] at h4;exact zrG h4
 exact zg0 g1 (hb.found (by rw [hpr];omega)).2 g3 g4 g5 g6
theorem zlU {m:Nat}{N:NodeS}(h:NV N) (hN:NOk m N) {p:PktS}(hp:p.err=0) (h0:(N.outside p).1=0):(N.outside p).2.1.err=0:=by
 obtain ⟨g1,g2,g3,g4,g5,g6⟩:=zgJ hp;unfold NodeS.outside at h0 ⊢;rw [if_neg (fun h=>h hp)] at h0 ⊢;split at h0
 ·cases h0
 rename_i h1;rw [if_neg h1];split at h0
 ·cases h0
 rename_i h2;rw [if_neg h2];split at h0
 ·cases h0
 rename_i h3;rw [if_neg h3];obtain ⟨_,c,_,hc,hpr,_⟩:=zbR hN.tab.len _ (Int.not_lt.1 h3);exact zg0 g1 g2 (h.found (fun e=>hpr ((congrArg FlowS.proto hc).trans e))).1 g4 g5 g6
theorem ze7 {m:Nat}{W:WorldS}(h:WV W) (hO:WOk m W) {p:PktS}(hp:p.err=0) (h0:(W.inside p).1=0):(W.inside p).2.1.err=0:=by
 unfold WorldS.inside at h0 ⊢;split at h0
 ·rename_i h1;exact absurd h0 h1
 rename_i h1;rw [if_neg h1];split at h0
 ·cases h0
 ·rename_i N hN;have ht:=(hO.hand (by omega)).1;exact znF (h.side hN) ((hO.side ht).node N hN).1 hp h0
theorem zeA {m:Nat}{W:WorldS}(h:WV W) (hO:WOk m W) {p:PktS}(hp:p.err=0) (h0:(W.outside p).1=0):(W.outside p).2.1.err=0:=by
 unfold WorldS.outside at h0 ⊢;split at h0
 ·rename_i h1;exact absurd h0 h1
 rename_i h1;rw [if_neg h1];split at h0
 ·cases h0
 ·rename_i N hN;have ht:=(hO.hand (by omega)).1;exact zlU (h.side hN) ((hO.side ht).node N hN).1 hp h0
theorem zuG {d:Cmd}{xs:List Int}{W:WorldS}(h:WV W):WV (d.does xs W).2:=by
 cases d with
 | tick=>exact h.ticks _ _
 | go=>exact h.deliver _
 | lose=>exact h.drop _
 | twice=>exact h.twice _
 | down=>exact h.down _
 | up=>exact h.up _
 | cut=>exact h.cut _ _
 | all=>exact h.land _
 | fly|active|switch|flows|mirror|epoch|life|events=>exact h
theorem zuo {m:Nat}{l:List UInt8}{W:WorldS}(h:WV W) (hO:WOk m W):WV (playS l W).2:=by
 unfold playS;split
 ·exact (zfi (s:=(Lib.cut l [32]).2.1) (f:=W.inside) (W:=W) (P:=WV) h (fun p=>h.inside hO p) (fun p=>zd1 W p)).1
 split
 ·exact (zfi (s:=(Lib.cut l [32]).2.1) (f:=W.outside) (W:=W) (P:=WV) h (fun p=>h.outside p) (fun p=>zdw W p)).1
 split
 ·exact h
 ·split
  ·exact h
  ·exact zuG h
section
variable {w w' w0 : World} {Y : RWorldA} {W : WorldS} {R : RBys} {m j : Nat} {ra : Option Addr} {rn rc : Nat} {ns : List Int} {p : PktS}
theorem znY (hm:m+1≤40000000) (hip:(W.inside p).1=0→(W.inside p).2.1.IP) (h:RStands w0 m j w Y W R):CallC Tryz.prog 21 #[.pointer (some ⟨Y.w,0,none⟩),.agg (zaY ⟨[105,110,115,105,100,101],ra,rn,rc,ns,p⟩).toArray] w (Said w0 (m+1) j w Y W R (if (W.inside p).1=0 then (W.inside p).2.1.text else zdO (W.inside p).1) (W.inside p).2.2):=by
 have hcode:=zd1 W p;refine zaa tabOk Tryz.func21 (by kernel_rfl) rfl Tryz.ntmps21 (lbO rfl) ?_;have hS:=St.start w No;(conv=>whnf);refine hS.newX (hS.ref No) (fun b3 w1 hb3 _ _ hS=>?_);replace hS:St w No w1 [blk b3 49 (zaY ⟨[105,110,115,105,100,101],_,_,_,_,_⟩)]:=hS;(conv=>whnf);refine hS.ld 0 rfl rfl ?_;(conv=>whnf)
 iterate 8 (refine zbt ?_;(conv=>whnf))
 refine hS.la 0 rfl (l:=zao p) rfl rfl ?_;(conv=>whnf);refine hS.ld 0 rfl rfl ?_;(conv=>whnf);refine zbt (b:=[105,110,115,105,100,101]) ?_;(conv=>whnf);refine (zlO p (h.no hS.ext) hm).mono ?_;rintro v w2 ⟨rfl,hk⟩;have hk1:=hk.after h hS.ext;generalize W.inside p=Q at hcode hip hk1 ⊢;obtain ⟨e,y,W'⟩:=Q;dsimp only at hcode hip hk1 ⊢;have hS2:=St.start w2 No;(conv=>whnf);refine hS2.new (fun b5 w3 hb5 hS=>?_);(conv=>whnf);refine hS.st 0 rfl (lbO rfl) rfl (fun w4 hS=>?_);replace hS:St w2 No w4 [blk b5 41 (zao y)]:=hS;(conv=>whnf);refine brD (fun h5=>?_) (fun h5=>?_)
 ·rw [if_neg (by omega)];(conv=>whnf);refine (zbw e (by omega) hcode _).mono ?_;rintro v w5 ⟨rfl,hx⟩;replace hS:=hS.no hx;repeat' ((conv=>whnf);first|apply RetC.mk|refine rgO ?_|refine ixO ?_|(first|apply brD|apply zad|apply brN|apply brI)<;>(intro))
  exact ⟨rfl,hk1.later hS.ext⟩
 ·have he:e=0:=by omega
  rw [if_pos he];(conv=>whnf);refine hS.laX 0 rfl rfl ?_;(conv=>whnf);refine (zdu y (hip he) _).mono ?_;rintro v w5 ⟨rfl,hx⟩;replace hS:=hS.no hx;repeat' ((conv=>whnf);first|apply RetC.mk|refine rgO ?_|refine ixO ?_|(first|apply brD|apply zad|apply brN|apply brI)<;>(intro))
  exact ⟨rfl,hk1.later hS.ext⟩
theorem zlP (hm:m+1≤40000000) (hip:(W.outside p).1=0→(W.outside p).2.1.IP) (h:RStands w0 m j w Y W R):CallC Tryz.prog 21 #[.pointer (some ⟨Y.w,0,none⟩),.agg (zaY ⟨[111,117,116,115,105,100,101],ra,rn,rc,ns,p⟩).toArray] w (Said w0 (m+1) j w Y W R (if (W.outside p).1=0 then (W.outside p).2.1.text else zdO (W.outside p).1) (W.outside p).2.2):=by
 have hcode:=zdw W p;refine zaa tabOk Tryz.func21 (by kernel_rfl) rfl Tryz.ntmps21 (lbO rfl) ?_;have hS:=St.start w No;(conv=>whnf);refine hS.newX (hS.ref No) (fun b3 w1 hb3 _ _ hS=>?_);replace hS:St w No w1 [blk b3 49 (zaY ⟨[111,117,116,115,105,100,101],_,_,_,_,_⟩)]:=hS;(conv=>whnf);refine hS.ld 0 rfl rfl ?_;(conv=>whnf)
 iterate 9 (refine zbt ?_;(conv=>whnf))
 refine hS.la 0 rfl (l:=zao p) rfl rfl ?_;(conv=>whnf);refine hS.ld 0 rfl rfl ?_;(conv=>whnf);refine zbt (b:=[105,110,115,105,100,101]) ?_;(conv=>whnf);refine (zkg p (h.no hS.ext) hm).mono ?_;rintro v w2 ⟨rfl,hk⟩;have hk1:=hk.after h hS.ext;generalize W.outside p=Q at hcode hip hk1 ⊢;obtain ⟨e,y,W'⟩:=Q;dsimp only at hcode hip hk1 ⊢;have hS2:=St.start w2 No;(conv=>whnf);refine hS2.new (fun b5 w3 hb5 hS=>?_);(conv=>whnf);refine hS.st 0 rfl (lbO rfl) rfl (fun w4 hS=>?_);replace hS:St w2 No w4 [blk b5 41 (zao y)]:=hS;(conv=>whnf);refine brD (fun h5=>?_) (fun h5=>?_)
 ·rw [if_neg (by omega)];(conv=>whnf);refine (zbw e (by omega) hcode _).mono ?_;rintro v w5 ⟨rfl,hx⟩;replace hS:=hS.no hx;repeat' ((conv=>whnf);first|apply RetC.mk|refine rgO ?_|refine ixO ?_|(first|apply brD|apply zad|apply brN|apply brI)<;>(intro))
  exact ⟨rfl,hk1.later hS.ext⟩
 ·have he:e=0:=by omega
  rw [if_pos he];(conv=>whnf);refine hS.laX 0 rfl rfl ?_;(conv=>whnf);refine (zdu y (hip he) _).mono ?_;rintro v w5 ⟨rfl,hx⟩;replace hS:=hS.no hx;repeat' ((conv=>whnf);first|apply RetC.mk|refine rgO ?_|refine ixO ?_|(first|apply brD|apply zad|apply brN|apply brI)<;>(intro))
  exact ⟨rfl,hk1.later hS.ext⟩
end
section
variable {w w' w0 : World} {Y : RWorldA} {W : WorldS} {R : RBys} {m j : Nat}
theorem zhn {f:List UInt8}{ns:List Int}(h:Fit f ns) {i:Nat}{c:UInt8}(hc:f[i]?=some c):0≤at0 ns i∧(c=115→at0 ns i=0∨at0 ns i=1):=by
 have hlt:i < ns.length:=by rw [h.1];exact (List.getElem?_eq_some_iff.1 hc).1
 have hn:=List.getElem?_eq_getElem hlt;obtain ⟨h1,_,h3⟩:=h.2 i c _ hc hn;rw [zbi hn];exact ⟨h1,fun e=>by have:=h3 e;omega⟩
theorem Said.to {t t':List UInt8}{m' j':Nat}{W1 W2:WorldS}{v:Value}(h:Said w0 m' j' w Y W R t W1 v w') (ht:t=t') (hw:W1=W2) {m2 j2:Nat}(hm:m'≤m2) (hj:j'≤j2):Said w0 m2 j2 w Y W R t' W2 v w':=by
 subst ht hw;exact ⟨h.1,h.2.up hm hj⟩
theorem zlZ {s t:List UInt8}{f:PktS→Nat × PktS × WorldS}{p:PktS}(h:playS s W=carryS t f W) (ht:t=p.text) (he:p.err=0) (hr:(f p).1=0→(f p).2.1.err=0):tellS s W=(if (f p).1=0 then (f p).2.1.text else zdO (f p).1,(f p).2.2):=by
 subst ht;unfold tellS;rw [h];by_cases hc:(f p).1=0
 ·have hy:=hr hc;rw [zei (zeM he) hc,if_pos hc];dsimp only;rw [if_pos hy,if_pos hy]
 ·rw [zg7 (zeM he) hc,if_neg hc];dsimp only;rw [if_neg hc]
theorem zjE {x:LineV}{s:List UInt8}(hs:lineS x=some s) (hns:Slc w0 1 zcw (fun v=>I64 v) x.ra x.rn x.ns) (h:RStands w0 m j w Y W R) (hE:EpW W) (hV:WV W) (hm:m+(34 * zaT s+1)≤40000000) (hj:j+(18 * zaT s+18)≤50000000) :
  CallC Tryz.prog 21 #[.pointer (some ⟨Y.w,0,none⟩),.agg (zaY x).toArray] w (Said w0 (m+(34 * zaT s+1)) (j+(18 * zaT s+18)) w Y W R (tellS s W).1 (tellS s W).2):=by
 have hrl:=hns.len;rcases zgO hs with hp | ⟨d,hw,hd,hi,ho⟩
 ·obtain ⟨_,he,h1,h2,_⟩:=zjo hs hp;obtain ⟨word,ra,rn,rc,ns,p⟩:=x;dsimp only at hp he h1 h2 hns;rcases hp with rfl|rfl
  ·have ht:=zlZ (zlz (W:=W) h1) h2 he (fun h0=>ze7 hV h.ok he h0);rw [ht];exact (znY (by omega) (fun h0=>zmB (ze7 hV h.ok he h0)) h).mono fun v w' hv=>Said.to hv rfl rfl (by omega) (by omega)
  ·have ht:=zlZ (zmM (W:=W) (by rw [h1];decide) h1) h2 he (fun h0=>zeA hV h.ok he h0);rw [ht];exact (zlP (by omega) (fun h0=>zmB (zeA hV h.ok he h0)) h).mono fun v w' hv=>Said.to hv rfl rfl (by omega) (by omega)
 ·obtain ⟨_,hfit,hcut,h1,hnum⟩:=zjd hs hw hd hi ho
  have hh:zcf ((zbg 32 s).headD [])=some d:=by
   rw [hcut,← hd,hw];rfl
  have ht:=zfy (W:=W) (by rw [h1,← hw];exact hi) (by rw [h1,← hw];exact ho) hh hnum;have htk:=zjc hh hnum;rw [ht];obtain ⟨word,ra,rn,rc,ns,p⟩:=x;dsimp only at hw hns hfit hrl htk ⊢;subst hw;have hfl:=hfit.1;cases d with
  | tick =>
   have hrn:rn=2:=hrl.symm.trans hfl;have htk:=htk rfl;exact (zrE hns hrn (zhn hfit (i:=1) (c:=110) rfl).1 h (by omega) (by omega)).mono fun v w' hv=>Said.to hv rfl rfl (by omega) (by omega)
  | cut =>
   have hrn:rn=2:=hrl.symm.trans hfl;exact (zs2 hns hrn (zhn hfit (i:=1) (c:=110) rfl).1 h).mono fun v w' hv=>Said.to hv rfl rfl (by omega) (by omega)
  | go=>exact (zuD hns (hrl.symm.trans hfl) h).mono fun v w' hv=>Said.to hv rfl rfl (by omega) (by omega)
  | lose=>exact (zsb hns (hrl.symm.trans hfl) h).mono fun v w' hv=>Said.to hv rfl rfl (by omega) (by omega)
  | twice=>exact (zpe hns (hrl.symm.trans hfl) h).mono fun v w' hv=>Said.to hv rfl rfl (by omega) (by omega)
  | down=>exact (zrB hns (hrl.symm.trans hfl) h).mono fun v w' hv=>Said.to hv rfl rfl (by omega) (by omega)
  | up=>exact (zuQ hns (hrl.symm.trans hfl) h (by omega)).mono fun v w' hv=>Said.to hv rfl rfl (by omega) (by omega)
  | all=>exact (zsT h).mono fun v w' hv=>Said.to hv rfl rfl (by omega) (by omega)
  | fly=>exact (ztr h).mono fun v w' hv=>Said.to hv rfl rfl (by omega) (by omega)
  | switch=>exact (znt h hE).mono fun v w' hv=>Said.to hv rfl rfl (by omega) (by omega)
  | events=>exact (zno h hE).mono fun v w' hv=>Said.to hv rfl rfl (by omega) (by omega)
  | active=>exact (zm6 hns (hrl.symm.trans hfl) ((zhn hfit (i:=0) (c:=115) rfl).2 rfl) h).mono fun v w' hv=>Said.to hv rfl rfl (by omega) (by omega)
  | flows=>exact (zoF hns (hrl.symm.trans hfl) ((zhn hfit (i:=0) (c:=115) rfl).2 rfl) h).mono fun v w' hv=>Said.to hv rfl rfl (by omega) (by omega)
  | mirror=>exact (zm2 hns (hrl.symm.trans hfl) ((zhn hfit (i:=0) (c:=115) rfl).2 rfl) h).mono fun v w' hv=>Said.to hv rfl rfl (by omega) (by omega)
  | epoch=>exact (zqc hns (hrl.symm.trans hfl) ((zhn hfit (i:=0) (c:=115) rfl).2 rfl) h).mono fun v w' hv=>Said.to hv rfl rfl (by omega) (by omega)
  | life=>exact (zqI hns (hrl.symm.trans hfl) ((zhn hfit (i:=0) (c:=115) rfl).2 rfl) h).mono fun v w' hv=>Said.to hv rfl rfl (by omega) (by omega)
end
theorem zqv (l:List (List UInt8)) (s:List UInt8) (W:WorldS):runS (l++[s]) W=((runS l W).1++[(tellS s (runS l W).2).1],(tellS s (runS l W).2).2):=by
 rw [zjw];rfl
theorem zus:∀ (l:List (List UInt8)) {W:WorldS}{m:Nat},WOk m W→EpW W→WV W→m+zcn l≤40000000→WV (runS l W).2
 | [],_,_,_,_,h,_=>h
 | t::l,W,m,hO,hE,h,hm=>by
  have e:zcn (t::l)=(34 * zaT t+1)+zcn l:=rfl;rw [e] at hm;obtain ⟨h1,h2⟩:=zmx hO hE (show m+(34 * zaT t+1)≤40000000 by omega);exact zus l h1 h2 (zuo h hO) (by omega)
section
variable {E : Nat → Addr} {w : World}
set_option maxHeartbeats 4000000 in
theorem zhN (W:World) (B:Base E W) {ar:Option Addr}{nr cr:Nat}{rules:List RuleS}(hr:Slc W 5 zal (fun _=>True) ar nr rules) {a:Option Addr}{n c:Nat}{l:List LineV}(hx:Slc W 8 zaY (LineV.Ok W) a n l) :
  CallC Tryz.prog 5 #[.slice ar nr cr,.slice a n c] W fun v w'=>v = .bool true∧Ext No W w':=by
 have hl:=hx.len;obtain rfl:rules.length=nr:=hr.len;refine zaa tabOk Tryz.func5 (by kernel_rfl) rfl Tryz.ntmps5 (lbO rfl) ?_;have hS:=St.start W No;(conv=>whnf);refine (zqR B (Ext.refl _ _)).mono ?_;rintro v w1 ⟨rfl,hx1⟩;replace hS:=hS.no hx1;(conv=>whnf);refine brD (fun h1=>?_) (fun h1=>?_)
 ·repeat' ((conv=>whnf);first|apply RetC.mk|refine rgO ?_|refine ixO ?_|(first|apply brD|apply zad|apply brN|apply brI)<;>(intro))
  exact ⟨rfl,hS.ext⟩
 conv=>whnf
 refine brD (fun h2=>?_) (fun h2=>?_)
 ·repeat' ((conv=>whnf);first|apply RetC.mk|refine rgO ?_|refine ixO ?_|(first|apply brD|apply zad|apply brN|apply brI)<;>(intro))
  exact ⟨rfl,hS.ext⟩
 conv=>whnf
 refine (zjh (hr.no hS.ext)).mono ?_;rintro v w2 ⟨rfl,hx2⟩;replace hS:=hS.no hx2;(conv=>whnf);refine brD (fun h5=>?_) (fun h5=>?_)
 ·repeat' ((conv=>whnf);first|apply RetC.mk|refine rgO ?_|refine ixO ?_|(first|apply brD|apply zad|apply brN|apply brI)<;>(intro))
  exact ⟨rfl,hS.ext⟩
 have hg0:(za2 rules).1=0:=by omega
 have hgr:=fault_good.1 hg0;obtain ⟨_,_,hok0⟩:=WOk.born hgr;have hep0:=EpW.born rules;have hv0:=WV.born rules;(conv=>whnf);refine (zko (c:=cr) hr hg0 hS.ext).mono ?_;rintro v w3 ⟨Y,R,rfl,hx3,hst3,hf3⟩;replace hS:=hS.madeAll hx3 hst3.has hf3;replace hS:=((hS.rowFirst 9 1 zbe).rowFirst 9 1 zbe).as (H':=[zaf 9 1 zbe (.slice none 0 0) [],zaf 9 1 zbe (.slice none 0 0) []]++zaw Y (.born rules) R) rfl
 have hsc:∀ ls:List (List UInt8),ls.length≤60→scriptS (zbx rules) ls=((0,-1),(runS ls (.born rules)).1):=fun ls h=>by
  unfold scriptS;rw [if_neg (by omega),zeF hgr,if_neg (fun h=>h rfl)]
 generalize hbr:WorldS.born rules=Wb at hsc hS hst3 hok0 hep0 hv0;clear hf3 hx3;(conv=>whnf)
 refine zaL tabOk (fun σ w' q=>∃ (k tk jj:Nat) (a' b':Option Addr) (c' d':Nat) (Y':RWorldA) (R':RBys),σ=[(10,.int .i64 (k:Int)),(9,.int .i64 (tk:Int)),(8,.pointer (some ⟨Y.w,0,none⟩)),(7,.slice b' (linesS (l.take k)).length d'),(6,.slice a' (linesS (l.take k)).length c'),(1,.slice a n c),(0,.slice ar rules.length cr)]∧q=n - k∧k≤n∧tk≤1500∧zcn (linesS (l.take k))≤34 * tk+k∧jj≤18+18 * tk+18 * k∧(∀ t∈linesS (l.take k),t.length≤500)∧Y'.w=Y.w∧RStands W (zcn (linesS (l.take k))) jj w' Y' (runS (linesS (l.take k)) Wb).2 R'∧St W No w' ([zaf 9 1 zbe (.slice a' (linesS (l.take k)).length c') (linesS (l.take k)),zaf 9 1 zbe (.slice b' (linesS (l.take k)).length d') (runS (linesS (l.take k)) Wb).1]++zaw Y' (runS (linesS (l.take k)) Wb).2 R'))
  (σ':=[(10,.int .i64 ((0:Nat):Int)),(9,.int .i64 ((0:Nat):Int)),(8,.pointer (some ⟨Y.w,0,none⟩)),(7,.slice none 0 0),(6,.slice none 0 0),(1,.slice a n c),(0,.slice ar rules.length cr)]) (n:=n) ⟨rfl,rfl,rfl,rfl,rfl,rfl,rfl,trivial⟩ ⟨0,0,18,none,none,0,0,Y,R,rfl,rfl,Nat.zero_le _,Nat.zero_le _,Nat.zero_le _,Nat.le_refl _,(fun t ht=>by cases ht),rfl,hst3,hS⟩ ?_
 clear hS hst3;rintro _ w4 q ⟨k,tk,jj,a',b',c',d',Y',R',rfl,rfl,hk,htk,hcost,hjj,hlen,hY,hst,hS⟩;(conv=>whnf);refine brD (fun h6=>?_) (fun h6=>?_)
 ·obtain ⟨b0,o0,x,hat,hok,rfl,hb0,hc⟩:=hx.at (k:=k) (by omega);obtain ⟨word,ra,rn,rc,ns,p⟩:=x;obtain ⟨hnsl,hpI⟩:=hok;dsimp only at hnsl hpI;have hwz:=zaN word;have hnl:=hnsl.len;have hsp:=zlc hat;have hll:=zh6 (l.take k);rw [List.length_take] at hll;have hlk:k < l.length:=by omega
  (conv=>whnf);refine ixO ?_;(conv=>whnf);refine hS.ldr (hc.one 1 (v:=.slice ra rn rc) rfl) id ?_;(conv=>whnf);refine brD (fun h7=>?_) (fun h7=>?_)
  ·repeat' ((conv=>whnf);first|apply RetC.mk|refine rgO ?_|refine ixO ?_|(first|apply brD|apply zad|apply brN|apply brI)<;>(intro))
   exact ⟨rfl,hS.ext⟩
  (conv=>whnf);refine ixO ?_;(conv=>whnf);refine hS.ldr (hc.one 0 (v:=.string (bs word)) rfl) id ?_;(conv=>whnf);refine brD (fun h8=>?_) (fun h8=>?_)
  ·repeat' ((conv=>whnf);first|apply RetC.mk|refine rgO ?_|refine ixO ?_|(first|apply brD|apply zad|apply brN|apply brI)<;>(intro))
   exact ⟨rfl,hS.ext⟩
  have h60:word.length≤60:=by omega
  have h5n:rn≤5:=by omega
  (conv=>whnf);refine ixO ?_;(conv=>whnf);refine hS.lar (l:=zaY ⟨word,ra,rn,rc,ns,p⟩) rfl hc id ?_;(conv=>whnf);refine (zpA ⟨word,ra,rn,rc,ns,p⟩ (hnsl.no hS.ext) hpI h60 h5n).mono ?_;rintro v w5 ⟨⟨s,kb,rfl,hline⟩,hx5⟩;replace hS:=hS.no hx5;replace hst:=hst.no hx5;cases kb with
  | false =>
   rw [if_neg (by decide)] at hline;rw [hline,Option.toList_none,List.append_nil] at hsp;(conv=>whnf);refine rgO ?_;(conv=>whnf);refine LoopE.mk ⟨_,[(10,.int .i64 ((k+1:Nat):Int)),(9,.int .i64 (tk:Int)),(8,_),(7,.slice b' (linesS (l.take (k+1))).length d'),(6,.slice a' (linesS (l.take (k+1))).length c'),(1,_),(0,_)],?_,⟨rfl,rfl,rfl,by rw [hsp];rfl,by rw [hsp];rfl,rfl,rfl,trivial⟩,⟨k+1,tk,jj,a',b',c',d',Y',R',rfl,rfl,by omega,htk,by rw [hsp];omega,by omega,by rw [hsp];exact hlen,hY,by rw [hsp];exact hst,by rw [hsp];exact hS⟩⟩;omega
  | true =>
   rw [if_pos rfl] at hline;rw [hline] at hsp;replace hsp:linesS (l.take (k+1))=linesS (l.take k)++[s]:=hsp;have hs500:s.length≤500:=zo6 hline h60 (by dsimp only;omega) (fun n hn=>hnsl.good n hn) hpI;obtain ⟨ht0,ht1⟩:=zny hline;dsimp only at ht0 ht1;have hrs:=zqv (linesS (l.take k)) s Wb;rw [← hsp] at hrs;obtain ⟨hok1,hep1⟩:=zls (linesS (l.take k)) hok0 hep0 (by omega);have hv1:=zus (linesS (l.take k)) hok0 hep0 hv0 (by omega);have hrl:(runS (linesS (l.take k)) Wb).1.length=(linesS (l.take k)).length:=zfq _ _;have hcs:=zns hline (linesS (l.take k));rw [← hsp] at hcs
   have hlen2:∀ t∈linesS (l.take (k+1)),t.length≤500:=by
    rw [hsp];intro t ht;rcases List.mem_append.1 ht with ht|ht
    ·exact hlen t ht
    ·obtain rfl:=List.mem_singleton.1 ht;exact hs500
   have hll2:(linesS (l.take k)).length+1=(linesS (l.take (k+1))).length:=by rw [hsp,List.length_append];rfl
   (conv=>whnf);refine ixO ?_;(conv=>whnf);refine hS.ldr (hc.one 0 (v:=.string (bs word)) rfl) id ?_;(conv=>whnf);refine zbt (b:=zqh) ?_;(conv=>whnf);refine brD (fun h9=>?_) (fun h9=>?_)
   ·obtain ⟨ta,tb,hnse,_,htb,htc⟩:=ht1 h9;obtain ⟨bn,on,nv,hnk,hgn,rfl,_,hcn⟩:=hnsl.at (k:=1) (by rw [← hnl,hnse];exact Nat.lt_succ_self 1);have hrn2:rn=2:=by rw [← hnl,hnse];rfl
    obtain rfl:nv=(tb:Int):=by
     rw [hnse] at hnk;exact (Option.some.inj hnk).symm
    (conv=>whnf);refine ixO ?_;(conv=>whnf);refine hS.ldr (hc.one 1 (v:=.slice (some ⟨bn,on,none⟩) rn rc) rfl) id ?_;(conv=>whnf);refine ixO ?_;(conv=>whnf);refine hS.ldr (hcn.one 0 rfl) id ?_;(conv=>whnf);refine rgO ?_;(conv=>whnf);refine brD (fun h10=>?_) (fun h10=>?_)
    ·repeat' ((conv=>whnf);first|apply RetC.mk|refine rgO ?_|refine ixO ?_|(first|apply brD|apply zad|apply brN|apply brI)<;>(intro))
     exact ⟨rfl,hS.ext⟩
    rw [← hY];(conv=>whnf);refine ixO ?_;(conv=>whnf);refine hS.lar (l:=zaY ⟨word,(some ⟨bn,on,none⟩),rn,rc,ns,p⟩) rfl hc id ?_;(conv=>whnf);refine (zjE hline hnsl hst hep1 hv1 (by omega) (by omega)).mono ?_;rintro v w7 ⟨rfl,Y2,R2,hY2,hT,hst2⟩;replace hS:=St.callAt (A:=[_,_]) (B:=[]) (H:=zaw Y' (runS (linesS (l.take k)) Wb).2 R') (by simpa using hS) hT;rw [List.append_nil] at hS;rw [hY];rw [← hcs] at hst2;have hst3:RStands W (zcn (linesS (l.take (k+1)))) (jj+(18 * zaT s+18)) w7 Y2 (runS (linesS (l.take (k+1))) Wb).2 R2:=by rw [hrs];exact hst2
    clear hst2 hT;generalize hV2:(runS (linesS (l.take (k+1))) Wb).2=V2 at hst3;have hV2':(tellS s (runS (linesS (l.take k)) Wb).2).2=V2:=by rw [← hV2,hrs]
    rw [hV2'] at hS;generalize hwt:(tellS s (runS (linesS (l.take k)) Wb).2).1=wt at hrs ⊢;generalize hW1:(runS (linesS (l.take k)) Wb).1=W1 at hrs hrl hS;have hw2:(runS (linesS (l.take (k+1))) Wb).1=W1++[wt]:=by rw [hrs]
    replace hS:=hS.perm List.perm_append_comm;(conv=>whnf);refine hS.lit Tryz.underlying22 (sz:=1) (by kernel_rfl) (z:=.string (bs [])) (by kernel_rfl) rfl rfl (cs:=zbe s) (by rfl) (fun b9 w8 hb9 hS=>?_);replace hS:=(hS.perm List.perm_append_comm).as (H':=[blk b9 9 (zbe s)]++(zaw Y2 V2 R2++[zaf 9 1 zbe (.slice a' (linesS (l.take k)).length c') (linesS (l.take k)),zaf 9 1 zbe (.slice b' (linesS (l.take k)).length d') W1])) rfl;replace hS:=(hS.perm (List.Perm.append_left _ List.perm_append_comm)).as (H':=[blk b9 9 (zbe s)]++([zaf 9 1 zbe (.slice a' (linesS (l.take k)).length c') (linesS (l.take k)),zaf 9 1 zbe (.slice b' (linesS (l.take k)).length d') W1]++zaw Y2 V2 R2)) rfl;(conv=>whnf);refine hS.appS zfP 1 (ys:=[s]) (G:=fun _=>True) Tryz.underlying22 (bytes:=16) (by kernel_rfl) (z:=.string (bs [])) (by kernel_rfl) rfl rfl (Slc.of_blk zfP (hS.blk 0 rfl) rfl (by simp) (fun _ _=>trivial) rfl) (by unfold maxLen;omega) (by omega) (fun a2 c2 w9 hS=>?_);rw [hll2] at hS ⊢;replace hS:=(hS.as (H':=[_]++([zaf 9 1 zbe (.slice a2 (linesS (l.take (k+1))).length c2) (linesS (l.take (k+1))),zaf 9 1 zbe (.slice b' (linesS (l.take k)).length d') W1]++zaw Y2 V2 R2)) (by rw [hsp];rfl)).weaken (List.sublist_append_right _ _);replace hS:=hS.perm List.perm_append_comm;(conv=>whnf);refine hS.lit Tryz.underlying22 (sz:=1) (by kernel_rfl) (z:=.string (bs [])) (by kernel_rfl) rfl rfl (cs:=zbe wt) (by rfl) (fun b9 w8 hb9 hS=>?_);replace hS:=(hS.perm List.perm_append_comm).as (H':=[blk b9 9 (zbe wt)]++(zaw Y2 V2 R2++[zaf 9 1 zbe (.slice a2 (linesS (l.take (k+1))).length c2) (linesS (l.take (k+1))),zaf 9 1 zbe (.slice b' (linesS (l.take k)).length d') W1])) rfl;replace hS:=(hS.perm (List.Perm.append_left _ List.perm_append_comm)).as (H':=[blk b9 9 (zbe wt)]++([zaf 9 1 zbe (.slice a2 (linesS (l.take (k+1))).length c2) (linesS (l.take (k+1))),zaf 9 1 zbe (.slice b' (linesS (l.take k)).length d') W1]++zaw Y2 V2 R2)) rfl;(conv=>whnf);refine hS.appS zfP 2 (ys:=[wt]) (G:=fun _=>True) Tryz.underlying22 (bytes:=16) (by kernel_rfl) (z:=.string (bs [])) (by kernel_rfl) rfl rfl (Slc.of_blk zfP (hS.blk 0 rfl) rfl (by simp) (fun _ _=>trivial) rfl) (by rw [hrl];unfold maxLen;omega) (by rw [hrl];omega) (fun b2 d2 w10 hS=>?_);rw [hrl,hll2] at hS ⊢;replace hS:=(hS.as (H':=[_]++([zaf 9 1 zbe (.slice a2 (linesS (l.take (k+1))).length c2) (linesS (l.take (k+1))),zaf 9 1 zbe (.slice b2 (linesS (l.take (k+1))).length d2) (W1++[wt])]++zaw Y2 V2 R2)) rfl).weaken (List.sublist_append_right _ _)
    have hcost2:zcn (linesS (l.take (k+1)))≤34 * (tk+tb)+(k+1):=by
     rw [hcs];omega
    (conv=>whnf);refine rgO ?_;(conv=>whnf);refine LoopE.mk ⟨_,[(10,.int .i64 ((k+1:Nat):Int)),(9,.int .i64 ((tk+tb:Nat):Int)),(8,.pointer (some ⟨Y.w,0,none⟩)),(7,.slice b2 (linesS (l.take (k+1))).length d2),(6,.slice a2 (linesS (l.take (k+1))).length c2),(1,_),(0,_)],?_,⟨rfl,rfl,rfl,rfl,rfl,rfl,rfl,trivial⟩,⟨k+1,tk+tb,jj+(18 * zaT s+18),a2,b2,c2,d2,Y2,R2,rfl,rfl,by omega,by omega,hcost2,by omega,hlen2,hY2.trans hY,by rw [hV2];exact ⟨hS.has.right,hst3.ok,hS.ext,hst3.new,hst3.rules,hst3.a,hst3.b⟩,by rw [hV2,hw2];exact hS⟩⟩;omega
   ·have htc:=ht0 h9;rw [← hY];(conv=>whnf);refine ixO ?_;(conv=>whnf);refine hS.lar (l:=zaY ⟨word,ra,rn,rc,ns,p⟩) rfl hc id ?_;(conv=>whnf);refine (zjE hline hnsl hst hep1 hv1 (by omega) (by omega)).mono ?_;rintro v w7 ⟨rfl,Y2,R2,hY2,hT,hst2⟩;replace hS:=St.callAt (A:=[_,_]) (B:=[]) (H:=zaw Y' (runS (linesS (l.take k)) Wb).2 R') (by simpa using hS) hT;rw [List.append_nil] at hS;rw [hY];rw [← hcs] at hst2;have hst3:RStands W (zcn (linesS (l.take (k+1)))) (jj+(18 * zaT s+18)) w7 Y2 (runS (linesS (l.take (k+1))) Wb).2 R2:=by rw [hrs];exact hst2
    clear hst2 hT;generalize hV2:(runS (linesS (l.take (k+1))) Wb).2=V2 at hst3;have hV2':(tellS s (runS (linesS (l.take k)) Wb).2).2=V2:=by rw [← hV2,hrs]
    rw [hV2'] at hS;generalize hwt:(tellS s (runS (linesS (l.take k)) Wb).2).1=wt at hrs ⊢;generalize hW1:(runS (linesS (l.take k)) Wb).1=W1 at hrs hrl hS;have hw2:(runS (linesS (l.take (k+1))) Wb).1=W1++[wt]:=by rw [hrs]
    replace hS:=hS.perm List.perm_append_comm;(conv=>whnf);refine hS.lit Tryz.underlying22 (sz:=1) (by kernel_rfl) (z:=.string (bs [])) (by kernel_rfl) rfl rfl (cs:=zbe s) (by rfl) (fun b9 w8 hb9 hS=>?_);replace hS:=(hS.perm List.perm_append_comm).as (H':=[blk b9 9 (zbe s)]++(zaw Y2 V2 R2++[zaf 9 1 zbe (.slice a' (linesS (l.take k)).length c') (linesS (l.take k)),zaf 9 1 zbe (.slice b' (linesS (l.take k)).length d') W1])) rfl;replace hS:=(hS.perm (List.Perm.append_left _ List.perm_append_comm)).as (H':=[blk b9 9 (zbe s)]++([zaf 9 1 zbe (.slice a' (linesS (l.take k)).length c') (linesS (l.take k)),zaf 9 1 zbe (.slice b' (linesS (l.take k)).length d') W1]++zaw Y2 V2 R2)) rfl;(conv=>whnf);refine hS.appS zfP 1 (ys:=[s]) (G:=fun _=>True) Tryz.underlying22 (bytes:=16) (by kernel_rfl) (z:=.string (bs [])) (by kernel_rfl) rfl rfl (Slc.of_blk zfP (hS.blk 0 rfl) rfl (by simp) (fun _ _=>trivial) rfl) (by unfold maxLen;omega) (by omega) (fun a2 c2 w9 hS=>?_);rw [hll2] at hS ⊢;replace hS:=(hS.as (H':=[_]++([zaf 9 1 zbe (.slice a2 (linesS (l.take (k+1))).length c2) (linesS (l.take (k+1))),zaf 9 1 zbe (.slice b' (linesS (l.take k)).length d') W1]++zaw Y2 V2 R2)) (by rw [hsp];rfl)).weaken (List.sublist_append_right _ _);replace hS:=hS.perm List.perm_append_comm;(conv=>whnf);refine hS.lit Tryz.underlying22 (sz:=1) (by kernel_rfl) (z:=.string (bs [])) (by kernel_rfl) rfl rfl (cs:=zbe wt) (by rfl) (fun b9 w8 hb9 hS=>?_);replace hS:=(hS.perm List.perm_append_comm).as (H':=[blk b9 9 (zbe wt)]++(zaw Y2 V2 R2++[zaf 9 1 zbe (.slice a2 (linesS (l.take (k+1))).length c2) (linesS (l.take (k+1))),zaf 9 1 zbe (.slice b' (linesS (l.take k)).length d') W1])) rfl;replace hS:=(hS.perm (List.Perm.append_left _ List.perm_append_comm)).as (H':=[blk b9 9 (zbe wt)]++([zaf 9 1 zbe (.slice a2 (linesS (l.take (k+1))).length c2) (linesS (l.take (k+1))),zaf 9 1 zbe (.slice b' (linesS (l.take k)).length d') W1]++zaw Y2 V2 R2)) rfl;(conv=>whnf);refine hS.appS zfP 2 (ys:=[wt]) (G:=fun _=>True) Tryz.underlying22 (bytes:=16) (by kernel_rfl) (z:=.string (bs [])) (by kernel_rfl) rfl rfl (Slc.of_blk zfP (hS.blk 0 rfl) rfl (by simp) (fun _ _=>trivial) rfl) (by rw [hrl];unfold maxLen;omega) (by rw [hrl];omega) (fun b2 d2 w10 hS=>?_);rw [hrl,hll2] at hS ⊢;replace hS:=(hS.as (H':=[_]++([zaf 9 1 zbe (.slice a2 (linesS (l.take (k+1))).length c2) (linesS (l.take (k+1))),zaf 9 1 zbe (.slice b2 (linesS (l.take (k+1))).length d2) (W1++[wt])]++zaw Y2 V2 R2)) rfl).weaken (List.sublist_append_right _ _)
    have hcost2:zcn (linesS (l.take (k+1)))≤34 * (tk)+(k+1):=by
     rw [hcs];omega
    (conv=>whnf);refine rgO ?_;(conv=>whnf);refine LoopE.mk ⟨_,[(10,.int .i64 ((k+1:Nat):Int)),(9,.int .i64 ((tk:Nat):Int)),(8,.pointer (some ⟨Y.w,0,none⟩)),(7,.slice b2 (linesS (l.take (k+1))).length d2),(6,.slice a2 (linesS (l.take (k+1))).length c2),(1,_),(0,_)],?_,⟨rfl,rfl,rfl,rfl,rfl,rfl,rfl,trivial⟩,⟨k+1,tk,jj+(18 * zaT s+18),a2,b2,c2,d2,Y2,R2,rfl,rfl,by omega,by omega,hcost2,by omega,hlen2,hY2.trans hY,by rw [hV2];exact ⟨hS.has.right,hst3.ok,hS.ext,hst3.new,hst3.rules,hst3.a,hst3.b⟩,by rw [hV2,hw2];exact hS⟩⟩;omega
 obtain rfl:k=n:=by omega
 have htk2:l.take k=l:=List.take_of_length_le (by omega);rw [htk2] at hS hcost hlen ⊢;have hll:=zh6 l;generalize linesS l=LS at hS hcost hlen hll ⊢
 have htxt:(zbx rules).length≤100000:=by
  have h1:=zeT (l:=rules) fun r hr=>(zlB (hgr.2 r hr)).1
  have h2:=hgr.1;omega
 conv=>whnf
 refine (zjL (hr.no hS.ext) hgr).mono ?_;rintro v w5 ⟨rfl,hx5⟩;replace hS:=hS.no hx5;(conv=>whnf);refine (zpi B hS.ext (zbx rules) htxt (zap (G:=fun t=>t.length≤100000) zfP (hS.get 0 rfl) (fun t ht=>by have:=hlen t ht;omega)) (by omega)).mono ?_;rw [hsc LS (by omega)];rintro v w6 ⟨⟨a3,c3,e,rfl,hf,ho,hfr⟩,hx6⟩
 obtain rfl:e = .nilIface:=by
  rcases hf with ⟨_,h⟩ | ⟨_,h,_⟩
  ·exact h
  ·exact absurd h (Nat.lt_irrefl 0)
 dsimp only at ho hfr ⊢;rw [zfq] at ho hfr ⊢;replace hS:=hS.no hx6;have hz6:=zap (G:=fun _=>True) zfP ho (fun _ _=>trivial);have hz1:=zap (G:=fun _=>True) zfP (hS.get 1 rfl) (fun _ _=>trivial);(conv=>whnf);refine (zgh hz6 hz1).mono ?_;rintro v w7 ⟨rfl,hx7⟩;replace hS:=hS.no hx7;repeat' ((conv=>whnf);first|apply RetC.mk|refine rgO ?_|refine ixO ?_|(first|apply brD|apply zad|apply brN|apply brI)<;>(intro))
 exact ⟨by simp,hS.ext⟩
theorem scriptPlays_walk {E:Nat→Addr}(W:World) (args:List Value) (hE:Errs W E W.heap.size allErrs) (hh:Handle W) (ht:Pow10 W) (hP:Protos W) (hM:MaxL W) (hV:NumV W) (hN:NamesV W) (hT:∀ k,1≤k→k < 12→W.cell? ⟨(E k).block,(E k).off,(E k).spot⟩=some (.string (bs (zdO k)))) (ha:ArgsOk Tryz.prog W [28,45] args) :
  CallC Tryz.prog 5 args.toArray W fun v w'=>v = .bool true∧Ext No W w':=by
 obtain ⟨v0,args,rfl,h0,ha⟩:=ha.cons;obtain ⟨v1,args,rfl,h1,ha⟩:=ha.cons;obtain rfl:=ha.nil;obtain ⟨a0,n0,c0,rules,rfl,hr,_⟩:=zjV (d:=10) (sz:=5) Tryz.underlying28 (by kernel_rfl) (by decide) (zpG (Nat.le_refl _)) h0;obtain ⟨a1,n1,c1,l,rfl,hx,_⟩:=zjV (d:=12) (sz:=8) Tryz.underlying45 (by kernel_rfl) (by decide) (zq9 (c:=10) (d:=11) (Nat.le_refl _) rfl rfl) h1;exact zhN W ⟨hE,hh,ht,hP,hM,hV,hN,hT⟩ hr hx
end
end Go.Proofs.YtogjajjdaoihdaaGreatDoor
