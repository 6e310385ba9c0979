/-
  Texts of this claim, joined: RWorldE, RWorldF, RPlay, RPlayB, RPlayC, NodeM, AsW, StepW, PolicyS, PutS, ApartS, Leave.
-/
import Derived.Test.YtogjajjdaoihdaaGreatDoorScriptPlaysG
import Derived.Leaving
import Derived.Conc.Holds
import Derived.SevenTiedAt

namespace Go.Proofs.YtogjajjdaoihdaaGreatDoor
set_option maxRecDepth 20000
open Go Ev
def zhY (e f:Ent):Ent:=⟨e.foot++f.foot,fun w=>e.holds w∧f.holds w⟩
theorem zhv {e f:Ent}(h:e.Local) (g:f.Local):(zhY e f).Local:=fun w w' hb hh=>⟨h w w' (fun b hb'=>hb b (List.mem_append_left _ hb')) hh.1,g w w' (fun b hb'=>hb b (List.mem_append_right _ hb')) hh.2⟩
section
variable {w w' w0 : World} {Y : RWorldA} {W : WorldS} {R : RBys} {m j : Nat}
def RWorldA.with (Y:RWorldA) (la:Option Addr) (lc:Nat) (vs:List NoteV) (ea:Option Addr) (ec:Nat):RWorldA:={ Y with la:=la,lc:=lc,vs:=vs,ea:=ea,ec:=ec }
theorem zj6 {F l:List NoteS}{k:Nat}(hF:F.length≤200) (h:¬ (zez F l k).length < 200∨k=l.length):zez F l k=F++l.take (200 - F.length):=by
 rcases h with h|h
 ·unfold zez at h ⊢;rw [List.length_append,List.length_take,List.length_take] at h;rw [List.take_take,Nat.min_eq_left (by omega)]
 ·exact zfm h
abbrev ziG (x:Option Addr) (y:Nat) (l:List NoteS):Ent:=zaf 209 10 zac (.slice x (zaH l).length y) (zaH l)
abbrev zkZ (Y:RWorldA) (W:WorldS) (np bp:List (Option Addr)) (A:RNodeA) (N:NodeS) (B:RBy) (a:Option Addr) (c:Nat) (x:Option Addr) (y:Nat) (l:List NoteS):List Ent :=
 [blk Y.w 83 (ztE Y W),zaf 111 1 zgw (.slice Y.na 2 Y.nc) np,zaf 109 1 zgw (.slice Y.ba 2 Y.bc) bp,zaf 200 5 zae (.slice Y.la W.fly.length Y.lc) Y.vs,zhY (zat Y.vs W.fly) (ziG x y l),zaf 156 2 zbG (.slice Y.ea W.events.length Y.ec) W.events]++(zan A N B++[zaf 200 5 zae (.slice a (l.map (za8 x y)).length c) (l.map (za8 x y))])
def zvw (Y:RWorldA) (W:WorldS):Nat→Prop:=fun d=>d∈(zaf 200 5 zae (.slice Y.la W.fly.length Y.lc) Y.vs).foot
def zvu (Y:RWorldA) (W:WorldS):Nat→Prop:=fun d=>d∈(zaf 156 2 zbG (.slice Y.ea W.events.length Y.ec) W.events).foot
set_option maxHeartbeats 4000000 in
set_option maxRecDepth 10000 in
theorem zfC {S:Nat→Prop}{w5:World}{np bp:List (Option Addr)}{A:RNodeA}{N:NodeS}{B:RBy}{a x ea:Option Addr}{c y ec ll:Nat}{l:List NoteS}{ev:List (Int × Int)}{σ:zar}{Q:Exit→zar→World→Prop}
  (hs:Sub [(10,.int .i64 ((0:Nat):Int)),(8,.slice a ll c),(0,.pointer (some ⟨Y.w,0,none⟩))] σ)
  (hS:St w S w5 (zkZ (Y.with Y.la Y.lc Y.vs ea ec) (W.with W.fly ev) np bp A N B a c x y l)) (hflen:W.fly.length≤200) (hshort:l.length≤2) (hll:(l.map (za8 x y)).length=ll) (hnl:ll=l.length)
  (hcell:∀ n∈l,(n.claim=true∧n.cells=[])∨(n.claim=false∧n.cells=zaH l))
  (hQ:∀ σ w6,(∃ la lc vs,St w S w6 (zkZ (Y.with la lc vs ea ec) (W.with (W.fly++l.take (200 - W.fly.length)) ev) np bp A N B a c x y l))→Q (.exit 0) σ w6) :
  LoopC Tryz.prog tab 123 (zse Tryz.f97 0) Q σ w5:=by
 refine zaL tabOk (fun σ w' q=>∃ (k:Nat) (la:Option Addr) (lc:Nat) (vs:List NoteV),σ=[(10,.int .i64 k),(8,.slice a ll c),(0,.pointer (some ⟨Y.w,0,none⟩))]∧q=ll - k∧k≤ll∧St w S w' (zkZ (Y.with la lc vs ea ec) (W.with (zez W.fly l k) ev) np bp A N B a c x y l))
  (σ':=[(10,.int .i64 ((0:Nat):Int)),(8,.slice a ll c),(0,.pointer (some ⟨Y.w,0,none⟩))]) (n:=ll) hs ⟨0,Y.la,Y.lc,Y.vs,rfl,rfl,Nat.zero_le _,by rw [zjQ];exact hS⟩ ?_
 clear hS;rintro _ w5 q' ⟨k,la,lc,vs,rfl,rfl,hk,hS⟩;have hfl:=zok (l:=l) (k:=k) hflen;(conv=>whnf);refine brD (fun h3=>?_) (fun h3=>?_)
 ·have hk3:k < l.length:=by omega
  obtain ⟨z,hz⟩:∃ z,l[k]?=some z:=⟨_,List.getElem?_eq_getElem hk3⟩;have hzm:=List.mem_of_getElem? hz;have hxk:(l.map (za8 x y))[k]?=some (za8 x y z):=by rw [List.getElem?_map,hz];rfl
  obtain ⟨g,o,hga⟩:∃ g o,a=some ⟨g,o,none⟩:=by
   obtain ⟨b0,o0,h1,_⟩:=(zap (G:=fun _=>True) zak (hS.get 13 rfl) (fun _ _=>trivial)).cells k _ hxk;exact ⟨b0,o0,h1⟩
  subst hga;have hboth:(zhY (zat vs (zez W.fly l k)) (ziG x y l)).holds w5:=hS.get 4 rfl;have hvl:vs.length=(zez W.fly l k).length:=hboth.1.1;(conv=>whnf);refine hS.ld 0 rfl rfl ?_;(conv=>whnf);refine brD (fun h4=>?_) (fun h4=>?_)
  ·have hmore:=zjT hz (Int.ofNat_lt.1 h4);have hr0:=hS.apartAt 0 3 rfl rfl (by decide) _ (List.mem_singleton.2 rfl);have hr1:g ∉ (zaf 200 5 zae (.slice la (zez W.fly l k).length lc) vs).foot:=hS.apartAt 13 3 rfl rfl (by decide) g (za5 rfl);(conv=>whnf)
   (refine zah tabOk mixed [] (zvw (Y.with la lc vs ea ec) (W.with (zez W.fly l k) ev)) [0,1,2,3,4,5,6,7,8,9,10] (by kernel_rfl) ?_;rintro w1 rfl;replace hS:=hS.drew)
   have hK:=hS.ref (zvw (Y.with la lc vs ea ec) (W.with (zez W.fly l k) ev));(conv=>whnf);refine hS.ldF 0 rfl rfl hr0 ?_;(conv=>whnf);refine ixO ?_;(conv=>whnf);refine hS.ldRowF zak 13 (by rfl) hxk rfl hr1 ?_;(conv=>whnf);refine hS.litX Tryz.underlying81 (sz:=5) (by kernel_rfl) (z:=.agg (zae zcx).toArray) (by kernel_rfl) rfl rfl (cs:=zae (za8 x y z)) (by rfl) (fun b9 w3 hb9 hx hS=>?_);replace hK:=hK.trans hx.of_no;clear hx;refine KeepC.mk hK ?_;(conv=>whnf);refine hS.appX zak 3 (ys:=[za8 x y z]) (G:=fun _=>True) Tryz.underlying81 (bytes:=56) (by kernel_rfl) (z:=.agg (zae zcx).toArray) (by kernel_rfl) rfl rfl (Slc.of_blk zak (hS.blk 14 rfl) rfl (by simp) (fun _ _=>trivial) rfl) (by show vs.length+1≤_;rw [hvl];unfold maxLen;omega) (by show (vs.length+1) * 56≤_;rw [hvl];omega) (fun la2 lc2 w9 hx hS=>?_);replace hK:=hK.trans (hx.mono fun d hd=>za5 hd);clear hx;refine KeepC.mk hK ?_;clear hK;(conv=>whnf);refine hS.st 0 rfl (by exact Nat.le_of_ble_eq_true rfl) rfl (fun w10 hS=>?_);(conv=>whnf);refine rgO ?_;have hb2:(zhY (zat vs (zez W.fly l k)) (ziG x y l)).holds w10:=hS.get 4 rfl;obtain ⟨hzi,hzs⟩:=zmy hcell (zap (G:=fun _=>True) zau hb2.2 (fun _ _=>trivial)) hzm
   have hj:=(hS.upd 4 rfl (e':=zhY (zat (vs++[za8 x y z]) (zez W.fly l k++[z])) (ziG x y l)) (T:=No) (Ext.refl _ _) (fun _ h=>h.elim) (zhv zaJ zaj) ⟨zel hb2.1 (zf3 hzi hzs),hb2.2⟩ (fun b hb=>.inl (by
    rcases List.mem_append.1 hb with hb|hb
    ·obtain ⟨u,hu,hb⟩:=cellsE_foot.1 hb;rcases List.mem_append.1 hu with hu|hu
     ·exact List.mem_append_left _ (cellsE_foot.2 ⟨u,hu,hb⟩)
     ·obtain rfl:=List.mem_singleton.1 hu;refine List.mem_append_right _ ?_;have h5:=zhh hb;rcases hcell z hzm with ⟨h6,h7⟩ | ⟨h6,h7⟩
      ·have:(za8 x y z).n=0:=by show z.cells.length=0;rw [h7];rfl
       unfold zjD at hb;rw [if_pos this] at hb;cases hb
      ·have e:(za8 x y z).a=x:=by show (if z.claim=true then none else x)=x;rw [h6];rfl
       rw [e] at h5;refine za5 ?_;cases x with
       | none=>simp [Value.ownBlock] at h5
       | some x=>simpa [Value.ownBlock] using h5
    ·exact List.mem_append_right _ hb))).keep 14
   (conv=>whnf);refine LoopE.mk ⟨_,[(10,.int .i64 ((k+1:Nat):Int)),(8,_),(0,_)],?_,⟨rfl,rfl,rfl,trivial⟩,⟨k+1,la2,lc2,vs++[za8 x y z],rfl,rfl,by omega,?_⟩⟩
   ·omega
   ·rw [hmore];have hl1:(Y.with la lc vs ea ec).vs.length+1=(zez W.fly l k++[z]).length:=by rw [List.length_append,← hvl];rfl
    rw [hl1] at hj;exact hj
  ·have hstop:=zj6 (l:=l) (k:=k) hflen (.inl fun h=>h4 (Int.ofNat_lt.2 h));rw [hstop] at hS;(conv=>whnf);exact hQ _ _ ⟨la,lc,vs,hS⟩
 ·have hstop:=zj6 (l:=l) (k:=k) hflen (.inr (by omega));rw [hstop] at hS;(conv=>whnf);exact hQ _ _ ⟨la,lc,vs,hS⟩
theorem zn8 (N:NodeS) (B:BytS):(N.tick B).2.2.1.rules=N.rules:=by
 have h1:∀ (M:NodeS) (c:Bool),(M.notes c).2.rules=M.rules:=fun M c=>by
  unfold NodeS.notes;dsimp only;split<;>rfl
 have h2:(N.step.2.claim B).2.1.rules=N.rules:=by
  unfold NodeS.claim;repeat' split
  all_goals rfl
 unfold NodeS.tick;split
 ·rfl
 split
 ·split
  ·exact h2
  ·exact (h1 _ (N.step.2.claim B).1.1).trans h2
 ·exact h1 N.step.2 false
theorem znQ {n:Int}(hn:n=0∨n=1) (s:SideS) (B:RBy) (f:List NoteS) (e:List (Int × Int)) (la:Option Addr) (lc:Nat) (vs:List NoteV) (ea:Option Addr) (ec:Nat) :
  zaR (Y.with la lc vs ea ec) ((W.setSide n s).with f e) (R.setSide n B) n=zcb (Y.with la lc vs ea ec) (W.with f e) (two n (zaK (Y.side n) s) (zaK (Y.side (1 - n)) (W.side (1 - n)))) (two n (byP (Y.side n)) (byP (Y.side (1 - n))))++zb7 (Y.side n) s B:=by
 rcases hn with rfl|rfl<;>rfl
theorem RDoes.with (h:RStands w0 m j w Y W R) {n:Int}(hn:n=0∨n=1) {s:SideS}{B:RBy}{m' j':Nat}{f:List NoteS}{e:List (Int × Int)}{la:Option Addr}{lc:Nat}{vs:List NoteV}{ea:Option Addr}{ec:Nat}(k:Turns w w' (zaR Y W R n) (zcb (Y.with la lc vs ea ec) (W.with f e) (two n (zaK (Y.side n) s) (zaK (Y.side (1 - n)) (W.side (1 - n)))) (two n (byP (Y.side n)) (byP (Y.side (1 - n))))++zb7 (Y.side n) s B)) (ok:WOk m' ((W.setSide n s).with f e)) (hj:j≤j') (hs:RSide w0 j' (Y.side n) s B):RDoes w0 m' j' w Y W R ((W.setSide n s).with f e) w':=by
 rw [← znQ hn s B f e] at k;have hk:=RTurns.world hn h.has k rfl (zkQ hn s f e) (zhA (Y:=Y) (R:=R) hn (Y.side n) s B).2.2.2;refine ⟨Y.with la lc vs ea ec,R.setSide n B,rfl,hk,?_⟩;rcases hn with rfl|rfl
 ·exact h.turns hk ok h.rules hs (h.b.le hj)
 ·exact h.turns hk ok h.rules (h.a.le hj) hs
set_option maxHeartbeats 4000000 in
set_option maxRecDepth 10000 in
theorem zqa (n:Int) (h:RStands w0 m j w Y W R) (hm:m+34≤40000000) (hj:j≤50000000):CallC Tryz.prog 97 #[.pointer (some ⟨Y.w,0,none⟩),.int .i64 n] w fun v w'=>v = .int .i64 ((W.tick n).1:Nat)∧RDoes w0 (m+34) (j+18) w Y W R (W.tick n).2 w':=by
 refine zaa tabOk Tryz.func97 (by kernel_rfl) rfl Tryz.ntmps97 (lbO rfl) ?_;(conv=>whnf);refine (zfe n h).mono ?_;rintro v w1 ⟨rfl,rfl⟩;by_cases hn:n=0∨n=1
 case neg =>
  rw [show W.tick n=(2,W) from if_pos (by omega),show W.upErr n=2 from if_pos (by omega)];repeat' ((conv=>whnf);first|apply RetC.mk|refine rgO ?_|refine ixO ?_|(first|apply brD|apply zad|apply brN|apply brI)<;>(intro))
  exact ⟨rfl,RDoes.same h (Nat.le_add_right _ _) (Nat.le_add_right _ _) (Ext.refl _ _)⟩
 cases hN:(W.side n).node with
 | none =>
  rw [show W.tick n=(7,W) by unfold WorldS.tick;rw [if_neg (by omega),hN],zbC hn hN];repeat' ((conv=>whnf);first|apply RetC.mk|refine rgO ?_|refine ixO ?_|(first|apply brD|apply zad|apply brN|apply brI)<;>(intro))
  exact ⟨rfl,RDoes.same h (Nat.le_add_right _ _) (Nat.le_add_right _ _) (Ext.refl _ _)⟩
 | some N =>
  have hok:=h.ok.tick (by omega) n;have hwt:W.tick n=W.ticked n N (N.tick (W.side n).byt):=by unfold WorldS.tick;rw [if_neg (by omega),hN]
  rw [hwt] at hok ⊢;rw [zbr hn hN];have hsd:=h.side hn;have hnk:=((h.ok.side hn).node N hN).1;have hBk:=(h.ok.side hn).bok;have hflen:=h.ok.fly;have hevl:=h.ok.events;have hshort:=zio N (W.side n).byt;have hcell:=zil N (W.side n).byt;have hrls:=zn8 N (W.side n).byt;have hrl:=hsd.rules N hN;have hal:=hsd.alike;have hrok:=hsd.rok;clear hsd;have hS:=(h.half hn).start;have hU:∀ {w'} {s:SideS} {B:RBy},WOk (m+34) (W.setSide n s)→RSide w0 (j+18) (Y.side n) s B→St w (inF (zaR Y W R n)) w' (zcb Y W (two n (zaK (Y.side n) s) (zaK (Y.side (1 - n)) (W.side (1 - n)))) (two n (byP (Y.side n)) (byP (Y.side (1 - n))))++zb7 (Y.side n) s B)→RDoes w0 (m+34) (j+18) w Y W R (W.setSide n s) w':=fun ok hs k=>RDoes.set h hn (St.turns k) ok (Nat.le_add_right _ _) hs
  have hU2:∀ {w'} {s:SideS} {B:RBy} {f:List NoteS} {e:List (Int × Int)} {la:Option Addr} {lc:Nat} {vs:List NoteV} {ea:Option Addr} {ec:Nat},WOk (m+34) ((W.setSide n s).with f e)→RSide w0 (j+18) (Y.side n) s B→St w (inF (zaR Y W R n)) w' (zcb (Y.with la lc vs ea ec) (W.with f e) (two n (zaK (Y.side n) s) (zaK (Y.side (1 - n)) (W.side (1 - n)))) (two n (byP (Y.side n)) (byP (Y.side (1 - n))))++zb7 (Y.side n) s B)→RDoes w0 (m+34) (j+18) w Y W R ((W.setSide n s).with f e) w':=fun ok hs k=>RDoes.with h hn (St.turns k) ok (Nat.le_add_right _ _) hs
  generalize hSS:inF (zaR Y W R n)=S at hS hU hU2;rw [zbB hN] at hS;clear hSS hwt;obtain ⟨gn,hgn⟩:=za1 (hS.get 1 rfl);obtain ⟨gb,hgb⟩:=za1 (hS.get 2 rfl);generalize (W.side n).byt=B at *;generalize hqq:zaK (Y.side (1 - n)) (W.side (1 - n))=pq at *;generalize hbq:byP (Y.side (1 - n))=bq at *;(conv=>whnf);refine hS.ld 0 rfl (v:=.slice (some ⟨gn,0,none⟩) 2 Y.nc) (by rw [← hgn];rfl) ?_;(conv=>whnf);refine ixO ?_;(conv=>whnf);refine hS.ldTwo 1 hn (by rw [← hgn];rfl) rfl ?_;(conv=>whnf);refine hS.ld 6 rfl rfl ?_;(conv=>whnf);refine hS.ld 7 rfl rfl ?_;(conv=>whnf);have hw3:Has _ (zan (Y.side n) N (R.side n)):=Has.right (A:=[_,_,_,_,_,_]) hS.has;refine (zq1 hw3 hnk hBk hal hrok hj hm).mono ?_;rintro v w3 ⟨a,c,x,y,R',rfl,hAl,hRk,hk⟩;replace hS:=St.callAt (A:=[_,_,_,_,_,_]) (B:=[]) hS hk;clear hk hw3;generalize N.tick B=T at *;obtain ⟨e,l,N',B'⟩:=T;dsimp only at hAl hRk hshort hcell hrls hok hS ⊢;have hnl:(l.map (za8 x y)).length=l.length:=List.length_map _;replace hS:St w S w3 (zcb Y W (two n (some ⟨(Y.side n).n,0,none⟩) pq) (two n (byP (Y.side n)) bq)++(zan (Y.side n) N' R'++zf7 a c x y l)):=hS;generalize hll:(l.map (za8 x y)).length=ll at hnl;have hoffE:=hAl.off
  have hpl:W.ticked n N (e,l,N',B')=if B'.off=true then (e,W.setSide n ⟨none,B'⟩) else if e≠0 then (e,W.setSide n ⟨some N',B'⟩) else
   (0,(W.setSide n ⟨some N',B'⟩).with (W.fly++l.take (200 - W.fly.length)) (if N.role.active=false∧N'.role.active=true∧W.events.length < 1000 then W.events++[(n,N'.role.epoch)] else W.events)):=rfl
  rw [hpl] at hok ⊢;clear hpl
  have hside:RSide w0 (j+18) (Y.side n) ⟨some N',B'⟩ R':=⟨hAl,hRk,fun M hM=>by
   obtain rfl:=Option.some.inj hM;rw [hrls];exact hrl⟩
  (conv=>whnf);refine hS.ld 0 rfl (v:=.slice (some ⟨gb,0,none⟩) 2 Y.bc) (by rw [← hgb];rfl) ?_;(conv=>whnf);refine ixO ?_;(conv=>whnf);refine hS.ldTwo 2 hn (by rw [← hgb];rfl) rfl ?_;(conv=>whnf);refine hS.ld 12 rfl (v:=.bool B'.off) (by rw [← hoffE];rfl) ?_;cases hoff:B'.off
  case true =>
   rw [hoff,if_pos rfl] at hok;rw [if_pos rfl];(conv=>whnf);refine hS.ld 0 rfl (v:=.slice (some ⟨gn,0,none⟩) 2 Y.nc) (by rw [← hgn];rfl) ?_;(conv=>whnf);refine ixO ?_;(conv=>whnf);refine hS.stTwo (r:=none) 1 hn (by rw [← hgn];rfl) (by omega) (fun w4 hS=>?_);repeat' ((conv=>whnf);first|apply RetC.mk|refine rgO ?_|refine ixO ?_|(first|apply brD|apply zad|apply brN|apply brI)<;>(intro))
   refine ⟨rfl,hU (s:=⟨none,B'⟩) (B:=R') hok ⟨hAl,hRk,fun M hM=>by cases hM⟩ ?_⟩;have hS2:=hS.sel [0,1,2,3,4,5,12] (by decide);rw [← hgn] at hS2;exact hS2
  rw [hoff,if_neg (by decide)] at hok;rw [if_neg (by decide)];cases e with
  | succ i =>
   rw [if_pos (Nat.succ_ne_zero i)] at hok ⊢;(conv=>whnf);refine brD (fun _=>?_) (fun h=>absurd (show ((i+1:Nat):Int) > 0 by omega) h);repeat' ((conv=>whnf);first|apply RetC.mk|refine rgO ?_|refine ixO ?_|(first|apply brD|apply zad|apply brN|apply brI)<;>(intro))
   exact ⟨rfl,hU (s:=⟨some N',B'⟩) (B:=R') hok hside (hS.keep 13)⟩
  | zero =>
   rw [if_neg (fun h=>h rfl)] at hok ⊢;have hjn:=((hS.sel [4,14,0,1,2,3,5,6,7,8,9,10,11,12,13] (by decide)).join (g:=zhY (zat Y.vs W.fly) (ziG x y l)) (zhv zaJ zaj) ⟨hS.get 4 rfl,hS.get 14 rfl⟩ (fun b hb=>List.mem_append.1 hb)).sel [1,2,3,4,0,5,6,7,8,9,10,11,12,13] (by decide);replace hS:St w S w3 (zkZ (Y.with Y.la Y.lc Y.vs Y.ea Y.ec) (W.with W.fly W.events) (two n (some ⟨(Y.side n).n,0,none⟩) pq) (two n (byP (Y.side n)) bq) (Y.side n) N' R' a c x y l):=hjn;clear hjn hU
   have hev0:∀ {b1 b2:Bool},N.role.active=b1→N'.role.active=b2→(b1=true∨b2=false∨¬ W.events.length < 1000)→(if N.role.active=false∧N'.role.active=true∧W.events.length < 1000 then W.events++[(n,N'.role.epoch)] else W.events)=W.events:=fun h1 h2 h3=>if_neg (by
    rw [h1,h2];rintro ⟨rfl,rfl,h4⟩;rcases h3 with h3|h3|h3
    ·cases h3
    ·cases h3
    ·exact h3 h4)
   have hev1:N.role.active=false→N'.role.active=true→W.events.length < 1000→(if N.role.active=false∧N'.role.active=true∧W.events.length < 1000 then W.events++[(n,N'.role.epoch)] else W.events)=W.events++[(n,N'.role.epoch)]:=fun h1 h2 h3=>if_pos ⟨h1,h2,h3⟩
   generalize hev:(if N.role.active=false∧N'.role.active=true∧W.events.length < 1000 then W.events++[(n,N'.role.epoch)] else W.events)=ev at hok ⊢;cases ha:N.role.active
   ·(conv=>whnf)
    refine hS.ld 6 rfl rfl ?_;(conv=>whnf);refine hS.ld 7 rfl rfl ?_;cases ha2:N'.role.active
    ·rw [← hev.symm.trans (hev0 ha ha2 (.inr (.inl rfl)))] at hS;generalize Y.ea=ea at hS;generalize Y.ec=ec at hS;(conv=>whnf);refine zfC (ea:=ea) (ec:=ec) (ev:=ev) ⟨rfl,rfl,rfl,trivial⟩ hS hflen hshort hll hnl hcell ?_;rintro σ w6 ⟨la,lc,vs,hS⟩;have hb2:(zhY (zat vs (W.fly++l.take (200 - W.fly.length))) (ziG x y l)).holds w6:=hS.get 4 rfl;replace hS:=hS.upd 4 rfl (e':=zat vs (W.fly++l.take (200 - W.fly.length))) (T:=No) (Ext.refl _ _) (fun _ h=>h.elim) zaJ hb2.1 (fun b hb=>.inl (List.mem_append_left _ hb));repeat' ((conv=>whnf);first|apply RetC.mk|refine rgO ?_|refine ixO ?_|(first|apply brD|apply zad|apply brN|apply brI)<;>(intro))
     exact ⟨rfl,hU2 (s:=⟨some N',B'⟩) (B:=R') (la:=la) (lc:=lc) (vs:=vs) (ea:=ea) (ec:=ec) hok hside (hS.keep 13)⟩
    ·(conv=>whnf)
     refine hS.ld 0 rfl rfl ?_;(conv=>whnf);refine brD (fun h5=>?_) (fun h5=>?_)
     ·have hv:=hev.symm.trans (hev1 ha ha2 (by exact Int.ofNat_lt.1 h5));have h60:Y.w ∉ (zaf 156 2 zbG (.slice Y.ea W.events.length Y.ec) W.events).foot:=hS.apartAt 0 5 rfl rfl (by decide) _ (List.mem_singleton.2 rfl);have h66:(Y.side n).n ∉ (zaf 156 2 zbG (.slice Y.ea W.events.length Y.ec) W.events).foot:=hS.apartAt 6 5 rfl rfl (by decide) _ (List.mem_singleton.2 rfl);have h67:(Y.side n).r ∉ (zaf 156 2 zbG (.slice Y.ea W.events.length Y.ec) W.events).foot:=hS.apartAt 7 5 rfl rfl (by decide) _ (List.mem_singleton.2 rfl);(conv=>whnf)
      (refine zah tabOk mixed [] (zvu Y W) [0,1,2,3,4,5,6,7,8,9,10,11,12,13,14,15] (by kernel_rfl) ?_;rintro w1 rfl;replace hS:=hS.drew)
      have hK:=hS.ref (zvu Y W);(conv=>whnf);refine hS.ldF 0 rfl rfl h60 ?_;(conv=>whnf);refine hS.ldF 6 rfl rfl h66 ?_;(conv=>whnf);refine hS.ldF 7 rfl rfl h67 ?_;(conv=>whnf);refine hS.litX Tryz.underlying77 (sz:=2) (by kernel_rfl) (z:=.agg (zbG (0,0)).toArray) (by kernel_rfl) rfl rfl (cs:=zbG (n,N'.role.epoch)) (by rfl) (fun b9 w8 hb9 hx hS=>?_);replace hK:=hK.trans hx.of_no;clear hx;refine KeepC.mk hK ?_;(conv=>whnf);refine hS.appX zkF 5 (ys:=[(n,N'.role.epoch)]) (G:=fun _=>True) Tryz.underlying77 (bytes:=16) (by kernel_rfl) (z:=.agg (zbG (0,0)).toArray) (by kernel_rfl) rfl rfl (Slc.of_blk zkF (hS.blk 14 rfl) rfl (by simp) (fun _ _=>trivial) rfl) (by show W.events.length+1≤_;unfold maxLen;omega) (by show (W.events.length+1) * 16≤_;omega) (fun ea ec w9 hx hS=>?_);replace hK:=hK.trans (hx.mono fun d hd=>za5 hd);clear hx;refine KeepC.mk hK ?_;clear hK;(conv=>whnf);refine hS.st 0 rfl (by exact Nat.le_of_ble_eq_true rfl) rfl (fun w10 hS=>?_)
      replace hS:=(hS.keep 14).as (H':=zkZ (Y.with Y.la Y.lc Y.vs ea ec) (W.with W.fly (W.events++[(n,N'.role.epoch)])) (two n (some ⟨(Y.side n).n,0,none⟩) pq) (two n (byP (Y.side n)) bq) (Y.side n) N' R' a c x y l) (by
       rw [show (W.with W.fly W.events).events.length+1=(W.events++[(n,N'.role.epoch)]).length by rw [List.length_append];rfl];rfl)
      rw [← hv] at hS;(conv=>whnf);refine zfC (ea:=ea) (ec:=ec) (ev:=ev) ⟨rfl,rfl,rfl,trivial⟩ hS hflen hshort hll hnl hcell ?_;rintro σ w6 ⟨la,lc,vs,hS⟩;have hb2:(zhY (zat vs (W.fly++l.take (200 - W.fly.length))) (ziG x y l)).holds w6:=hS.get 4 rfl;replace hS:=hS.upd 4 rfl (e':=zat vs (W.fly++l.take (200 - W.fly.length))) (T:=No) (Ext.refl _ _) (fun _ h=>h.elim) zaJ hb2.1 (fun b hb=>.inl (List.mem_append_left _ hb));repeat' ((conv=>whnf);first|apply RetC.mk|refine rgO ?_|refine ixO ?_|(first|apply brD|apply zad|apply brN|apply brI)<;>(intro))
      exact ⟨rfl,hU2 (s:=⟨some N',B'⟩) (B:=R') (la:=la) (lc:=lc) (vs:=vs) (ea:=ea) (ec:=ec) hok hside (hS.keep 13)⟩
     ·rw [← hev.symm.trans (hev0 ha ha2 (.inr (.inr fun h=>h5 (by exact Int.ofNat_lt.2 h))))] at hS;generalize Y.ea=ea at hS;generalize Y.ec=ec at hS;(conv=>whnf);refine zfC (ea:=ea) (ec:=ec) (ev:=ev) ⟨rfl,rfl,rfl,trivial⟩ hS hflen hshort hll hnl hcell ?_;rintro σ w6 ⟨la,lc,vs,hS⟩;have hb2:(zhY (zat vs (W.fly++l.take (200 - W.fly.length))) (ziG x y l)).holds w6:=hS.get 4 rfl;replace hS:=hS.upd 4 rfl (e':=zat vs (W.fly++l.take (200 - W.fly.length))) (T:=No) (Ext.refl _ _) (fun _ h=>h.elim) zaJ hb2.1 (fun b hb=>.inl (List.mem_append_left _ hb));repeat' ((conv=>whnf);first|apply RetC.mk|refine rgO ?_|refine ixO ?_|(first|apply brD|apply zad|apply brN|apply brI)<;>(intro))
      exact ⟨rfl,hU2 (s:=⟨some N',B'⟩) (B:=R') (la:=la) (lc:=lc) (vs:=vs) (ea:=ea) (ec:=ec) hok hside (hS.keep 13)⟩
   ·rw [← hev.symm.trans (hev0 ha rfl (.inl rfl))] at hS;generalize Y.ea=ea at hS;generalize Y.ec=ec at hS;(conv=>whnf);refine zfC (ea:=ea) (ec:=ec) (ev:=ev) ⟨rfl,rfl,rfl,trivial⟩ hS hflen hshort hll hnl hcell ?_;rintro σ w6 ⟨la,lc,vs,hS⟩;have hb2:(zhY (zat vs (W.fly++l.take (200 - W.fly.length))) (ziG x y l)).holds w6:=hS.get 4 rfl;replace hS:=hS.upd 4 rfl (e':=zat vs (W.fly++l.take (200 - W.fly.length))) (T:=No) (Ext.refl _ _) (fun _ h=>h.elim) zaJ hb2.1 (fun b hb=>.inl (List.mem_append_left _ hb));repeat' ((conv=>whnf);first|apply RetC.mk|refine rgO ?_|refine ixO ?_|(first|apply brD|apply zad|apply brN|apply brI)<;>(intro))
    exact ⟨rfl,hU2 (s:=⟨some N',B'⟩) (B:=R') (la:=la) (lc:=lc) (vs:=vs) (ea:=ea) (ec:=ec) hok hside (hS.keep 13)⟩
end
section
variable {w w' w0 : World} {Y : RWorldA} {W : WorldS} {R : RBys} {m j : Nat}
def zqY:RBy:=⟨by0.data,false,0,false⟩
theorem zf9 (w:World):CallC Tryz.prog 47 #[] w fun v w'=>∃ b,v = .pointer (some ⟨b,0,none⟩)∧w.heap.size≤b∧Ext No w w'∧Blk w' b 194 (zcv zqY):=by
 refine zaa tabOk Tryz.func47 (by kernel_rfl) rfl Tryz.ntmps47 (lbO rfl) ?_;have hS:=St.start w No;(conv=>whnf);refine hS.mkSlice (n:=64) Tryz.underlying192 (sz:=1) (bytes:=1) (by kernel_rfl) (z:=.int .u8 0) (by kernel_rfl) (by decide) (by decide) (by decide) (enc:=zjP) (xs:=List.replicate 64 0) (by simp) (by rw [show (Value.int .u8 0).cells = #[.int .u8 0] from rfl,zml,Nat.mul_one];exact zi7 64) (fun g w1 hg hS=>?_);(conv=>whnf)
 obtain ⟨b0,o0,h1,hc⟩:∃ b0 o0,some (⟨g,0,none⟩:Addr)=some ⟨b0,o0,none⟩∧CellsAt w1 b0 o0 ((List.replicate 64 (0:UInt8)).flatMap zjP):=by
  refine ⟨g,0,rfl,fun i v hi=>?_⟩;have:=(hS.get 0 rfl:(zaf 5 1 zjP (.slice (some ⟨g,0,none⟩) 64 64) (List.replicate 64 (0:UInt8))).holds w1);rcases zf0 this with ⟨h,_⟩ | ⟨g2,cur,h,_,hb,_,_,hl,ht⟩
  ·cases h
  ·simp only [Option.some.injEq,Addr.mk.injEq] at h;obtain ⟨rfl,_⟩:=h;rw [hb.cell,Nat.zero_add];rw [← ht,List.getElem?_take] at hi;split at hi
   ·exact hi
   ·cases hi
 simp only [Option.some.injEq,Addr.mk.injEq] at h1;obtain ⟨rfl,rfl,_⟩:=h1;refine zuV Tryz.underlying192 Tryz.underlying5 Tryz.underlying9 hc (by simp) ?_;(conv=>whnf);refine hS.new (fun b w2 hb hS=>?_);repeat' ((conv=>whnf);first|apply RetC.mk|refine rgO ?_|refine ixO ?_|(first|apply brD|apply zad|apply brN|apply brI)<;>(intro))
 exact ⟨b,rfl,hb,hS.ext,hS.blk 1 rfl⟩
def zfT (na:Option Addr) (nn nc:Nat) (ba:Option Addr) (bn bc:Nat) (a:Option Addr) (n c:Nat):List Value:=[.slice na nn nc,.slice ba bn bc,.slice a n c,.slice none 0 0,.int .i64 (-1),.int .i64 0,.slice none 0 0]
def zsn (bw:Nat) (a:Option Addr) (c:Nat) (xs:List RuleS) (na:Option Addr) (nc:Nat) (ba:Option Addr) (bc:Nat) (N:Int→NodeS) (A A':RNodeA) (R R':RBy):Nat→List Ent
 | 0=>[blk bw 83 (zfT none 0 0 none 0 0 a xs.length c),zaf 111 1 zgw (.slice none 0 0) [],zaf 109 1 zgw (.slice none 0 0) []]
 | 1=>[blk bw 83 (zfT na 1 nc ba 1 bc a xs.length c),zaf 111 1 zgw (.slice na 1 nc) [some ⟨A.n,0,none⟩],zaf 109 1 zgw (.slice ba 1 bc) [byP A]]++zan A (N 0) R
 | _=>[blk bw 83 (zfT na 2 nc ba 2 bc a xs.length c),zaf 111 1 zgw (.slice na 2 nc) [some ⟨A.n,0,none⟩,some ⟨A'.n,0,none⟩],zaf 109 1 zgw (.slice ba 2 bc) [byP A,byP A']]++(zan A (N 0) R++zan A' (N 1) R')
structure RMade (xs:List RuleS) (a:Option Addr) (c:Nat) (B:BytS) (A:RNodeA) (R:RBy):Prop where
 alike:Alike R B
 rok:ROk R 18
 ra:A.ra=a
theorem zko {a:Option Addr}{c:Nat}{xs:List RuleS}(hx:RulesAt w0 a xs.length xs) (h0:(za2 xs).1=0) (hext:Ext No w0 w) :
  CallC Tryz.prog 20 #[.slice a xs.length c] w fun v w'=>∃ Y R,v = .pointer (some ⟨Y.w,0,none⟩)∧Ext No w w'∧RStands w0 0 18 w' Y (.born xs) R∧∀ b,inF (zaw Y (.born xs) R) b→w.heap.size≤b:=by
 obtain ⟨hb0,hb1,hok⟩:=WOk.born (fault_good.1 h0);have hby:BOk by0:=⟨by simp [by0],by decide,by decide⟩;have hAl:Alike zqY by0:=⟨rfl,rfl,(fun h=>by cases h),fun _=>rfl⟩;have hRk:ROk zqY 0:=⟨by simp [zqY,by0],(fun h=>by cases h),by simp [zqY],by show (0:Int)≤9223372036854775807;decide⟩;have hrr:(zbL 0 by0 xs).2.1.rules=xs∧(zbL 1 by0 xs).2.1.rules=xs:=⟨rfl,rfl⟩;refine zaa tabOk Tryz.func20 (by kernel_rfl) rfl Tryz.ntmps20 (lbO rfl) ?_;have hS:=St.start w No;(conv=>whnf);refine hS.new (fun bw w1 hbw hS=>?_);replace hS:=(hS.addNil 111 1 zgw).addNil 109 1 zgw;have noA:RNodeA:=⟨0,0,0,0,0,0,0,0,0,0,0,0,0,none,0⟩;replace hS:St w No w1 (zsn bw a c xs none 0 none 0 (fun i=>(zbL i by0 xs).2.1) noA noA zqY zqY 0):=hS;generalize hNf:(fun i=>(zbL i by0 xs).2.1)=N at hS;generalize hBf:(fun i=>(zbL i by0 xs).2.2)=B;have e0:N 0=(zbL 0 by0 xs).2.1∧B 0=(zbL 0 by0 xs).2.2∧N 1=(zbL 1 by0 xs).2.1∧B 1=(zbL 1 by0 xs).2.2:=by subst hNf hBf;exact ⟨rfl,rfl,rfl,rfl⟩
 have hbn:WorldS.born xs=⟨⟨some (N 0),B 0⟩,⟨some (N 1),B 1⟩,xs,[],-1,0,[]⟩:=by subst hNf hBf;rfl
 rw [hbn] at hok ⊢;rw [← e0.1,← e0.2.2.1] at hrr;clear hNf hBf hbn;(conv=>whnf)
 refine zaL tabOk (fun σ w' q'=>∃ (k:Nat) (na:Option Addr) (nc:Nat) (ba:Option Addr) (bc:Nat) (A A':RNodeA) (R R':RBy),σ=[(4,.int .i64 k),(3,.pointer (some ⟨bw,0,none⟩)),(0,.slice a xs.length c)]∧q'=2 - k∧k≤2∧St w No w' (zsn bw a c xs na nc ba bc N A A' R R' k)∧(1≤k→RMade xs a c (B 0) A R)∧(2≤k→RMade xs a c (B 1) A' R'))
  (σ':=[(4,.int .i64 ((0:Nat):Int)),(3,.pointer (some ⟨bw,0,none⟩)),(0,.slice a xs.length c)]) (n:=2) ⟨rfl,rfl,rfl,trivial⟩ ⟨0,none,0,none,0,noA,noA,zqY,zqY,rfl,rfl,Nat.zero_le _,hS,fun h=>by omega,fun h=>by omega⟩ ?_
 clear hS;rintro _ w4 q' ⟨k,na0,nc0,ba0,bc0,A0,A1,R0,R1,rfl,rfl,hk,hS,hm0,hm1⟩;(conv=>whnf);refine brD (fun h3=>?_) (fun h3=>?_)
 ·have hk2:k=0∨k=1:=by omega
  rcases hk2 with rfl|rfl
  ·have hsz:=hS.ext.size;(conv=>whnf);refine (zf9 _).mono ?_;rintro v w5 ⟨bb,rfl,hbb,hxb,hB⟩;replace hS:=hS.made hxb (zab _ _ _) hB (by simp [blk];exact ⟨hbb,hB.lt⟩);clear hxb hB;(conv=>whnf);refine (zlw (B:=by0) (a:=a) (c:=c) (xs:=xs) 0 (.inl rfl) (hS.blk 3 rfl) hAl hby hRk (by decide)).mono ?_;rintro v w6 ⟨R',hA',hR',hcase⟩;rcases hcase with ⟨_,A,hAb,hAr,hAc,rfl,hk6⟩ | ⟨h9,_⟩
   case inr=>exact absurd hb0 h9
   rw [← e0.1] at hk6;rw [← e0.2.1] at hA';have hS2:=St.callAt (A:=[_,_,_]) (B:=[]) hS hk6;subst hAb;(conv=>whnf);refine hS2.ld 0 rfl rfl ?_;(conv=>whnf);refine hS2.lit Tryz.underlying80 (sz:=1) (by kernel_rfl) (z:=.pointer none) (by kernel_rfl) rfl rfl (cs:=zgw (some ⟨A.b,0,none⟩)) (by rfl) (fun b9 w7 hb9 hS=>?_);(conv=>whnf);refine hS.appS zoO 2 (ys:=[some ⟨A.b,0,none⟩]) (G:=fun _=>True) Tryz.underlying80 (bytes:=8) (by kernel_rfl) (z:=.pointer none) (by kernel_rfl) rfl rfl (Slc.of_blk zoO (hS.blk 10 rfl) rfl (by simp) (fun _ _=>trivial) rfl) (by unfold maxLen;simp) (by simp) (fun ba bc w8 hS=>?_);(conv=>whnf);refine hS.st 0 rfl (by exact Nat.le_of_ble_eq_true rfl) rfl (fun w9 hS=>?_);(conv=>whnf);refine hS.ld 0 rfl rfl ?_;(conv=>whnf);refine hS.lit Tryz.underlying79 (sz:=1) (by kernel_rfl) (z:=.pointer none) (by kernel_rfl) rfl rfl (cs:=zgw (some ⟨A.n,0,none⟩)) (by rfl) (fun b10 w10 hb10 hS=>?_);(conv=>whnf);refine hS.appS zoO 1 (ys:=[some ⟨A.n,0,none⟩]) (G:=fun _=>True) Tryz.underlying79 (bytes:=8) (by kernel_rfl) (z:=.pointer none) (by kernel_rfl) rfl rfl (Slc.of_blk zoO (hS.blk 11 rfl) rfl (by simp) (fun _ _=>trivial) rfl) (by unfold maxLen;simp) (by simp) (fun na nc w11 hS=>?_);(conv=>whnf);refine hS.st 0 rfl (by exact Nat.le_of_ble_eq_true rfl) rfl (fun w12 hS=>?_);(conv=>whnf);refine rgO ?_;(conv=>whnf);refine LoopE.mk ⟨_,[(4,.int .i64 ((1:Nat):Int)),(3,_),(0,_)],?_,⟨rfl,rfl,rfl,trivial⟩,⟨1,na,nc,ba,bc,A,A1,R',R1,rfl,rfl,by omega,?_⟩⟩
   ·omega
   ·exact ⟨hS.sel [0,1,2,3,4,5,6,7,8,9] (by decide),fun _=>⟨hA',hR',hAr⟩,fun h=>by omega⟩
  ·have hsz:=hS.ext.size;(conv=>whnf);refine (zf9 _).mono ?_;rintro v w5 ⟨bb,rfl,hbb,hxb,hB⟩;replace hS:=hS.made hxb (zab _ _ _) hB (by simp [blk];exact ⟨hbb,hB.lt⟩);clear hxb hB;(conv=>whnf);refine (zlw (B:=by0) (a:=a) (c:=c) (xs:=xs) 1 (.inr rfl) (hS.blk 10 rfl) hAl hby hRk (by decide)).mono ?_;rintro v w6 ⟨R',hA',hR',hcase⟩;rcases hcase with ⟨_,A,hAb,hAr,hAc,rfl,hk6⟩ | ⟨h9,_⟩
   case inr=>exact absurd hb1 h9
   rw [← e0.2.2.1] at hk6;rw [← e0.2.2.2] at hA';have hS2:=St.callAt (A:=[_,_,_,_,_,_,_,_,_,_]) (B:=[]) hS hk6;subst hAb;(conv=>whnf);refine hS2.ld 0 rfl rfl ?_;(conv=>whnf);refine hS2.lit Tryz.underlying80 (sz:=1) (by kernel_rfl) (z:=.pointer none) (by kernel_rfl) rfl rfl (cs:=zgw (some ⟨A.b,0,none⟩)) (by rfl) (fun b9 w7 hb9 hS=>?_);(conv=>whnf);refine hS.appS zoO 2 (ys:=[some ⟨A.b,0,none⟩]) (G:=fun _=>True) Tryz.underlying80 (bytes:=8) (by kernel_rfl) (z:=.pointer none) (by kernel_rfl) rfl rfl (Slc.of_blk zoO (hS.blk 17 rfl) rfl (by simp) (fun _ _=>trivial) rfl) (by unfold maxLen;simp) (by simp) (fun ba bc w8 hS=>?_);(conv=>whnf);refine hS.st 0 rfl (by exact Nat.le_of_ble_eq_true rfl) rfl (fun w9 hS=>?_);(conv=>whnf);refine hS.ld 0 rfl rfl ?_;(conv=>whnf);refine hS.lit Tryz.underlying79 (sz:=1) (by kernel_rfl) (z:=.pointer none) (by kernel_rfl) rfl rfl (cs:=zgw (some ⟨A.n,0,none⟩)) (by rfl) (fun b10 w10 hb10 hS=>?_);(conv=>whnf);refine hS.appS zoO 1 (ys:=[some ⟨A.n,0,none⟩]) (G:=fun _=>True) Tryz.underlying79 (bytes:=8) (by kernel_rfl) (z:=.pointer none) (by kernel_rfl) rfl rfl (Slc.of_blk zoO (hS.blk 18 rfl) rfl (by simp) (fun _ _=>trivial) rfl) (by unfold maxLen;simp) (by simp) (fun na nc w11 hS=>?_);(conv=>whnf);refine hS.st 0 rfl (by exact Nat.le_of_ble_eq_true rfl) rfl (fun w12 hS=>?_);(conv=>whnf);refine rgO ?_;(conv=>whnf);refine LoopE.mk ⟨_,[(4,.int .i64 ((2:Nat):Int)),(3,_),(0,_)],?_,⟨rfl,rfl,rfl,trivial⟩,⟨2,na,nc,ba,bc,A0,A,R0,R',rfl,rfl,by omega,?_⟩⟩
   ·omega
   ·exact ⟨hS.sel [0,1,2,3,4,5,6,7,8,9,10,11,12,13,14,15,16] (by decide),fun _=>hm0 (by decide),fun _=>⟨hA',hR',hAr⟩⟩
 ·obtain rfl:k=2:=by omega
  have g0:=hm0 (by decide);have g1:=hm1 (by decide);have hS2:=(((hS.addNil 200 5 zae).add (e:=zat [] []) zaJ (zh0 _) (fun b hb=>by simp [zat] at hb) (fun f _ b _ hb=>by simp [zat] at hb)).addNil 156 2 zbG).sel [0,1,2,17,18,19,3,4,5,6,7,8,9,10,11,12,13,14,15,16] (by decide);replace hS2:St w No w4 (zaw ⟨bw,na0,nc0,ba0,bc0,a,c,none,0,[],none,0,A0,A1⟩ ⟨⟨some (N 0),B 0⟩,⟨some (N 1),B 1⟩,xs,[],-1,0,[]⟩ ⟨R0,R1⟩):=hS2;have hfr:∀ b,inF (zaw ⟨bw,na0,nc0,ba0,bc0,a,c,none,0,[],none,0,A0,A1⟩ ⟨⟨some (N 0),B 0⟩,⟨some (N 1),B 1⟩,xs,[],-1,0,[]⟩ ⟨R0,R1⟩) b→w.heap.size≤b:=fun b ⟨e,he,hb⟩=>(hS2.may e he b hb).1.elim (fun h=>h.elim) id
  repeat' ((conv=>whnf);first|apply RetC.mk|refine rgO ?_|refine ixO ?_|(first|apply brD|apply zad|apply brN|apply brI)<;>(intro))
  refine ⟨⟨bw,na0,nc0,ba0,bc0,a,c,none,0,[],none,0,A0,A1⟩,⟨R0,R1⟩,rfl,hS2.ext,⟨hS2.has,hok,hext.trans hS2.ext,fun b hb=>Nat.le_trans hext.size (hfr b hb),hx,⟨g0.alike,g0.rok,fun M hM=>?_⟩,⟨g1.alike,g1.rok,fun M hM=>?_⟩⟩,hfr⟩
  ·obtain rfl:=Option.some.inj hM;rw [hrr.1];show RulesAt w0 A0.ra xs.length xs;rw [g0.ra];exact hx
  ·obtain rfl:=Option.some.inj hM;rw [hrr.2];show RulesAt w0 A1.ra xs.length xs;rw [g1.ra];exact hx
end
section
variable {w w' w0 : World} {Y : RWorldA} {W : WorldS} {R : RBys} {m j : Nat}
end
section
variable {w w' w0 : World} {Y : RWorldA} {W : WorldS} {R : RBys} {m j : Nat}
theorem zpm (n:Int) (k:Nat) (h:RStands w0 m j w Y W R) (hm:m+34 * k≤40000000) (hj:j+18 * k≤50000000):CallC Tryz.prog 50 #[.pointer (some ⟨Y.w,0,none⟩),.int .i64 n,.int .i64 (k:Int)] w fun v w'=>v = .int .i64 ((W.ticks n k).1:Nat)∧RDoes w0 (m+34 * k) (j+18 * k) w Y W R (W.ticks n k).2 w':=by
 refine zaa tabOk Tryz.func50 (by kernel_rfl) rfl Tryz.ntmps50 (lbO rfl) ?_;(conv=>whnf)
 refine zaL tabOk (fun σ w' r=>∃ (i:Nat) (W':WorldS),σ=[(7,.int .i64 i),(2,.int .i64 (k:Int)),(1,.int .i64 n),(0,.pointer (some ⟨Y.w,0,none⟩))]∧r=k - i∧i≤k∧RDoes w0 (m+34 * i) (j+18 * i) w Y W R W' w'∧W.ticks n k=W'.ticks n (k - i))
  (σ':=[(7,.int .i64 ((0:Nat):Int)),(2,.int .i64 (k:Int)),(1,.int .i64 n),(0,.pointer (some ⟨Y.w,0,none⟩))]) (n:=k) ⟨rfl,rfl,rfl,rfl,trivial⟩ ⟨0,W,rfl,rfl,Nat.zero_le _,RDoes.same h (Nat.le_refl _) (Nat.le_refl _) (Ext.refl _ _),rfl⟩ ?_
 rintro _ w1 r ⟨i,W',rfl,rfl,hi,⟨Y1,R1,hw,hT,h1⟩,hr⟩;(conv=>whnf);refine brD (fun h3=>?_) (fun h3=>?_)
 ·obtain ⟨z,hz⟩:∃ z,k - i=z+1:=⟨k - i - 1,by omega⟩;rw [hz] at hr;(conv=>whnf);rw [← hw];refine (zqa n h1 (by omega) (by omega)).mono ?_;rintro v w2 ⟨rfl,Y2,R2,hw2,hT2,h2⟩;have hd:RDoes w0 (m+34 * (i+1)) (j+18 * (i+1)) w Y W R (W'.tick n).2 w2:=⟨Y2,R2,hw2.trans hw,hT.trans hT2,h2⟩;have hc:W'.ticks n (z+1)=if (W'.tick n).1≠0 then W'.tick n else (W'.tick n).2.ticks n z:=rfl
  rw [hc] at hr;(conv=>whnf);refine brD (fun he=>?_) (fun he=>?_)
  ·rw [if_pos (by omega)] at hr;repeat' ((conv=>whnf);first|apply RetC.mk|refine rgO ?_|refine ixO ?_|(first|apply brD|apply zad|apply brN|apply brI)<;>(intro))
   rw [hr];exact ⟨rfl,hd.mono (by omega) (by omega)⟩
  ·rw [if_neg (by omega)] at hr;(conv=>whnf);refine rgO ?_;(conv=>whnf);refine LoopE.mk ⟨_,[(7,.int .i64 ((i+1:Nat):Int)),(2,_),(1,_),(0,_)],?_,⟨rfl,rfl,rfl,rfl,trivial⟩,⟨i+1,(W'.tick n).2,rfl,rfl,by omega,hd,by rw [hr];congr 1;omega⟩⟩;omega
 ·obtain rfl:i=k:=by omega
  rw [Nat.sub_self] at hr;repeat' ((conv=>whnf);first|apply RetC.mk|refine rgO ?_|refine ixO ?_|(first|apply brD|apply zad|apply brN|apply brI)<;>(intro))
  rw [hr];exact ⟨rfl,Y1,R1,hw,hT,h1⟩
end
section
variable {w w' w0 : World} {Y : RWorldA} {W : WorldS} {R : RBys} {m j : Nat}
set_option maxRecDepth 10000 in
end
section
variable {w : World}
end
section
variable {w w' w0 : World} {X : WorldA} {Y : RWorldA} {W : WorldS} {R : RBys} {m j q : Nat} {E : Nat → Addr}
set_option maxRecDepth 10000 in
set_option maxHeartbeats 1000000 in
end
structure StepW where
 kind:ByteArray
 s:Int
 n:Int
 p:PktS
 ra:Option Addr
 rn:Nat
 rc:Nat
 rules:List RuleS
structure StepW.Ok (W:World) (a:StepW):Prop where
 rules:Slc W 5 zal (fun _=>True) a.ra a.rn a.rules
 s:I64 a.s
 n:I64 a.n
section
variable {W w : World}
theorem zsX {e d:Nat}{t:TypeId}{v:Value}(he:e=d+1) (hu:Tryz.prog.underlying t=some .string) (h:Shp Tryz.prog w e t [v]):∃ s,v = .string s:=by
 subst he;unfold Shp at h;rw [hu] at h;obtain ⟨s,h,_⟩:=h;simp only [List.cons.injEq,and_true] at h;exact ⟨s,h⟩
end

section
variable {w : World} {G G' : RuleS → Prop} {a b : Option Addr} {n m c d : Nat} {xs ys : List RuleS}
end
theorem zmv {T:MirS}{pr fa fp:Int}:∀ (n i:Nat) {j:Nat},zhF T pr fa fp n i=some j→i≤j∧j < i+n
 | 0,_,_,h=>by cases h
 | n+1,i,j,h=>by
  unfold zhF at h;split at h
  ·obtain rfl:=Option.some.inj h;omega
  ·have:=zmv n (i+1) h;omega
end Go.Proofs.YtogjajjdaoihdaaGreatDoor

namespace Go.Proofs.YtogjajjdaoihdaaGreatDoor
set_option maxRecDepth 20000
open Go
theorem leaving_of_handed {a:Assume}{C:Checked}{os:Os}{f:FuncId}{r:Reach}{Pre:World→Array Value→Prop}{Post:World→Array Value→Value→World→Prop}
  (h:ReturnsInHanded a C os f r Pre Post):ReturnsInLeavingWide a C os f r Pre Post:=fun enter=>by
 obtain ⟨h1,h2,h3,h4,h5⟩:=h enter;refine ⟨h1,h2,h3,h4,fun w tape i hf=>?_⟩;obtain ⟨n,v,w',a1,a2,a3,a4,⟨j,last,b1,b2,b3⟩,a5⟩:=h5 w tape i hf;exact ⟨n,v,w',a1,a2,a3,a4,⟨j,last,b1,b2,b3.2.1,onlyLeaving_of_quiet b3.1,b3.2.2⟩,a5⟩
theorem holds_tied_goes (Lk:Looks) {p:Pinned}{s:OpenSpec}{c:OpenClaim}(al:List (List PathCond)) (kinds:List LaidKind) (tests:Bool) (har:Bool × String) (lk:Bool)
  (hc:c.holds p s) (hal:∀ D∈al,(c.withDomain D).holds p s) (hw:c.wfByText s=true) (hwal:∀ D∈al,(c.withDomain D).wfByText s=true)
  (htie:c.laidByTextAt Lk p kinds tests)
  (hst:c.start = .entering) (hnb:c.noBlocks=false∧c.again=false) (hm:p.checked.prog.mainIs=some (har.1,har.2.toList)) (hn:(!har.1&&har.2.isEmpty&&!lk)=false)
  (hl:∀ f fn,p.checked.prog.funcNamed c.func=some f→p.checked.prog.funcs[f]?=some fn→lk=p.checked.prog.looks []∧∀ (j:Nat) t,fn.params[j]?=some t→p.checked.prog.wantsStandIn t=false)
  (hg:true=c.goesBy p.checked.prog) :
  Claim7.holds p (.plain s) { stood:={ row:=c,standIns:=[],harness:=har,looks:=lk },kinds:=[],alts:=al,goes:=true,laidByText:=true,laidKinds:=kinds,laidTests:=tests,laidLooks:=Lk }:=by
 have h6:∀ r:OpenClaim,Claim7.isSixth { stood:={ row:=r,standIns:=[],harness:=har,looks:=lk },kinds:=[] }=false:=fun r=>by simpa [Claim7.isSixth] using hn
 refine ⟨Claim7.tied_new_at Lk kinds tests (Claim7.new_of_sixth hc har lk hst hnb hm (h6 c) hl) hw,fun D hD=>?_,htie,(fun h=>by cases h),hg⟩;exact Claim7.tied_new_at Lk kinds tests (Claim7.new_of_sixth (hal D hD) har lk hst hnb hm (h6 _) hl) (hwal D hD)
end Go.Proofs.YtogjajjdaoihdaaGreatDoor
