/-
  Texts of this claim, joined: WorldB, WorldC, WorldD, WorldE, NoteC, LoopB, Wakes, WorldF, WorldG, Play, PlayB, PlayC, PlayD, RefNum, BornW, RefHear, RefSum, RefByt, RefBytW, RefOpen, RefCell.
-/
import Derived.Test.YtogjajjdaoihdaaGreatDoorScriptPlaysE
import Derived.Lib.BufferWrite

namespace Go.Proofs.YtogjajjdaoihdaaGreatDoor
set_option maxRecDepth 20000
open Go Ev
section
variable {w w' : World} {X : WorldA} {W : WorldS} {E : Nat → Addr} {q m : Nat}
theorem zoo {n:Int}{N:NodeS}(h:(W.side n).node=some N):zb3 X W n=zc5 X W (X.side n) (X.side (1 - n)) (W.side n) (W.side (1 - n))++zaU (X.side n).A N (W.side n).byt:=by
 unfold zb3;rw [znC h]
theorem zqy {n:Int}{N:NodeS}{Y Z:SideA}{t:SideS}(h:(W.side n).node=some N):zc5 X W Y Z (W.side n) t=zc5 X W Y Z ⟨some N,(W.side n).byt⟩ t:=by
 unfold zc5;rw [zcr h,zcr (s:=⟨some N,(W.side n).byt⟩) rfl]
theorem zre {n:Int}{Y Z:SideA}{t:SideS}(h:(W.side n).node=none):zc5 X W Y Z (W.side n) t=zc5 X W Y Z ⟨none,(W.side n).byt⟩ t:=by
 unfold zc5;rw [zd9 h,zd9 (s:=⟨none,(W.side n).byt⟩) rfl]
theorem zb2 {n:Int}{N:NodeS}(h:(W.side n).node=some N):zb3 X W n=zc5 X W (X.side n) (X.side (1 - n)) ⟨some N,(W.side n).byt⟩ (W.side (1 - n))++zaU (X.side n).A N (W.side n).byt:=by
 rw [zoo h,zqy h]
theorem zjC {n:Int}(h:(W.side n).node=none):zb3 X W n=zc5 X W (X.side n) (X.side (1 - n)) ⟨none,(W.side n).byt⟩ (W.side (1 - n))++[blk (X.side n).A.b 253 (zaE (W.side n).byt)]:=by
 unfold zb3;rw [znG h,zre h]
theorem zcI {n:Int}(hn:n=0∨n=1):X.setSide n (X.side n)=X:=by
 rcases hn with rfl|rfl<;>rfl
theorem zrA (n:Int) (h:Stands E q m w X W):CallC Tryz.prog 146 #[.pointer (some ⟨X.w,0,none⟩),.int .i64 n] w fun v w'=>v=zc9 E (W.down n).1∧Turns w w' (zag X W) (zag X (W.down n).2):=by
 refine zaa tabOk Tryz.func146 (by kernel_rfl) rfl Tryz.ntmps146 (lbO rfl) ?_;(conv=>whnf);refine (zgX n h).mono ?_;rintro v w1 ⟨rfl,hx⟩;by_cases hu:W.upErr n=0
 case neg =>
  obtain ⟨j,hj⟩:∃ j,W.upErr n=j+1:=⟨W.upErr n - 1,by omega⟩;rw [show W.down n=(W.upErr n,W) from if_pos hu,hj];repeat' ((conv=>whnf);first|apply RetC.mk|refine rgO ?_|refine ixO ?_|(first|apply brD|apply zad|apply brN|apply brI)<;>(intro))
  exact ⟨rfl,Turns.of_no h.has hx⟩
 obtain ⟨hn,N,hN⟩:=zcE hu;rw [show W.down n=(0,W.setSide n ⟨none,{ (W.side n).byt with off:=true }⟩) from if_neg (fun h=>h hu),hu,if_pos rfl];have hBk:=(h.ok.side hn).bok;have hH:=(h.half hn).1
 have hT:∀ {w'},Turns w w' (zb3 X W n) (zc5 X W (X.side n) (X.side (1 - n)) ⟨none,{ (W.side n).byt with off:=true }⟩ (W.side (1 - n))++[blk (X.side n).A.b 253 (zaE { (W.side n).byt with off:=true })])→Turns w w' (zag X W) (zag X (W.setSide n ⟨none,{ (W.side n).byt with off:=true }⟩)):=fun k=>by
  have:=Turns.side h.has hn (Y:=X.side n) rfl (s:=⟨none,{ (W.side n).byt with off:=true }⟩) k
  rwa [zcI hn] at this
 have hS:=hH.start.no hx;rw [zb2 hN] at hS hT;generalize W.setSide n ⟨none,{ (W.side n).byt with off:=true }⟩=W' at hT ⊢;generalize (W.side n).byt=B at hS hT hBk ⊢;clear hH hx;(conv=>whnf);refine hS.ld 1 rfl rfl ?_;(conv=>whnf);refine (zsV (hS.blk 14 rfl) hBk.len).mono ?_;rintro v w' ⟨hx,hB⟩;replace hS:=hS.upd 14 rfl hx (fun c hc=>by subst hc;exact List.mem_singleton.2 rfl) (zab _ _ _) hB (fun c hc=>.inl hc);(conv=>whnf);refine hS.st 1 rfl (lbO rfl) rfl (fun w' hS=>?_);repeat' ((conv=>whnf);first|apply RetC.mk|refine rgO ?_|refine ixO ?_|(first|apply brD|apply zad|apply brN|apply brI)<;>(intro))
 exact ⟨rfl,hT (St.turns (hS.sel [0,1,2,3,4,5,6,14] (by decide)))⟩
theorem zsD (n k:Int) (h:Stands E q m w X W):CallC Tryz.prog 150 #[.pointer (some ⟨X.w,0,none⟩),.int .i64 n,.int .i64 k] w fun v w'=>v=zc9 E (W.cut n k).1∧Turns w w' (zag X W) (zag X (W.cut n k).2):=by
 refine zaa tabOk Tryz.func150 (by kernel_rfl) rfl Tryz.ntmps150 (lbO rfl) ?_;(conv=>whnf);refine (zgX n h).mono ?_;rintro v w1 ⟨rfl,hx⟩;by_cases hu:W.upErr n=0
 case neg =>
  obtain ⟨j,hj⟩:∃ j,W.upErr n=j+1:=⟨W.upErr n - 1,by omega⟩;rw [show W.cut n k=(W.upErr n,W) from if_pos hu,hj];repeat' ((conv=>whnf);first|apply RetC.mk|refine rgO ?_|refine ixO ?_|(first|apply brD|apply zad|apply brN|apply brI)<;>(intro))
  exact ⟨rfl,Turns.of_no h.has hx⟩
 obtain ⟨hn,N,hN⟩:=zcE hu;rw [show W.cut n k=(zsW (W.side n).byt k,W.setSide n ⟨(W.side n).node,zkW (W.side n).byt k⟩) from if_neg (fun h=>h hu),hu,if_pos rfl,hN];have hBk:=(h.ok.side hn).bok;obtain ⟨hH,hQ⟩:=h.half hn
 have hT:∀ {w'},Turns w w' (zb3 X W n) (zc5 X W (X.side n) (X.side (1 - n)) ⟨some N,zkW (W.side n).byt k⟩ (W.side (1 - n))++zaU (X.side n).A N (zkW (W.side n).byt k))→Turns w w' (zag X W) (zag X (W.setSide n ⟨some N,zkW (W.side n).byt k⟩)):=fun k=>by
  have:=Turns.side h.has hn (Y:=X.side n) rfl k
  rwa [zcI hn] at this
 have hS:=hH.start.no hx;have hE:=h.errs.ext hS.ext hQ;rw [zb2 hN] at hS hT hQ;generalize W.setSide n ⟨some N,zkW (W.side n).byt k⟩=W' at hT ⊢;generalize (W.side n).byt=B at hS hT hBk hQ ⊢;clear hH hx;have hq:q≤(X.side n).A.b:=hQ _ ⟨_,List.mem_of_getElem? (i:=14) rfl,List.mem_singleton.2 rfl⟩;(conv=>whnf);refine hS.ld 1 rfl rfl ?_;(conv=>whnf);refine (zs6 k (hS.blk 14 rfl) hBk.len (hE.sub rfl) hq).mono ?_;rintro v w' ⟨rfl,hx,hB⟩;replace hS:=hS.upd 14 rfl hx (fun c hc=>by subst hc;exact List.mem_singleton.2 rfl) (zab _ _ _) hB (fun c hc=>.inl hc);repeat' ((conv=>whnf);first|apply RetC.mk|refine rgO ?_|refine ixO ?_|(first|apply brD|apply zad|apply brN|apply brI)<;>(intro))
 exact ⟨rfl,hT (St.turns hS)⟩
theorem znV (p:PktS) (h:Stands E q m w X W) (hm:m+1≤50000000):CallC Tryz.prog 77 #[.pointer (some ⟨X.w,0,none⟩),.agg (zao p).toArray] w fun v w'=>v = .tuple #[.agg (zao (W.inside p).2.1).toArray,zc9 E (W.inside p).1]∧Turns w w' (zag X W) (zag X (W.inside p).2.2):=by
 by_cases hu:W.handErr=0
 case neg =>
  obtain ⟨j,hj⟩:∃ j,W.handErr=j+1:=⟨W.handErr - 1,by omega⟩;rw [show W.inside p=(W.handErr,zaP,W) from if_pos hu];refine zaa tabOk Tryz.func77 (by kernel_rfl) rfl Tryz.ntmps77 (lbO rfl) ?_;have hS:=St.start w No;(conv=>whnf);refine hS.new (fun bp w1 hbp hS=>?_);(conv=>whnf);refine hS.new (fun br w2 hbr hS=>?_);replace hS:St w No w2 [blk bp 41 (zao p),blk br 41 (zao zaP)]:=hS;(conv=>whnf);refine (zgF (h.no hS.ext)).mono ?_;rintro v w3 ⟨rfl,hx⟩;replace hS:=hS.no hx;rw [hj];(conv=>whnf);refine hS.st 1 rfl (lbO rfl) rfl (fun w' hS=>?_);(conv=>whnf);refine hS.laX 1 rfl rfl ?_;repeat' ((conv=>whnf);first|apply RetC.mk|refine rgO ?_|refine ixO ?_|(first|apply brD|apply zad|apply brN|apply brI)<;>(intro))
  exact ⟨rfl,Turns.of_no h.has hS.ext⟩
 obtain ⟨hn,N,hN⟩:=h.ok.hand hu;have hnk:=((h.ok.side hn).node N hN).1
 have hw:W.inside p=((N.inside p).1,(N.inside p).2.1,W.setSide W.to ⟨some (N.inside p).2.2,(W.side W.to).byt⟩):=by
  unfold WorldS.inside;rw [if_neg (fun h=>h hu),hN]
 rw [hw];obtain ⟨hH,hQ⟩:=h.half hn
 have hT:∀ {w'},Turns w w' (zb3 X W W.to) (zc5 X W (X.side W.to) (X.side (1 - W.to)) ⟨some (N.inside p).2.2,(W.side W.to).byt⟩ (W.side (1 - W.to))++zaU (X.side W.to).A (N.inside p).2.2 (W.side W.to).byt)→Turns w w' (zag X W) (zag X (W.setSide W.to ⟨some (N.inside p).2.2,(W.side W.to).byt⟩)):=fun k=>by
  have:=Turns.side h.has hn (Y:=X.side W.to) rfl k
  rwa [zcI hn] at this
 refine zaa tabOk Tryz.func77 (by kernel_rfl) rfl Tryz.ntmps77 (lbO rfl) ?_;have hS:=hH.start;rw [zb2 hN] at hS;(conv=>whnf);refine hS.new (fun bp w1 hbp hS=>?_);(conv=>whnf);refine hS.new (fun br w2 hbr hS=>?_);have hst:Stands E q m w2 X W:=h.of_half hn (by rw [zb2 hN];exact (hS.keep 15).turns);(conv=>whnf);refine (zgF hst).mono ?_;rintro v w3 ⟨rfl,hx⟩;replace hS:=hS.no hx;rw [hu,if_pos rfl];rw [zb2 hN] at hT hQ;have hE:=h.errs.ext hS.ext hQ;have hQ':High (zaC (X.side W.to).A N) q:=hQ.app.2.app.1;have hs:=hS.notin 1 7 7 rfl (List.mem_singleton.2 rfl) (.inl (by decide));have hp:=hS.notin 15 7 7 rfl (List.mem_singleton.2 rfl) (.inr (by decide));have hs2:=hS.ne 1 16 rfl rfl (by decide);have hp2:=hS.ne 15 16 rfl rfl (by decide);generalize W.setSide W.to ⟨some (N.inside p).2.2,(W.side W.to).byt⟩=W' at hT ⊢;clear hst hx;(conv=>whnf)
 (refine zah tabOk mixed [] (fun b=>inF (zaC (X.side W.to).A N) b∨b=br) [0,1,2,3,4,5,6,7,8,9] (by kernel_rfl) ?_;rintro w1 rfl;replace hS:=hS.drew)
 have hK:=hS.ref (fun b=>inF (zaC (X.side W.to).A N) b∨b=br);(conv=>whnf);refine hS.ldF 1 rfl (v:=.pointer (some ⟨(X.side W.to).A.n,0,none⟩)) rfl (fun h=>h.elim hs hs2) ?_;(conv=>whnf);refine hS.laXF 15 rfl rfl (fun h=>h.elim hp hp2) ?_;(conv=>whnf);have hw3:Has _ (zaC (X.side W.to).A N):=Has.left (B:=[_,_,_]) (Has.right (A:=[_,_,_,_,_,_,_]) hS.has);refine (znM p hw3 hnk hm (hE.ext (Ext.drawn No _ _) fun _ h=>h.elim) hQ').mono ?_;rintro v w' ⟨rfl,hk⟩;replace hS:=St.callAt (A:=zc5 X W (X.side W.to) (X.side (1 - W.to)) ⟨some N,(W.side W.to).byt⟩ (W.side (1 - W.to))) (B:=[_,_,_]) hS hk;replace hK:=hK.trans (hk.ext.mono fun b hb=>.inl hb);refine KeepC.mk hK ?_;(conv=>whnf);refine hS.stK hK 16 rfl (lbO rfl) rfl (.inr rfl) (fun w' hK hS=>KeepC.mk hK ?_);(conv=>whnf);refine hS.laX 16 rfl rfl ?_;repeat' ((conv=>whnf);first|apply RetC.mk|refine rgO ?_|refine ixO ?_|(first|apply brD|apply zad|apply brN|apply brI)<;>(intro))
 exact ⟨rfl,hT (hS.keep 15).turns⟩
theorem zlr (p:PktS) (h:Stands E q m w X W) (hm:m+1≤50000000):CallC Tryz.prog 78 #[.pointer (some ⟨X.w,0,none⟩),.agg (zao p).toArray] w fun v w'=>v = .tuple #[.agg (zao (W.outside p).2.1).toArray,zc9 E (W.outside p).1]∧Turns w w' (zag X W) (zag X (W.outside p).2.2):=by
 by_cases hu:W.handErr=0
 case neg =>
  obtain ⟨j,hj⟩:∃ j,W.handErr=j+1:=⟨W.handErr - 1,by omega⟩;rw [show W.outside p=(W.handErr,zaP,W) from if_pos hu];refine zaa tabOk Tryz.func78 (by kernel_rfl) rfl Tryz.ntmps78 (lbO rfl) ?_;have hS:=St.start w No;(conv=>whnf);refine hS.new (fun bp w1 hbp hS=>?_);(conv=>whnf);refine hS.new (fun br w2 hbr hS=>?_);replace hS:St w No w2 [blk bp 41 (zao p),blk br 41 (zao zaP)]:=hS;(conv=>whnf);refine (zgF (h.no hS.ext)).mono ?_;rintro v w3 ⟨rfl,hx⟩;replace hS:=hS.no hx;rw [hj];(conv=>whnf);refine hS.st 1 rfl (lbO rfl) rfl (fun w' hS=>?_);(conv=>whnf);refine hS.laX 1 rfl rfl ?_;repeat' ((conv=>whnf);first|apply RetC.mk|refine rgO ?_|refine ixO ?_|(first|apply brD|apply zad|apply brN|apply brI)<;>(intro))
  exact ⟨rfl,Turns.of_no h.has hS.ext⟩
 obtain ⟨hn,N,hN⟩:=h.ok.hand hu;have hnk:=((h.ok.side hn).node N hN).1
 have hw:W.outside p=((N.outside p).1,(N.outside p).2.1,W.setSide W.to ⟨some (N.outside p).2.2,(W.side W.to).byt⟩):=by
  unfold WorldS.outside;rw [if_neg (fun h=>h hu),hN]
 rw [hw];obtain ⟨hH,hQ⟩:=h.half hn
 have hT:∀ {w'},Turns w w' (zb3 X W W.to) (zc5 X W (X.side W.to) (X.side (1 - W.to)) ⟨some (N.outside p).2.2,(W.side W.to).byt⟩ (W.side (1 - W.to))++zaU (X.side W.to).A (N.outside p).2.2 (W.side W.to).byt)→Turns w w' (zag X W) (zag X (W.setSide W.to ⟨some (N.outside p).2.2,(W.side W.to).byt⟩)):=fun k=>by
  have:=Turns.side h.has hn (Y:=X.side W.to) rfl k
  rwa [zcI hn] at this
 refine zaa tabOk Tryz.func78 (by kernel_rfl) rfl Tryz.ntmps78 (lbO rfl) ?_;have hS:=hH.start;rw [zb2 hN] at hS;(conv=>whnf);refine hS.new (fun bp w1 hbp hS=>?_);(conv=>whnf);refine hS.new (fun br w2 hbr hS=>?_);have hst:Stands E q m w2 X W:=h.of_half hn (by rw [zb2 hN];exact (hS.keep 15).turns);(conv=>whnf);refine (zgF hst).mono ?_;rintro v w3 ⟨rfl,hx⟩;replace hS:=hS.no hx;rw [hu,if_pos rfl];rw [zb2 hN] at hT hQ;have hE:=h.errs.ext hS.ext hQ;have hQ':High (zaC (X.side W.to).A N) q:=hQ.app.2.app.1;have hs:=hS.notin 1 7 7 rfl (List.mem_singleton.2 rfl) (.inl (by decide));have hp:=hS.notin 15 7 7 rfl (List.mem_singleton.2 rfl) (.inr (by decide));have hs2:=hS.ne 1 16 rfl rfl (by decide);have hp2:=hS.ne 15 16 rfl rfl (by decide);generalize W.setSide W.to ⟨some (N.outside p).2.2,(W.side W.to).byt⟩=W' at hT ⊢;clear hst hx;(conv=>whnf)
 (refine zah tabOk mixed [] (fun b=>inF (zaC (X.side W.to).A N) b∨b=br) [0,1,2,3,4,5,6,7,8,9] (by kernel_rfl) ?_;rintro w1 rfl;replace hS:=hS.drew)
 have hK:=hS.ref (fun b=>inF (zaC (X.side W.to).A N) b∨b=br);(conv=>whnf);refine hS.ldF 1 rfl (v:=.pointer (some ⟨(X.side W.to).A.n,0,none⟩)) rfl (fun h=>h.elim hs hs2) ?_;(conv=>whnf);refine hS.laXF 15 rfl rfl (fun h=>h.elim hp hp2) ?_;(conv=>whnf);have hw3:Has _ (zaC (X.side W.to).A N):=Has.left (B:=[_,_,_]) (Has.right (A:=[_,_,_,_,_,_,_]) hS.has);refine (zk2 p hw3 hnk hm (hE.ext (Ext.drawn No _ _) fun _ h=>h.elim) hQ').mono ?_;rintro v w' ⟨rfl,hk⟩;replace hS:=St.callAt (A:=zc5 X W (X.side W.to) (X.side (1 - W.to)) ⟨some N,(W.side W.to).byt⟩ (W.side (1 - W.to))) (B:=[_,_,_]) hS hk;replace hK:=hK.trans (hk.ext.mono fun b hb=>.inl hb);refine KeepC.mk hK ?_;(conv=>whnf);refine hS.stK hK 16 rfl (lbO rfl) rfl (.inr rfl) (fun w' hK hS=>KeepC.mk hK ?_);(conv=>whnf);refine hS.laX 16 rfl rfl ?_;repeat' ((conv=>whnf);first|apply RetC.mk|refine rgO ?_|refine ixO ?_|(first|apply brD|apply zad|apply brN|apply brI)<;>(intro))
 exact ⟨rfl,hT (hS.keep 15).turns⟩
end
section
variable {w w' : World} {X : WorldA} {W : WorldS} {E : Nat → Addr} {q m : Nat}
theorem Stands.fix (h:Stands E q m w X W):Has w (zc5 X W X.a X.b W.a W.b)∧High (zc5 X W X.a X.b W.a W.b) q:=⟨h.has.left,h.high.app.1⟩
theorem Turns.fixed (h:Has w (zag X W)) {X':WorldA}{W':WorldS}(k:Turns w w' (zc5 X W X.a X.b W.a W.b) (zc5 X' W' X.a X.b W.a W.b)) (ha:X'.a=X.a) (hb:X'.b=X.b) (ka:W'.a=W.a) (kb:W'.b=W.b):Turns w w' (zag X W) (zag X' W'):=by
 unfold zag;rw [ha,hb,ka,kb];exact Turns.frame h k
theorem znE {W:WorldS}{k:Int}(h:W.at_ k=0):∃ i:Nat,k=i∧i < W.fly.length:=by
 unfold WorldS.at_ at h;split at h
 ·exact absurd h (by decide)
 ·exact ⟨k.toNat,by omega,by omega⟩
theorem zep {α:Type}{e:TypeId}{sz:Nat}{enc:α→List Value}{a:Option Addr}{n c n' c':Nat}{xs ys:List α}{b:Nat}(h:b∈(zaf e sz enc (.slice a n c) xs).foot):b∈(zaf e sz enc (.slice a n' c') ys).foot:=by
 cases a with
 | none=>simp [zaf,own,Value.ownBlock] at h
 | some a=>simpa [zaf,own,Value.ownBlock] using h
theorem za5 {α:Type}{e:TypeId}{sz:Nat}{enc:α→List Value}{v:Value}{xs:List α}{b:Nat}(h:v.ownBlock=some b):b∈(zaf e sz enc v xs).foot:=by simp [zaf,own,h]
theorem zfQ {vs:List NoteV}{ns:List NoteS}{k b:Nat}(h:b∈(zat (vs.eraseIdx k) (ns.eraseIdx k)).foot):b∈(zat vs ns).foot:=by
 obtain ⟨x,hx,hb⟩:=cellsE_foot.1 h;exact cellsE_foot.2 ⟨x,List.mem_of_mem_eraseIdx hx,hb⟩
def WorldA.off (X:WorldA) (i:Nat):WorldA:={ X with vs:=X.vs.eraseIdx i }
theorem St.takeOff {w0 w w':World}{S:Nat→Prop}{Y Z:SideA}{s t:SideS}{B:List Ent}{i:Nat}(hS:St w0 S w (zc5 X W Y Z s t++B)) (hi:i < X.vs.length) (hx:Ext (fun b=>(Value.slice X.fa X.vs.length X.fc).ownBlock=some b) w w') (ho:(zaf 350 5 zae (.slice X.fa (X.vs.length - 1) X.fc) (X.vs.eraseIdx i)).holds w') :
  St w0 S w' ([blk X.w 162 (ze6 X W),blk Y.s 169 (zcg Y s),blk Z.s 169 (zcg Z t),zaf 98 5 zal (.slice X.ra W.rules.length X.rc) W.rules,zaf 350 5 zae (.slice X.fa (W.fly.eraseIdx i).length X.fc) (X.vs.eraseIdx i),zat (X.vs.eraseIdx i) (W.fly.eraseIdx i),zaf 157 2 zbG (.slice X.ea W.events.length X.ec) W.events]++B):=by
 have hc:(zat X.vs W.fly).holds w:=hS.get 5 rfl;have hl:X.vs.length=W.fly.length:=hc.1;have hle:(W.fly.eraseIdx i).length=X.vs.length - 1:=by rw [List.length_eraseIdx,if_pos (by omega),hl]
 rw [hle];have h1:=hS.upd 4 rfl hx (fun b hb=>za5 (by rw [hl] at hb;exact hb)) zaj ho (fun b hb=>.inl (zep hb));have hc1:(zat X.vs W.fly).holds w':=h1.get 5 rfl;exact h1.upd 5 rfl (T:=No) (Ext.refl _ _) (fun _ h=>h.elim) zaJ (zdZ hc1 i) (fun b hb=>.inl (zfQ hb))
theorem zqn (k:Int) (h:Stands E q m w X W):CallC Tryz.prog 142 #[.pointer (some ⟨X.w,0,none⟩),.int .i64 k] w fun v w'=>v=zc9 E (W.drop k).1∧∃ X',X'.w=X.w∧Turns w w' (zag X W) (zag X' (W.drop k).2):=by
 refine zaa tabOk Tryz.func142 (by kernel_rfl) rfl Tryz.ntmps142 (lbO rfl) ?_;(conv=>whnf);refine (zpl k h).mono ?_;rintro v w1 ⟨rfl,hx⟩;by_cases hu:W.at_ k=0
 case neg =>
  obtain ⟨j,hj⟩:∃ j,W.at_ k=j+1:=⟨W.at_ k - 1,by omega⟩;rw [show W.drop k=(W.at_ k,W) from if_pos hu,hj];repeat' ((conv=>whnf);first|apply RetC.mk|refine rgO ?_|refine ixO ?_|(first|apply brD|apply zad|apply brN|apply brI)<;>(intro))
  exact ⟨rfl,X,rfl,Turns.of_no h.has hx⟩
 rw [show W.drop k=(0,W.off k) from if_neg (fun h=>h hu),hu];obtain ⟨i,rfl,hi⟩:=znE hu;have hflen:=h.ok.fly;have hT:∀ {w'},Turns w w' (zc5 X W X.a X.b W.a W.b) (zc5 (X.off i) (W.off i) X.a X.b W.a W.b)→Turns w w' (zag X W) (zag (X.off i) (W.off i)):=fun k=>Turns.fixed h.has k rfl rfl rfl rfl
 have hS:=h.fix.1.start.no hx;have hc:(zat X.vs W.fly).holds w1:=hS.get 5 rfl;have hl:X.vs.length=W.fly.length:=hc.1;have hrow:(zaf 350 5 zae (.slice X.fa X.vs.length X.fc) X.vs).holds w1:=by rw [hl];exact hS.get 4 rfl
 clear hx;(conv=>whnf);refine hS.ld 0 rfl rfl ?_;(conv=>whnf);refine rgO ?_;rw [← hl];(conv=>whnf);refine (zpN hrow (by omega) (by omega)).mono ?_;rintro v w2 ⟨rfl,hx,ho⟩;replace hS:=St.takeOff (B:=[]) hS (by omega) hx ho;rw [show X.vs.length - 1=(W.fly.eraseIdx i).length by rw [List.length_eraseIdx,if_pos hi,hl]];(conv=>whnf);refine hS.st 0 rfl (lbO rfl) rfl (fun w' hS=>?_);repeat' ((conv=>whnf);first|apply RetC.mk|refine rgO ?_|refine ixO ?_|(first|apply brD|apply zad|apply brN|apply brI)<;>(intro))
 exact ⟨rfl,X.off i,rfl,hT (St.turns hS)⟩
theorem Ev.St.join {w0 w:World}{S:Nat→Prop}{H:List Ent}{e f g:Ent}(h:St w0 S w (e::f::H)) (hl:g.Local) (hh:g.holds w) (hf:∀ b∈g.foot,b∈e.foot∨b∈f.foot):St w0 S w (g::H):=by
 have hap:=List.pairwise_cons.1 h.apart;have hap2:=List.pairwise_cons.1 hap.2;have hm:∀ x∈H,x∈e::f::H:=fun x hx=>List.mem_cons_of_mem _ (List.mem_cons_of_mem _ hx)
 refine ⟨h.ext,?_,?_,?_,.cons ?_ hap2.2⟩
 ·intro x hx;rcases List.mem_cons.1 hx with rfl|hx
  ·exact hh
  ·exact h.each x (hm x hx)
 ·intro x hx;rcases List.mem_cons.1 hx with rfl|hx
  ·exact hl
  ·exact h.loc x (hm x hx)
 ·intro x hx b hb;rcases List.mem_cons.1 hx with rfl|hx
  ·rcases hf b hb with h1|h1
   ·exact h.may e List.mem_cons_self b h1
   ·exact h.may f (List.mem_cons_of_mem _ List.mem_cons_self) b h1
  ·exact h.may x (hm x hx) b hb
 ·intro x hx b hb;rcases hf b hb with h1|h1
  ·exact hap.1 x (List.mem_cons_of_mem _ hx) b h1
  ·exact hap2.1 x hx b h1
theorem Ev.St.ldRow {α:Type}{sz:Nat}{enc:α→List Value}{w0 w:World}{S:Nat→Prop}{H:List Ent}(h:St w0 S w H) (C:Codec sz enc) (i:Nat) {e:TypeId}{b o n c k off:Nat}{xs:List α}{x:α}{K:Value→Prop}(hi:H[i]?=some (zaf e sz enc (.slice (some ⟨b,o,none⟩) n c) xs)) (hx:xs[k]?=some x) (ho:off=o+k * sz) (hk:K (.agg (enc x).toArray)):LdA w b off sz K:=by
 subst ho;have hs:=zap (G:=fun _=>True) C (h.get i hi) (fun _ _=>trivial);obtain ⟨b0,o0,h1,_,hc⟩:=hs.cells k x hx;simp only [Option.some.injEq,Addr.mk.injEq] at h1;obtain ⟨rfl,rfl,_⟩:=h1;exact ⟨enc x,C.len x,hc,hk⟩
theorem Ev.St.ldRowF {α:Type}{sz:Nat}{enc:α→List Value}{w0 w:World}{S T:Nat→Prop}{H:List Ent}(h:St w0 S w H) (C:Codec sz enc) (i:Nat) {e:TypeId}{b o n c k off:Nat}{xs:List α}{x:α}{K:Value→Prop}(hi:H[i]?=some (zaf e sz enc (.slice (some ⟨b,o,none⟩) n c) xs)) (hx:xs[k]?=some x) (ho:off=o+k * sz) (hT:¬ T b) (hk:K (.agg (enc x).toArray)):LdG (Ext T w) b off sz K:=by
 subst ho;have hs:=zap (G:=fun _=>True) C (h.get i hi) (fun _ _=>trivial);obtain ⟨b0,o0,h1,_,hc⟩:=hs.cells k x hx;simp only [Option.some.injEq,Addr.mk.injEq] at h1;obtain ⟨rfl,rfl,_⟩:=h1;exact laFc (C.len x) hc hT hk
theorem zhC {w:World}{vs:List NoteV}{ns:List NoteS}{x:NoteV}{y:NoteS}{k:Nat}(h:(zat vs ns).holds w) (hi:NoteIs x y) (hs:Slc w 10 zac (fun _=>True) x.a x.n y.cells):(zat (vs.take k++x::vs.drop k) (ns.take k++y::ns.drop k)).holds w:=by
 have h1:=zel (zlq h k) (zel (zf3 hi hs) (zlK h k));exact h1
theorem ziv {vs:List NoteV}{ns:List NoteS}{x:NoteV}{y:NoteS}{k b:Nat}(h:b∈(zat (vs.take k++x::vs.drop k) (ns.take k++y::ns.drop k)).foot):b∈(zat vs ns).foot∨b∈zjD x:=by
 obtain ⟨z,hz,hb⟩:=cellsE_foot.1 h;rcases List.mem_append.1 hz with hz|hz
 ·exact .inl (cellsE_foot.2 ⟨z,List.mem_of_mem_take hz,hb⟩)
 rcases List.mem_cons.1 hz with rfl|hz
 ·exact .inr hb
 ·exact .inl (cellsE_foot.2 ⟨z,List.mem_of_mem_drop hz,hb⟩)
theorem zhh {x:NoteV}{b:Nat}(h:b∈zjD x):(Value.slice x.a x.n x.c).ownBlock=some b:=by
 unfold zjD at h;split at h
 ·cases h
 ·simpa using h
theorem zpt (k:Int) (h:Stands E q m w X W):CallC Tryz.prog 144 #[.pointer (some ⟨X.w,0,none⟩),.int .i64 k] w fun v w'=>v=zc9 E (W.twice k).1∧∃ X',X'.w=X.w∧Turns w w' (zag X W) (zag X' (W.twice k).2):=by
 refine zaa tabOk Tryz.func144 (by kernel_rfl) rfl Tryz.ntmps144 (lbO rfl) ?_;(conv=>whnf);refine (zpl k h).mono ?_;rintro v w1 ⟨rfl,hx⟩;by_cases hu:W.at_ k=0
 case neg =>
  obtain ⟨j,hj⟩:∃ j,W.at_ k=j+1:=⟨W.at_ k - 1,by omega⟩;rw [show W.twice k=(W.at_ k,W) from if_pos hu,hj];repeat' ((conv=>whnf);first|apply RetC.mk|refine rgO ?_|refine ixO ?_|(first|apply brD|apply zad|apply brN|apply brI)<;>(intro))
  exact ⟨rfl,X,rfl,Turns.of_no h.has hx⟩
 rw [hu];obtain ⟨i,rfl,hi⟩:=znE hu;have hflen:=h.ok.fly;have hqF:∀ b,inF (zc5 X W X.a X.b W.a W.b) b→q≤b:=h.fix.2;have hS:=h.fix.1.start.no hx;clear hx;(conv=>whnf);refine hS.ld 0 rfl rfl ?_;(conv=>whnf);refine brD (fun h3=>?_) (fun h3=>?_)
 ·rw [show W.twice i=(6,W) by unfold WorldS.twice;rw [if_neg (fun h=>h hu),if_pos (by omega)]];repeat' ((conv=>whnf);first|apply RetC.mk|refine rgO ?_|refine ixO ?_|refine hS.ldr (h.errs.at_ 6 rfl) (Errs.out h.errs 6 rfl hqF) ?_|(first|apply brD|apply zad|apply brN|apply brI)<;>(intro))
  exact ⟨rfl,X,rfl,Turns.frame h.has (St.turns hS)⟩
 have hc:(zat X.vs W.fly).holds w1:=hS.get 5 rfl;have hl:X.vs.length=W.fly.length:=hc.1;obtain ⟨x,hxi⟩:∃ x,X.vs[i]?=some x:=⟨_,List.getElem?_eq_getElem (by omega)⟩;obtain ⟨y,hyi⟩:∃ y,W.fly[i]?=some y:=⟨_,List.getElem?_eq_getElem (by omega)⟩;obtain ⟨hxy,hsl⟩:=zca hc hxi hyi;have hyl:=(h.ok.notes y (List.mem_of_getElem? hyi)).2;have hxn:x.n=y.cells.length:=hsl.len.symm
 obtain ⟨g,o,hfa⟩:∃ g o,X.fa=some ⟨g,o,none⟩:=by
  obtain ⟨b0,o0,h1,_⟩:=(zap (G:=fun _=>True) zak (hS.get 4 rfl) (fun _ _=>trivial)).cells i x hxi;exact ⟨b0,o0,h1⟩
 have hw:W.twice i=(0,{ W with fly:=W.fly.take (i+1)++y::W.fly.drop (i+1) }):=by
  unfold WorldS.twice;rw [if_neg (fun h=>h hu),if_neg (by omega)];show (match W.fly[(i:Int).toNat]? with|none=>_|some x=>_)=_;rw [Int.toNat_natCast,hyi]
 rw [hw];clear hc hsl hw hu
 have hI:∀ {w2:World} {b:Nat} {a':Option Addr} {c':Nat},Has w2 [zaf 350 5 zae (.slice X.fa W.fly.length X.fc) X.vs,blk b 350 (zae (x.with a' c'))]→CallC Tryz.prog 236 #[.slice (some ⟨g,o,none⟩) W.fly.length X.fc,.int .i64 ((i:Int)+1),.slice (some ⟨b,0,none⟩) 1 1] w2 fun v w' =>
   ∃ a2 c2,v = .slice a2 (W.fly.length+1) c2∧Turns w2 w' [zaf 350 5 zae (.slice X.fa W.fly.length X.fc) X.vs,blk b 350 (zae (x.with a' c'))] [zaf 350 5 zae (.slice a2 (W.fly.length+1) c2) (X.vs.take (i+1)++x.with a' c'::X.vs.drop (i+1)),blk b 350 (zae (x.with a' c'))]:=by
  intro w2 b a' c' hH;rw [← hl] at hH ⊢;rw [← hfa];exact zs0 (k:=i+1) hH (by omega) (by omega)
 have hfin:∀ {w':World} {a2 a':Option Addr} {c2 c':Nat},St w (inF (zc5 X W X.a X.b W.a W.b)) w' [blk X.w 162 (ze6 { X with fa:=a2,fc:=c2 } { W with fly:=W.fly.take (i+1)++y::W.fly.drop (i+1) }),blk X.a.s 169 (zcg X.a W.a),blk X.b.s 169 (zcg X.b W.b),zaf 98 5 zal (.slice X.ra W.rules.length X.rc) W.rules,zaf 350 5 zae (.slice a2 (W.fly.length+1) c2) (X.vs.take (i+1)++x.with a' c'::X.vs.drop (i+1)),zat X.vs W.fly,zaf 157 2 zbG (.slice X.ea W.events.length X.ec) W.events,zaf 209 10 zac (.slice a' x.n c') y.cells] →
   ∃ X',X'.w=X.w∧Turns w w' (zag X W) (zag X' { W with fly:=W.fly.take (i+1)++y::W.fly.drop (i+1) }):=by
  intro w' a2 a' c2 c' hS;refine ⟨{ X with fa:=a2,fc:=c2,vs:=X.vs.take (i+1)++x.with a' c'::X.vs.drop (i+1) },rfl,?_⟩;have hcs:Slc w' 10 zac (fun _=>True) a' x.n y.cells:=zap zau (hS.get 7 rfl) (fun _ _=>trivial);have hS2:=(hS.sel [5,7,0,1,2,3,4,6] (by decide)).join (g:=zat (X.vs.take (i+1)++x.with a' c'::X.vs.drop (i+1)) (W.fly.take (i+1)++y::W.fly.drop (i+1))) zaJ (zhC (hS.get 5 rfl) ⟨hxy.fro,hxy.life,hxy.epoch,hxy.claim⟩ hcs) (fun b hb=>(ziv hb).imp id fun h=>za5 (zhh h))
  have hll:(W.fly.take (i+1)++y::W.fly.drop (i+1)).length=W.fly.length+1:=by
   simp only [List.length_append,List.length_cons,List.length_take,List.length_drop];omega
  rw [← hll] at hS2;exact Turns.fixed h.has (St.turns (hS2.sel [1,2,3,4,5,0,6] (by decide))) rfl rfl rfl rfl
 have hll:(W.fly.take (i+1)++y::W.fly.drop (i+1)).length=W.fly.length+1:=by
  simp only [List.length_append,List.length_cons,List.length_take,List.length_drop];omega
 conv=>whnf
 refine zeI tabOk mixed [4,10,13] (fun _=>True) (.take 0 (.take 1 (.take 2 (.take 3 (.take 5 (.take 6 (.take 7 (.take 8 (.take 9 (.take 11 (.alt 4 (.alt 10 (.take 12 (.alt 13 (.alt 14 (.alt 15 (.alt 16 (.take 17 (.take 18 (.alt 19 .fin .fin))) .fin) .fin) .fin) .fin)) .fin) (.alt 10 (.take 12 (.alt 4 (.alt 13 (.alt 14 (.alt 15 (.alt 16 (.take 17 (.take 18 (.alt 19 .fin .fin))) .fin) .fin) .fin) .fin) (.alt 13 (.alt 4 (.alt 14 (.alt 15 (.alt 16 (.take 17 (.take 18 (.alt 19 .fin .fin))) .fin) .fin) .fin) (.alt 14 (.alt 4 (.alt 15 (.alt 16 (.take 17 (.take 18 (.alt 19 .fin .fin))) .fin) .fin) (.alt 15 (.alt 4 (.alt 16 (.take 17 (.take 18 (.alt 19 .fin .fin))) .fin) .fin) .fin)) .fin)) .fin))) .fin)))))))))))) (by kernel_rfl) ?_;rintro w1 rfl;replace hS:=hS.drew;have hK:=hS.ref (fun _=>True);repeat' ((conv=>whnf);first|apply RetC.mk|refine rgO ?_|refine ixO ?_|refine hS.ld 0 rfl (v:=.slice (some ⟨g,o,none⟩) W.fly.length X.fc) (by rw [← hfa];rfl) (KeepC.mk hK ?_)|refine hS.ldRow zak 4 (by rw [← hfa];rfl) hxi rfl (KeepC.mk hK ?_)|(refine (zoX (zca (hS.get 5 rfl) hxi hyi).2 (by omega)).mono ?_;rintro v w2 ⟨a',c',rfl,hx,ho,hf⟩;replace hS:=hS.made hx zaj ho (fun g hg=>hf g (by simpa [zaf,own] using hg));replace hK:=hK.trans hx.of_no;clear hx ho hf;refine KeepC.mk hK ?_)|(refine hS.litX Tryz.underlying160 (sz:=5) (by kernel_rfl) (z:=.agg (zae zcx).toArray) (by kernel_rfl) rfl rfl (cs:=zae (x.with a' c')) (by rfl) (fun b9 w3 hb9 hx hS=>?_);replace hK:=hK.trans hx.of_no;clear hx;refine KeepC.mk hK ?_)|(have hS2:=hS.sel [4,8,0,1,2,3,5,6,7] (by decide);refine (hI (Has.left (A:=[_,_]) (B:=[_,_,_,_,_,_,_]) hS2.has)).mono ?_;rintro v w4 ⟨a2,c2,rfl,hk⟩;replace hS:=(St.call (H:=[_,_]) (B:=[_,_,_,_,_,_,_]) hS2 hk).sel [2,3,4,5,0,6,7,8] (by decide);replace hK:=hK.trans (hk.ext.mono fun _ _=>trivial);clear hS2 hk;refine KeepC.mk hK ?_)|(refine hS.stK hK 0 rfl (lbO rfl) rfl trivial (fun w' hK hS=>KeepC.mk hK ?_))|(refine ⟨rfl,hfin (a2:=a2) (a':=a') (c2:=c2) (c':=c') ?_⟩;rw [← hll] at hS ⊢;exact hS)|refine And.intro ?_ ?_|(first|apply brD|apply zad|apply brN|apply brI)<;>(intro))
theorem zog {G:Int × Int→Prop}{a:Option Addr}{n c:Nat}{xs:List (Int × Int)}(hx:Slc w 2 zbG G a n xs) (hn:n≤2000) :
  CallC Tryz.prog 121 #[.slice a n c] w fun v w'=>∃ a' c',v = .slice a' n c'∧Ext No w w'∧(zaf 157 2 zbG v xs).holds w'∧zc0 w w' v:=by
 have hl:=hx.len;refine zaa tabOk Tryz.func121 (by kernel_rfl) rfl Tryz.ntmps121 (lbO rfl) ?_;have hS:=St.start w No;cases a with
 | none =>
  have hn0:n=0:=by
   rcases Nat.eq_zero_or_pos n with h|h
   ·exact h
   ·obtain ⟨_,_,_,_,_,h,_⟩:=hx.at h;cases h
  subst hn0;obtain rfl:xs=[]:=List.length_eq_zero_iff.1 hl;repeat' ((conv=>whnf);first|apply RetC.mk|refine rgO ?_|refine ixO ?_|(first|apply brD|apply zad|apply brN|apply brI)<;>(intro))
  have hS:=hS.addNil 157 2 zbG;exact ⟨none,0,rfl,hS.ext,hS.get 0 rfl,hS.freshAt 0 rfl⟩
 | some a0 =>
  (conv=>whnf);refine hS.lit0 Tryz.underlying73 (sz:=2) (by kernel_rfl) (fun b0 w1 hS=>?_);(conv=>whnf);refine hS.appS zkF 0 (xs:=[]) Tryz.underlying73 (bytes:=16) (by kernel_rfl) (z:=.agg (zbG (0,0)).toArray) (by kernel_rfl) rfl rfl (hx.no hS.ext) (by unfold maxLen;simp;omega) (by simp;omega) (fun a' c' w' hS=>?_);repeat' ((conv=>whnf);first|apply RetC.mk|refine rgO ?_|refine ixO ?_|(first|apply brD|apply zad|apply brN|apply brI)<;>(intro))
  have hn0:([]:List (Int × Int)).length+n=n:=by simp
  rw [hn0] at hS ⊢;exact ⟨a',c',rfl,hS.ext,hS.get 0 rfl,hS.freshAt 0 rfl⟩
theorem znw (h:Stands E q m w X W):CallC Tryz.prog 70 #[.pointer (some ⟨X.w,0,none⟩)] w fun v w'=>∃ a' c',v = .slice a' W.events.length c'∧Ext No w w'∧(zaf 157 2 zbG v W.events).holds w'∧zc0 w w' v:=by
 have he:=h.ok.events;refine zaa tabOk Tryz.func70 (by kernel_rfl) rfl Tryz.ntmps70 (lbO rfl) ?_;have hS:=h.fix.1.start;(conv=>whnf);refine hS.ld 0 rfl rfl ?_;(conv=>whnf);refine (zog (zap (G:=fun _=>True) zkF (hS.get 6 rfl) (fun _ _=>trivial)) (by omega)).mono ?_;rintro v w' ⟨a',c',rfl,hx,ho,hf⟩;repeat' ((conv=>whnf);first|apply RetC.mk|refine rgO ?_|refine ixO ?_|(first|apply brD|apply zad|apply brN|apply brI)<;>(intro))
 exact ⟨a',c',rfl,hx,ho,hf⟩
end
section
variable {w w' : World} {X : WorldA} {W : WorldS} {E : Nat → Addr} {q m : Nat}
theorem zi9 {i:Nat}{g o:Nat}(hfa:X.fa=some ⟨g,o,none⟩) (hl:X.vs.length=W.fly.length) (hi:i < W.fly.length) (hm:W.fly.length≤200) {w2:World}(ho:(zaf 350 5 zae (.slice X.fa W.fly.length X.fc) X.vs).holds w2) :
  CallC Tryz.prog 234 #[.slice (some ⟨g,o,none⟩) W.fly.length X.fc,.int .i64 (i:Int),.int .i64 ((i:Int)+1)] w2 fun v w' =>
   v = .slice (some ⟨g,o,none⟩) (W.fly.eraseIdx i).length X.fc∧Ext (fun b=>(Value.slice X.fa W.fly.length X.fc).ownBlock=some b) w2 w'∧(zaf 350 5 zae (.slice X.fa (W.fly.eraseIdx i).length X.fc) (X.vs.eraseIdx i)).holds w':=by
 rw [show (W.fly.eraseIdx i).length=X.vs.length - 1 by rw [List.length_eraseIdx,if_pos hi,hl],← hfa];rw [← hl] at ho ⊢;exact zpN ho (by omega) (by omega)
def zuK (X:WorldA) (W:WorldS) (i:Nat) (Y Z:SideA) (s t:SideS):List Ent:=[blk X.w 162 (ze6 X (W.off i)),blk Y.s 169 (zcg Y s),blk Z.s 169 (zcg Z t),zaf 98 5 zal (.slice X.ra W.rules.length X.rc) W.rules,zaf 350 5 zae (.slice X.fa (W.fly.eraseIdx i).length X.fc) (X.vs.eraseIdx i),zat X.vs W.fly,zaf 157 2 zbG (.slice X.ea W.events.length X.ec) W.events]
theorem St.gotOff {w0 w:World}{S:Nat→Prop}{i:Nat}{Y Z:SideA}{s t:SideS}{B:List Ent}(hS:St w0 S w (zuK X W i Y Z s t++B)):St w0 S w (zc5 (X.off i) (W.off i) Y Z s t++B):=by
 have hc1:(zat X.vs W.fly).holds w:=hS.get 5 rfl;exact hS.upd 5 rfl (T:=No) (Ext.refl _ _) (fun _ h=>h.elim) zaJ (zdZ hc1 i) (fun b hb=>.inl (zfQ hb))
theorem zhb (k:Int) (h:Stands E q m w X W):CallC Tryz.prog 140 #[.pointer (some ⟨X.w,0,none⟩),.int .i64 k] w fun v w'=>v=zc9 E (W.deliver k).1∧∃ X',X'.w=X.w∧Turns w w' (zag X W) (zag X' (W.deliver k).2):=by
 refine zaa tabOk Tryz.func140 (by kernel_rfl) rfl Tryz.ntmps140 (lbO rfl) ?_;(conv=>whnf);refine (zpl k h).mono ?_;rintro v w1 ⟨rfl,hx⟩;by_cases hu:W.at_ k=0
 case neg =>
  obtain ⟨j,hj⟩:∃ j,W.at_ k=j+1:=⟨W.at_ k - 1,by omega⟩;rw [show W.deliver k=(W.at_ k,W) from if_pos hu,hj];repeat' ((conv=>whnf);first|apply RetC.mk|refine rgO ?_|refine ixO ?_|(first|apply brD|apply zad|apply brN|apply brI)<;>(intro))
  exact ⟨rfl,X,rfl,Turns.of_no h.has hx⟩
 rw [hu];obtain ⟨i,rfl,hi⟩:=znE hu;have hflen:=h.ok.fly;have hc:(zat X.vs W.fly).holds w:=h.has.get 5 rfl;have hl:X.vs.length=W.fly.length:=hc.1;obtain ⟨x,hxi⟩:∃ x,X.vs[i]?=some x:=⟨_,List.getElem?_eq_getElem (by omega)⟩;obtain ⟨y,hyi⟩:∃ y,W.fly[i]?=some y:=⟨_,List.getElem?_eq_getElem (by omega)⟩;obtain ⟨hxy,hsl⟩:=zca hc hxi hyi;obtain ⟨hyf,hyl⟩:=h.ok.notes y (List.mem_of_getElem? hyi);have hxn:x.n=y.cells.length:=hsl.len.symm
 obtain ⟨g,o,hfa⟩:∃ g o,X.fa=some ⟨g,o,none⟩:=by
  obtain ⟨b0,o0,h1,_⟩:=(zap (G:=fun _=>True) zak (h.has.get 4 rfl) (fun _ _=>trivial)).cells i x hxi;exact ⟨b0,o0,h1⟩
 have hw:W.deliver i=(0,(W.off i).got y):=by
  unfold WorldS.deliver;rw [if_neg (fun h=>h hu)];show (match W.fly[(i:Int).toNat]? with|none=>_|some x=>_)=_;rw [Int.toNat_natCast,hyi]
 rw [hw];clear hc hsl hw hu;cases hcl:y.claim
 case true =>
  have hxc:x.claim=true:=hxy.claim.trans hcl;have hS:=h.fix.1.start.no hx;clear hx;(conv=>whnf);refine hS.ld 0 rfl (v:=.slice (some ⟨g,o,none⟩) W.fly.length X.fc) (by rw [← hfa];rfl) ?_;(conv=>whnf);refine ixO ?_;(conv=>whnf);refine hS.ldRow zak 4 (by rw [← hfa];rfl) hxi rfl ?_;(conv=>whnf);refine hS.new (fun b6 w2 hb6 hS=>?_);(conv=>whnf);refine hS.st 7 rfl (lbO rfl) rfl (fun w3 hS=>?_);(conv=>whnf);refine hS.ld 0 rfl (v:=.slice (some ⟨g,o,none⟩) W.fly.length X.fc) (by rw [← hfa];rfl) ?_;(conv=>whnf);refine rgO ?_;(conv=>whnf);refine (zi9 hfa hl hi hflen (hS.get 4 rfl)).mono ?_;rintro v w4 ⟨rfl,hx,ho⟩;replace hS:=hS.upd 4 rfl hx (fun b hb=>za5 hb) zaj ho (fun b hb=>.inl (zep hb));clear hx ho;(conv=>whnf);refine hS.st 0 rfl (by exact Nat.le_of_ble_eq_true rfl) rfl (fun w5 hS=>?_);(conv=>whnf);rw [← hfa] at hS;replace hS:St w (inF (zc5 X W X.a X.b W.a W.b)) w5 (zuK X W i X.a X.b W.a W.b++[blk b6 350 (zae x)]):=hS;refine hS.ld 7 rfl (v:=.bool true) (by rw [← hxc];rfl) ?_;have hxe:=hxy.epoch;have hxf:=hxy.fro;have e1:(W.off (i:Int)).epoch=W.epoch:=rfl;have e2:(W.off (i:Int)).to=W.to:=rfl
  have hg1:y.epoch > W.epoch∨W.to < 0→(W.off i).got y={ W.off i with to:=x.fro,epoch:=x.epoch }:=fun h=>by
   unfold WorldS.got;rw [if_pos hcl,hxe,hxf];exact if_pos h
  have hg2:¬ (y.epoch > W.epoch∨W.to < 0)→(W.off i).got y=W.off i:=fun h=>by
   unfold WorldS.got;rw [if_pos hcl];exact if_neg h
  have hT:∀ {w':World} {W':WorldS},W'.a=W.a→W'.b=W.b→Turns w w' (zc5 X W X.a X.b W.a W.b) (zc5 (X.off i) W' X.a X.b W.a W.b)→Turns w w' (zag X W) (zag (X.off i) W'):=fun ha hb k=>Turns.fixed h.has k rfl rfl ha hb
  have hne:=hS.ne 7 0 rfl rfl (by decide);(conv=>whnf)
  (refine zah tabOk mixed [] No [0,1,2,3,4,5,6,7,8,9,10,11,12,13] (by kernel_rfl) ?_;rintro w1 rfl;replace hS:=hS.drew)
  repeat' ((conv=>whnf);first|apply RetC.mk|refine rgO ?_|refine ixO ?_|refine hS.ldF 7 rfl rfl id ?_|refine hS.ldF 0 rfl rfl id ?_|(first|apply brD|apply zad|apply brN|apply brI)<;>(intro))
  all_goals first
   | (rw [hg2 (by omega)];exact ⟨rfl,X.off i,rfl,hT rfl rfl (St.turns (St.gotOff (B:=[]) (hS.keep 7)))⟩)
   | (rw [hg1 (by omega)];
        (refine zah tabOk mixed [] (fun b=>b=X.w) [0,1,2,3,4,5,6,7,8,9,10,11] (by kernel_rfl) ?_;rintro w1 rfl;replace hS:=hS.drew);
        have hK:=hS.ref (fun b=>b=X.w);
        (repeat' ((conv=>whnf);first|apply RetC.mk|refine rgO ?_|refine ixO ?_|refine hS.ldF 7 rfl rfl hne ?_|(refine hS.stK hK 0 rfl (by exact Nat.le_of_ble_eq_true rfl) rfl rfl (fun w' hK hS=>KeepC.mk hK ?_))|(first|apply brD|apply zad|apply brN|apply brI)<;>(intro)));
        exact ⟨rfl,X.off i,rfl,hT rfl rfl (St.turns (St.gotOff (W:={ W with to:=x.fro,epoch:=x.epoch }) (B:=[]) (hS.keep 7)))⟩)
 case false =>
  have hxc:x.claim=false:=hxy.claim.trans hcl;have hn:1 - y.fro=0∨1 - y.fro=1:=by omega
  have hxf:=hxy.fro;cases hN:(W.side (1 - y.fro)).node with
  | none =>
   have hS:=h.fix.1.start.no hx;clear hx;(conv=>whnf);refine hS.ld 0 rfl (v:=.slice (some ⟨g,o,none⟩) W.fly.length X.fc) (by rw [← hfa];rfl) ?_;(conv=>whnf);refine ixO ?_;(conv=>whnf);refine hS.ldRow zak 4 (by rw [← hfa];rfl) hxi rfl ?_;(conv=>whnf);refine hS.new (fun b6 w2 hb6 hS=>?_);(conv=>whnf);refine hS.st 7 rfl (lbO rfl) rfl (fun w3 hS=>?_);(conv=>whnf);refine hS.ld 0 rfl (v:=.slice (some ⟨g,o,none⟩) W.fly.length X.fc) (by rw [← hfa];rfl) ?_;(conv=>whnf);refine rgO ?_;(conv=>whnf);refine (zi9 hfa hl hi hflen (hS.get 4 rfl)).mono ?_;rintro v w4 ⟨rfl,hx,ho⟩;replace hS:=hS.upd 4 rfl hx (fun b hb=>za5 hb) zaj ho (fun b hb=>.inl (zep hb));clear hx ho;(conv=>whnf);refine hS.st 0 rfl (by exact Nat.le_of_ble_eq_true rfl) rfl (fun w5 hS=>?_);(conv=>whnf);rw [← hfa] at hS;replace hS:St w (inF (zc5 X W X.a X.b W.a W.b)) w5 (zuK X W i X.a X.b W.a W.b++[blk b6 350 (zae x)]):=hS;refine hS.ld 7 rfl (v:=.bool false) (by rw [← hxc];rfl) ?_
   have hg:(W.off i).got y=W.off i:=by
    unfold WorldS.got;rw [if_neg (by rw [hcl];decide),if_neg (by omega)];show (match (W.side (1 - y.fro)).node with|none=>_|some N=>_)=_;rw [hN]
   have hk:Turns w w5 (zag X W) (zag (X.off i) (W.off i)):=Turns.fixed h.has (St.turns (St.gotOff (B:=[]) (hS.keep 7))) rfl rfl rfl rfl;have hst:Stands E q m w5 (X.off i) (W.off i):=h.turns hk (h.ok.off i);rw [hg];(conv=>whnf);refine hS.ld 7 rfl rfl ?_;(conv=>whnf);refine rgO ?_;(conv=>whnf);rw [hxf];refine (zgX (1 - y.fro) hst).mono ?_;rintro v w6 ⟨rfl,hx⟩;rw [zbC (W:=W.off i) hn hN];repeat' ((conv=>whnf);first|apply RetC.mk|refine rgO ?_|refine ixO ?_|(first|apply brD|apply zad|apply brN|apply brI)<;>(intro))
   exact ⟨rfl,X.off i,rfl,hk.trans (Turns.of_no hst.has hx)⟩
  | some N =>
   obtain ⟨hH,hQ⟩:=h.half hn;have hnk:=((h.ok.side hn).node N hN).1
   have hT:∀ {w'},Turns w w' (zb3 X W (1 - y.fro)) (zc5 (X.off i) (W.off i) (X.side (1 - y.fro)) (X.side (1 - (1 - y.fro))) ⟨some (N.hear y).2,(W.side (1 - y.fro)).byt⟩ (W.side (1 - (1 - y.fro)))++zaU (X.side (1 - y.fro)).A (N.hear y).2 (W.side (1 - y.fro)).byt)→Turns w w' (zag X W) (zag (X.off i) ((W.off i).got y)):=fun k=>by
    have hg:(W.off i).got y=(W.off i).setSide (1 - y.fro) ⟨some (N.hear y).2,(W.side (1 - y.fro)).byt⟩:=by
     unfold WorldS.got;rw [if_neg (by rw [hcl];decide),if_neg (by omega)];show (match (W.side (1 - y.fro)).node with|none=>_|some N=>_)=_;rw [hN];rfl
    rw [hg];refine Turns.world h.has hn (X':=X.off i) ?_ rfl (ziZ (X:=X.off i) (W:=W.off i) hn ((X.off i).side (1 - y.fro)) _).2.2.2;have:=zmk (X:=X.off i) (W:=W.off i) hn (Y:=(X.off i).side (1 - y.fro)) rfl ⟨some (N.hear y).2,(W.side (1 - y.fro)).byt⟩;rw [zcI hn] at this;rw [this];exact k
   have hS:=hH.start.no hx;clear hx;rw [zb2 hN] at hS;(conv=>whnf);refine hS.ld 0 rfl (v:=.slice (some ⟨g,o,none⟩) W.fly.length X.fc) (by rw [← hfa];rfl) ?_;(conv=>whnf);refine ixO ?_;(conv=>whnf);refine hS.ldRow zak 4 (by rw [← hfa];rfl) hxi rfl ?_;(conv=>whnf);refine hS.new (fun b6 w2 hb6 hS=>?_);(conv=>whnf);refine hS.st 15 rfl (lbO rfl) rfl (fun w3 hS=>?_);(conv=>whnf);refine hS.ld 0 rfl (v:=.slice (some ⟨g,o,none⟩) W.fly.length X.fc) (by rw [← hfa];rfl) ?_;(conv=>whnf);refine rgO ?_;(conv=>whnf);refine (zi9 hfa hl hi hflen (hS.get 4 rfl)).mono ?_;rintro v w4 ⟨rfl,hx,ho⟩;replace hS:=hS.upd 4 rfl hx (fun b hb=>za5 hb) zaj ho (fun b hb=>.inl (zep hb));clear hx ho;(conv=>whnf);refine hS.st 0 rfl (by exact Nat.le_of_ble_eq_true rfl) rfl (fun w5 hS=>?_);(conv=>whnf);rw [← hfa] at hS;replace hS:St w (inF (zc5 X W (X.side (1 - y.fro)) (X.side (1 - (1 - y.fro))) ⟨some N,(W.side (1 - y.fro)).byt⟩ (W.side (1 - (1 - y.fro)))++zaU (X.side (1 - y.fro)).A N (W.side (1 - y.fro)).byt)) w5 (zuK X W i (X.side (1 - y.fro)) (X.side (1 - (1 - y.fro))) ⟨some N,(W.side (1 - y.fro)).byt⟩ (W.side (1 - (1 - y.fro)))++(zaU (X.side (1 - y.fro)).A N (W.side (1 - y.fro)).byt++[blk b6 350 (zae x)])):=hS;refine hS.ld 15 rfl (v:=.bool false) (by rw [← hxc];rfl) ?_
   have hst:Stands E q m w5 (X.off i) (W.off i):=by
    refine h.turns (m':=m) ?_ (h.ok.off i);refine Turns.world h.has hn (X':=X.off i) ?_ rfl rfl;have:=St.turns (St.gotOff (B:=zaU (X.side (1 - y.fro)).A N (W.side (1 - y.fro)).byt) (hS.keep 15));rw [← zb2 hN] at this;have h2:=zb2 (X:=X.off i) (W:=W.off i) (n:=1 - y.fro) hN;rw [h2];exact this
   (conv=>whnf);refine hS.ld 15 rfl rfl ?_;(conv=>whnf);refine rgO ?_;(conv=>whnf);rw [hxf];refine (zgX (1 - y.fro) hst).mono ?_;rintro v w6 ⟨rfl,hx⟩;replace hS:=hS.no hx;rw [zbr (W:=W.off i) hn hN,if_pos rfl];clear hx hst;rw [zb2 hN] at hT hQ;have hE:=h.errs.ext hS.ext hQ;have hQ':High (zaC (X.side (1 - y.fro)).A N) q:=hQ.app.2.app.1;have hs:=hS.notin 1 7 7 rfl (List.mem_singleton.2 rfl) (.inl (by decide));have hp:=hS.notin 15 7 7 rfl (List.mem_singleton.2 rfl) (.inr (by decide));have hsrc:0 < x.n→∀ b0 o0,x.a=some ⟨b0,o0,none⟩→¬ inF (zaC (X.side (1 - y.fro)).A N) b0:=fun h0 b0 o0 ha=>hS.notin 5 7 7 (e:=zat X.vs W.fly) rfl (cellsE_foot.2 ⟨x,List.mem_of_getElem? hxi,zi6 h0 ha⟩) (.inl (by decide))
   conv=>whnf
   (refine zah tabOk mixed [] (inF (zaC (X.side (1 - y.fro)).A N)) [0,1,2,3,4,5] (by kernel_rfl) ?_;rintro w1 rfl;replace hS:=hS.drew)
   (conv=>whnf);refine hS.ldF 1 rfl (v:=.pointer (some ⟨(X.side (1 - y.fro)).A.n,0,none⟩)) rfl hs ?_;(conv=>whnf);refine hS.laXF 15 rfl rfl hp ?_;(conv=>whnf);have hw3:Has _ (zaC (X.side (1 - y.fro)).A N):=Has.left (B:=[_,_]) (Has.right (A:=[_,_,_,_,_,_,_]) hS.has)
   have hyx:(⟨x.fro,x.life,x.epoch,x.claim,y.cells⟩:NoteS)=y:=by
    obtain ⟨f,l,e,c,cs⟩:=y;simp only [NoteS.mk.injEq,and_true];exact ⟨hxy.fro,hxy.life,hxy.epoch,hxy.claim⟩
   refine (zrh x y.cells (zca (hS.get 5 rfl) hxi hyi).2 hsrc hw3 hnk ((hE.ext (Ext.drawn No _ _) fun _ h=>h.elim).sub rfl) hQ').mono ?_;rintro v w' ⟨rfl,hk⟩;refine KeepC.mk hk.ext ?_;rw [hyx] at hk;replace hS:=St.callAt (A:=zuK X W i (X.side (1 - y.fro)) (X.side (1 - (1 - y.fro))) ⟨some N,(W.side (1 - y.fro)).byt⟩ (W.side (1 - (1 - y.fro)))) (B:=[_,_]) hS hk;repeat' ((conv=>whnf);first|apply RetC.mk|refine rgO ?_|refine ixO ?_|(first|apply brD|apply zad|apply brN|apply brI)<;>(intro))
   exact ⟨rfl,X.off i,rfl,hT (St.turns (St.gotOff (B:=zaU (X.side (1 - y.fro)).A (N.hear y).2 (W.side (1 - y.fro)).byt) (hS.keep 15)))⟩
end
section
variable {w w' : World} {X : WorldA} {W : WorldS} {E : Nat → Addr} {q m : Nat}
theorem zs5 {Y Z:SideA}{A:NodeA}{N:NodeS}{B:BytS}{t:SideS}(hb:A.b=Y.A.b):zc5 X W ⟨Y.s,A⟩ Z ⟨some N,B⟩ t=[blk X.w 162 (ze6 X W),blk Y.s 169 [.pointer (some ⟨A.n,0,none⟩),.pointer (some ⟨Y.A.b,0,none⟩)],blk Z.s 169 (zcg Z t),zaf 98 5 zal (.slice X.ra W.rules.length X.rc) W.rules,zaf 350 5 zae (.slice X.fa W.fly.length X.fc) X.vs,zat X.vs W.fly,zaf 157 2 zbG (.slice X.ea W.events.length X.ec) W.events]:=by
 rw [← hb];rfl
theorem zrS (n:Int) (h:Stands E q m w X W):CallC Tryz.prog 148 #[.pointer (some ⟨X.w,0,none⟩),.int .i64 n] w fun v w'=>v=zc9 E (W.up n).1∧∃ X',X'.w=X.w∧Turns w w' (zag X W) (zag X' (W.up n).2):=by
 have hqw:∀ b,inF (zag X W) b→q≤b:=h.high;by_cases hn:n=0∨n=1
 case neg =>
  rw [show W.up n=(2,W) from if_pos (by omega)];refine zaa tabOk Tryz.func148 (by kernel_rfl) rfl Tryz.ntmps148 (lbO rfl) ?_;have hS:=h.has.start;(conv=>whnf);refine zad (fun h1=>?_) (fun h1=>absurd (.inl h1) hn);(conv=>whnf);refine zad (fun h1=>?_) (fun h1=>absurd (.inr h1) hn);repeat' ((conv=>whnf);first|apply RetC.mk|refine rgO ?_|refine ixO ?_|refine hS.ldr (h.errs.at_ 2 rfl) (Errs.out h.errs 2 rfl hqw) ?_|(first|apply brD|apply zad|apply brN|apply brI)<;>(intro))
  exact ⟨rfl,X,rfl,Turns.refl h.has⟩
 obtain ⟨hH,hQ⟩:=h.half hn;have hqF:∀ b,inF (zb3 X W n) b→q≤b:=hQ;cases hN:(W.side n).node with
 | some N =>
  rw [show W.up n=(11,W) by unfold WorldS.up;rw [if_neg (by omega),hN]];rcases hn with rfl|rfl
  all_goals
   refine zaa tabOk Tryz.func148 (by kernel_rfl) rfl Tryz.ntmps148 (lbO rfl) ?_;have hS:=hH.start;(conv=>whnf);refine IdxC.mk (by decide) (by decide) ?_;(conv=>whnf);refine hS.ld 0 rfl rfl ?_;(conv=>whnf);refine hS.ld 1 rfl (v:=.pointer (some ⟨(X.side _).A.n,0,none⟩)) (by rw [zcr hN];rfl) ?_;repeat' ((conv=>whnf);first|apply RetC.mk|refine rgO ?_|refine ixO ?_|refine hS.ldr (h.errs.at_ 11 rfl) (Errs.out h.errs 11 rfl hqF) ?_|(first|apply brD|apply zad|apply brN|apply brI)<;>(intro))
   exact ⟨rfl,X,rfl,Turns.refl h.has⟩
 | none =>
  have hw:W.up n=if (zbL n (onB (W.side n).byt) W.rules).1≠0 then ((zbL n (onB (W.side n).byt) W.rules).1,W.setSide n ⟨none,(zbL n (onB (W.side n).byt) W.rules).2.2⟩)
    else (0,W.setSide n ⟨some (zbL n (onB (W.side n).byt) W.rules).2.1,(zbL n (onB (W.side n).byt) W.rules).2.2⟩):=by
   unfold WorldS.up;rw [if_neg (by omega),hN]
  rw [hw];have hBk:=(h.ok.side hn).bok;have hBo:=zpg hBk;have hgr:=h.ok.rules;have hT:∀ {w'} {Y:SideA} {s:SideS},Y.s=(X.side n).s→Turns w w' (zb3 X W n) (zc5 X W Y (X.side (1 - n)) s (W.side (1 - n))++zdM Y s)→∃ X',X'.w=X.w∧Turns w w' (zag X W) (zag X' (W.setSide n s)):=fun {w'} {Y} {s} hY k=>⟨X.setSide n Y,by rcases hn with rfl|rfl<;>rfl,Turns.side h.has hn hY k⟩
  have hbq:q≤(X.side n).A.b:=by
   have h1:=hQ;rw [zjC hN] at h1;exact h1 _ ⟨_,List.mem_of_getElem? (i:=7) rfl,List.mem_singleton.2 rfl⟩
  have hD:=zjC (X:=X) hN
  have hns:∀ {w':World} {L:List Ent},St w (inF (zb3 X W n)) w' L→L[3]?=some (zaf 98 5 zal (.slice X.ra W.rules.length X.rc) W.rules)→L[7]?=some (blk (X.side n).A.b 253 (zaE (onB (W.side n).byt)))→Slc w' 5 zal (fun _=>True) X.ra W.rules.length W.rules∧(0 < W.rules.length→∀ b0 o0,X.ra=some ⟨b0,o0,none⟩→b0≠(X.side n).A.b):=by
   intro w' L hS h3 h7;refine ⟨zap zeQ (hS.get 3 h3) (fun _ _=>trivial),fun _ b0 o0 ha he=>?_⟩;exact hS.apartAt 3 7 h3 h7 (by decide) b0 (za5 (by rw [ha];rfl)) (by rw [he];exact List.mem_singleton.2 rfl)
  generalize hR:zbL n (onB (W.side n).byt) W.rules=R;obtain ⟨T,hTT⟩:∃ T:Nat→Prop,∀ d,T d↔d=(X.side n).A.b:=⟨fun d=>d=(X.side n).A.b,fun _=>Iff.rfl⟩;obtain ⟨L,hL⟩:∃ L:NodeA→SideA,∀ A,(L A).s=(X.side n).s∧(L A).A=A:=⟨fun A=>⟨(X.side n).s,A⟩,fun _=>⟨rfl,rfl⟩⟩;rcases hn with rfl|rfl
  all_goals
   refine zaa tabOk Tryz.func148 (by kernel_rfl) rfl Tryz.ntmps148 (lbO rfl) ?_;have hS:=hH.start;rw [hD] at hS hT;rw [hD] at hns hqF;(conv=>whnf);refine IdxC.mk (by decide) (by decide) ?_;(conv=>whnf);refine hS.ld 0 rfl rfl ?_;(conv=>whnf);refine hS.ld 1 rfl rfl ?_;(conv=>whnf);refine hS.ld 1 rfl rfl ?_;(conv=>whnf);refine (zuR (hS.blk 7 rfl) hBk.len).mono ?_;rintro v w' ⟨hx,hB⟩;replace hS:=hS.upd 7 rfl hx (fun c hc=>by subst hc;exact List.mem_singleton.2 rfl) (zab _ _ _) hB (fun c hc=>.inl hc);clear hx hB;obtain ⟨hsl,hsrc⟩:=hns hS rfl rfl;have hn1:=hS.ne 1 7 rfl rfl (by decide);have hn0:=hS.ne 0 7 rfl rfl (by decide);have hE:=h.errs.ext hS.ext hqF;(conv=>whnf)
   (refine zah tabOk mixed [] (T) [0,1,2,3,4,5,6,7,8,9,10,11,12,13,14] (by kernel_rfl) ?_;rintro w1 rfl;replace hS:=hS.drew)
   have hK:=hS.ref T;(conv=>whnf);refine hS.ldF 1 rfl rfl (fun ht=>hn1 ((hTT _).1 ht)) ?_;(conv=>whnf);refine hS.ldF 0 rfl rfl (fun ht=>hn0 ((hTT _).1 ht)) ?_;(conv=>whnf);refine (zlL _ (by decide) (hsl.no (Ext.drawn _ _ _)) (by have:=hgr.1;omega) (fault_good.2 hgr) hsrc (hS.blk 7 rfl) hBo rfl ((hE.ext (Ext.drawn No _ _) fun _ h=>h.elim).sub rfl) hbq).mono ?_;rintro v w6 hnew;have hR':zbL _ ⟨(W.side _).byt.data,false,-1⟩ W.rules=R:=hR;rw [hR'] at hnew;rcases hnew with ⟨h0,A,hAb,rfl,hk⟩ | ⟨h0,rfl,hk,hB⟩
   ·rw [if_neg (fun h=>h h0)];replace hK:=hK.trans (hk.ext.mono fun d hd=>(hTT d).2 (by obtain ⟨e,he,hd⟩:=hd;obtain rfl:=List.mem_singleton.1 he;exact List.mem_singleton.1 hd));refine KeepC.mk hK ?_;have hS2:=St.callAt (A:=[_,_,_,_,_,_,_]) (B:=[]) hS hk;(conv=>whnf);refine hS2.st 1 rfl (by exact Nat.le_of_ble_eq_true rfl) rfl (fun w' hS3=>?_);repeat' ((conv=>whnf);first|apply RetC.mk|refine rgO ?_|refine ixO ?_|(first|apply brD|apply zad|apply brN|apply brI)<;>(intro))
    refine ⟨rfl,hT (Y:=⟨(X.side _).s,A⟩) (s:=⟨some R.2.1,R.2.2⟩) rfl ?_⟩;rw [zs5 hAb];exact St.turns hS3
   ·rw [if_pos h0];obtain ⟨j,hj⟩:∃ j,R.1=j+1:=⟨R.1 - 1,by omega⟩;replace hK:=hK.trans (hk.mono fun d hd=>(hTT d).2 hd);refine KeepC.mk hK ?_;have hS2:=hS.upd 7 rfl hk (fun c hc=>by subst hc;exact List.mem_singleton.2 rfl) (zab _ _ _) hB (fun c hc=>.inl hc);rw [hj];repeat' ((conv=>whnf);first|apply RetC.mk|refine rgO ?_|refine ixO ?_|(first|apply brD|apply zad|apply brN|apply brI)<;>(intro))
    exact ⟨rfl,hT (Y:=X.side _) (s:=⟨none,R.2.2⟩) rfl (St.turns hS2)⟩
end
theorem zg2 (N:NodeS) (c:Bool):∀ n∈(N.notes c).1,(n.claim=true∧n.cells=[])∨(n.claim=false∧n.cells=zaH (N.notes c).1):=by
 cases hb:N.beat
 ·cases c
  ·rw [zbu hb];intro n hn;cases hn
  ·rw [zck hb];intro n hn;obtain rfl:=List.mem_singleton.1 hn;exact .inl ⟨rfl,rfl⟩
 ·rw [zcz hb];intro n hn;rcases List.mem_cons.1 hn with rfl|hn
  ·exact .inl ⟨rfl,rfl⟩
  ·obtain rfl:=List.mem_singleton.1 hn;exact .inr ⟨rfl,by simp [zaH]⟩
theorem zil (N:NodeS) (B:BytS):∀ n∈(N.tick B).2.1,(n.claim=true∧n.cells=[])∨(n.claim=false∧n.cells=zaH (N.tick B).2.1):=by
 unfold NodeS.tick;split
 ·intro n hn;cases hn
 split
 ·split
  ·intro n hn;cases hn
  ·exact zg2 _ _
 ·exact zg2 _ _
theorem zhy (N:NodeS) (c:Bool):(N.notes c).1.length≤2:=by
 cases hb:N.beat
 ·cases c
  ·rw [zbu hb];exact Nat.zero_le _
  ·rw [zck hb];exact Nat.le_succ _
 ·rw [zcz hb];exact Nat.le_refl _
theorem zio (N:NodeS) (B:BytS):(N.tick B).2.1.length≤2:=by
 unfold NodeS.tick;split
 ·exact Nat.zero_le _
 split
 ·split
  ·exact Nat.zero_le _
  ·exact zhy _ _
 ·exact zhy _ _
end Go.Proofs.YtogjajjdaoihdaaGreatDoor

namespace Go.Proofs.YtogjajjdaoihdaaGreatDoor.Ev
set_option maxRecDepth 20000
open Go
def zgl:Code→List Code
 | .loop c=>c::zgl c
 | .seq a b=>zgl a++zgl b
 | .cond _ a b=>zgl a++zgl b
 | .block _ c=>zgl c
 | .scope c=>zgl c
 | _=>[]
def zse (f:Func) (i:Nat):Code:=match f.body with
 | some c=>(zgl c).getD i .skip
 | none=>.skip
theorem St.as {w0 w:World}{S:Nat→Prop}{H H':List Ent}(h:St w0 S w H) (e:H=H'):St w0 S w H':=e ▸ h
end Go.Proofs.YtogjajjdaoihdaaGreatDoor.Ev

namespace Go.Proofs.YtogjajjdaoihdaaGreatDoor
set_option maxRecDepth 20000
open Go Ev
section
variable {w : World}
theorem zty {α:Type}(w:World) (sz:Nat) (enc:α→List Value) (G:α→Prop) (a:Option Addr):Slc w sz enc G a 0 []:=⟨rfl,by decide,fun k x hk=>by simp at hk,fun x hx=>by simp at hx⟩
end
section
variable {w w' : World} {X : WorldA} {W : WorldS} {E : Nat → Addr} {q m : Nat}
def WorldS.with (W:WorldS) (f:List NoteS) (e:List (Int × Int)):WorldS:={ W with fly:=f,events:=e }
def WorldA.with (X:WorldA) (fa:Option Addr) (fc:Nat) (vs:List NoteV) (ea:Option Addr) (ec:Nat):WorldA:={ X with fa:=fa,fc:=fc,vs:=vs,ea:=ea,ec:=ec }
theorem zpq {n:Int}(hn:n=0∨n=1) (s:SideS) (f:List NoteS) (e:List (Int × Int)) (fa:Option Addr) (fc:Nat) (vs:List NoteV) (ea:Option Addr) (ec:Nat) :
  zb3 (X.with fa fc vs ea ec) ((W.setSide n s).with f e) n=zc5 (X.with fa fc vs ea ec) (W.with f e) (X.side n) (X.side (1 - n)) s (W.side (1 - n))++zdM (X.side n) s:=by
 rcases hn with rfl|rfl<;>rfl
theorem zkQ {n:Int}(hn:n=0∨n=1) (s:SideS) (f:List NoteS) (e:List (Int × Int)):((W.setSide n s).with f e).side (1 - n)=W.side (1 - n):=by
 rcases hn with rfl|rfl<;>rfl
theorem zmy {l:List NoteS}{x:Option Addr}{y:Nat}(hl:∀ n∈l,(n.claim=true∧n.cells=[])∨(n.claim=false∧n.cells=zaH l)) (h1:Slc w 10 zac (fun _=>True) x (zaH l).length (zaH l)) {n:NoteS}(hn:n∈l):NoteIs (za8 x y n) n∧Slc w 10 zac (fun _=>True) (za8 x y n).a (za8 x y n).n n.cells:=by
 refine ⟨⟨rfl,rfl,rfl,rfl⟩,?_⟩;rcases hl n hn with ⟨h3,h4⟩ | ⟨h3,h4⟩
 ·simp only [za8,h4];exact zty _ _ _ _ _
 ·simp only [za8,h3,h4];exact h1
def evT (X:WorldA) (W:WorldS):Nat→Prop:=fun d=>d=X.w∨d∈(zaf 157 2 zbG (.slice X.ea W.events.length X.ec) W.events).foot
def zez (F:List NoteS) (l:List NoteS) (k:Nat):List NoteS:=F++(l.take k).take (200 - F.length)
theorem zjT {F l:List NoteS}{k:Nat}{x:NoteS}(hx:l[k]?=some x) (h:(zez F l k).length < 200):zez F l (k+1)=zez F l k++[x]:=by
 have hk:=(List.getElem?_eq_some_iff.1 hx).1;unfold zez at h ⊢;rw [List.length_append,List.length_take,List.length_take] at h;rw [List.take_take,List.take_take,Nat.min_eq_right (by omega),Nat.min_eq_right (by omega),List.take_add_one,hx,List.append_assoc];rfl
theorem zp7 {F l:List NoteS}{k:Nat}(hF:F.length≤200) (h:¬ (zez F l k).length < 200):zez F l (k+1)=zez F l k:=by
 unfold zez at h ⊢;rw [List.length_append,List.length_take,List.length_take] at h;rw [List.take_take,List.take_take,Nat.min_eq_left (by omega),Nat.min_eq_left (by omega)]
theorem zok {F l:List NoteS}{k:Nat}(hF:F.length≤200):(zez F l k).length≤200:=by
 unfold zez;rw [List.length_append,List.length_take];omega
abbrev znk (X:WorldA) (W:WorldS) (Y Z:SideA) (N:NodeS) (B:BytS) (t:SideS) (a:Option Addr) (c:Nat) (x:Option Addr) (y:Nat) (l:List NoteS):List Ent :=
 zc5 X W Y Z ⟨some N,B⟩ t++(zaU Y.A N B++zkE a c x y l)
theorem zjQ (F l:List NoteS):zez F l 0=F:=by simp [zez]
theorem zfm {F l:List NoteS}{k:Nat}(h:k=l.length):zez F l k=F++l.take (200 - F.length):=by
 subst h;unfold zez;rw [List.take_length]
set_option maxHeartbeats 4000000 in
set_option maxRecDepth 10000 in
theorem zgB {S:Nat→Prop}{w5:World}{Y Z:SideA}{N':NodeS}{B':BytS}{t:SideS}{a x ea:Option Addr}{c y ec ll:Nat}{l:List NoteS}{ev:List (Int × Int)}{σ:zar}{Q:Exit→zar→World→Prop}
  (hs:Sub [(90,.int .i64 ((0:Nat):Int)),(89,.int .i64 (ll:Nat)),(88,.slice a ll c),(0,.pointer (some ⟨X.w,0,none⟩))] σ)
  (hS:St w S w5 (znk (X.with X.fa X.fc X.vs ea ec) (W.with W.fly ev) Y Z N' B' t a c x y l)) (hflen:W.fly.length≤200) (hshort:l.length≤2) (hll:(l.map (za8 x y)).length=ll) (hnl:ll=l.length)
  (hcell:∀ n∈l,(n.claim=true∧n.cells=[])∨(n.claim=false∧n.cells=zaH l)) (hfew:∀ x∈l,x.cells.length≤8)
  (hQ:∀ σ w6,(∃ fa fc vs,St w S w6 (znk (X.with fa fc vs ea ec) (W.with (zez W.fly l ll) ev) Y Z N' B' t a c x y l))→Q (.exit 0) σ w6) :
  LoopC Tryz.prog tab 112 (zse Tryz.f216 0) Q σ w5:=by
 refine zaL tabOk (fun σ w' q=>∃ (k:Nat) (fa:Option Addr) (fc:Nat) (vs:List NoteV),σ=[(90,.int .i64 k),(89,.int .i64 (ll:Nat)),(88,.slice a ll c),(0,.pointer (some ⟨X.w,0,none⟩))]∧q=ll - k∧k≤ll∧St w S w' (znk (X.with fa fc vs ea ec) (W.with (zez W.fly l k) ev) Y Z N' B' t a c x y l))
  (σ':=[(90,.int .i64 ((0:Nat):Int)),(89,.int .i64 (ll:Nat)),(88,.slice a ll c),(0,.pointer (some ⟨X.w,0,none⟩))]) (n:=ll) hs ⟨0,X.fa,X.fc,X.vs,rfl,rfl,Nat.zero_le _,by rw [zjQ];exact hS⟩ ?_
 clear hS;rintro _ w5 q' ⟨k,fa,fc,vs,rfl,rfl,hk,hS⟩;(conv=>whnf);refine brD (fun h3=>?_) (fun h3=>?_)
 ·have hk3:k < l.length:=by omega
  obtain ⟨z,hz⟩:∃ z,l[k]?=some z:=⟨_,List.getElem?_eq_getElem hk3⟩;have hzm:=List.mem_of_getElem? hz;have hxk:(l.map (za8 x y))[k]?=some (za8 x y z):=by rw [List.getElem?_map,hz];rfl
  have hz8:=hfew z hzm
  obtain ⟨g,o,hga⟩:∃ g o,a=some ⟨g,o,none⟩:=by
   obtain ⟨b0,o0,h1,_⟩:=(zap (G:=fun _=>True) zak (hS.get 15 rfl) (fun _ _=>trivial)).cells k _ hxk;exact ⟨b0,o0,h1⟩
  subst hga;have hvl:vs.length=(zez W.fly l k).length:=(hS.get 5 rfl:(zat vs (zez W.fly l k)).holds _).1;have hfl:=zok (l:=l) (k:=k) hflen;(conv=>whnf);refine ixO ?_;(conv=>whnf);refine hS.ldRow zak 15 (by rfl) hxk rfl ?_;(conv=>whnf);refine hS.new (fun b6 w2 hb6 hS=>?_);(conv=>whnf);refine hS.st 17 rfl (lbO rfl) rfl (fun w3 hS=>?_);(conv=>whnf);refine hS.ld 0 rfl rfl ?_;(conv=>whnf);refine brD (fun h4=>?_) (fun h4=>?_)
  ·have hmore:=zjT hz (Int.ofNat_lt.1 h4);(conv=>whnf);refine zeI tabOk mixed [4,5] (fun _=>True) (.take 0 (.take 1 (.take 2 (.take 3 (.alt 4 (.alt 5 (.alt 6 (.alt 7 (.alt 8 (.take 9 (.take 10 (.alt 11 .fin .fin))) .fin) .fin) .fin) .fin) (.alt 5 (.alt 4 (.alt 6 (.alt 7 (.alt 8 (.take 9 (.take 10 (.alt 11 .fin .fin))) .fin) .fin) .fin) (.alt 6 (.alt 4 (.alt 7 (.alt 8 (.take 9 (.take 10 (.alt 11 .fin .fin))) .fin) .fin) (.alt 7 (.alt 4 (.alt 8 (.take 9 (.take 10 (.alt 11 .fin .fin))) .fin) .fin) .fin)) .fin)) .fin)))))) (by kernel_rfl) ?_;rintro w6 rfl;replace hS:=hS.drew;have hK:=hS.ref (fun _=>True);repeat' ((conv=>whnf);first|apply RetC.mk|refine rgO ?_|refine ixO ?_|refine hS.ld 0 rfl rfl (KeepC.mk hK ?_)|refine hS.laX 17 rfl rfl (KeepC.mk hK ?_)|(refine (zoX (zmy hcell (zap zau (hS.get 16 rfl) (fun _ _=>trivial)) hzm).2 (by show z.cells.length≤1000;omega)).mono ?_;rintro v w2 ⟨a',c',rfl,hx,ho,hf⟩;replace hS:=hS.made hx zaj ho (fun g hg=>hf g (by simpa [zaf,own] using hg));replace hK:=hK.trans hx.of_no;clear hx ho hf;refine KeepC.mk hK ?_)|(refine hS.litX Tryz.underlying160 (sz:=5) (by kernel_rfl) (z:=.agg (zae zcx).toArray) (by kernel_rfl) rfl rfl (cs:=zae ((za8 x y z).with a' c')) (by rfl) (fun b9 w3 hb9 hx hS=>?_);replace hK:=hK.trans hx.of_no;clear hx;refine KeepC.mk hK ?_)|(refine hS.appX zak 4 (ys:=[(za8 x y z).with a' c']) (G:=fun _=>True) Tryz.underlying160 (bytes:=56) (by kernel_rfl) (z:=.agg (zae zcx).toArray) (by kernel_rfl) rfl rfl (Slc.of_blk zak (hS.blk 19 rfl) rfl (by simp) (fun _ _=>trivial) rfl) (by show vs.length+1≤_;rw [hvl];unfold maxLen;omega) (by show (vs.length+1) * 56≤_;rw [hvl];omega) (fun fa2 fc2 w9 hx hS=>?_);replace hK:=hK.trans (hx.mono fun _ _=>trivial);clear hx;refine KeepC.mk hK ?_)|(refine hS.stK hK 0 rfl (by exact Nat.le_of_ble_eq_true rfl) rfl trivial (fun w' hK hS=>KeepC.mk hK ?_))|refine And.intro ?_ ?_|(first|apply brD|apply zad|apply brN|apply brI)<;>(intro))
   all_goals
    have hcs:Slc _ 10 zac (fun _=>True) a' z.cells.length z.cells:=zap zau (hS.get 18 rfl) (fun _ _=>trivial)
    have hj:=((hS.sel [5,18,0,1,2,3,4,6,7,8,9,10,11,12,13,14,15,16] (by decide)).join (g:=zat (vs++[(za8 x y z).with a' c']) (zez W.fly l k++[z])) zaJ (zel (hS.get 5 rfl) (zf3 ⟨rfl,rfl,rfl,rfl⟩ hcs)) (fun b hb=>by
     obtain ⟨u,hu,hb⟩:=cellsE_foot.1 hb;rcases List.mem_append.1 hu with hu|hu
     ·exact .inl (cellsE_foot.2 ⟨u,hu,hb⟩)
     ·obtain rfl:=List.mem_singleton.1 hu;exact .inr (za5 (zhh hb)))).sel [1,2,3,4,5,0,6,7,8,9,10,11,12,13,14,15,16] (by decide)
    refine LoopE.mk ⟨_,[(90,.int .i64 ((k+1:Nat):Int)),(89,_),(88,_),(0,_)],?_,⟨rfl,rfl,rfl,rfl,trivial⟩,⟨k+1,fa2,fc2,vs++[(za8 x y z).with a' c'],rfl,rfl,by omega,?_⟩⟩
    ·omega
    ·rw [hmore];have hl1:(X.with fa fc vs ea ec).vs.length+1=(zez W.fly l k++[z]).length:=by rw [List.length_append,← hvl];rfl
     rw [hl1] at hj;exact hj
  ·have hmore:=zp7 (l:=l) (k:=k) hflen (fun h=>h4 (Int.ofNat_lt.2 h));(conv=>whnf);refine rgO ?_;(conv=>whnf);refine LoopE.mk ⟨_,[(90,.int .i64 ((k+1:Nat):Int)),(89,_),(88,_),(0,_)],?_,⟨rfl,rfl,rfl,rfl,trivial⟩,⟨k+1,fa,fc,vs,rfl,rfl,by omega,?_⟩⟩
   ·omega
   ·rw [hmore];exact hS.keep 17
 ·obtain rfl:k=ll:=by omega
  (conv=>whnf);exact hQ _ _ ⟨fa,fc,vs,hS⟩
set_option maxHeartbeats 4000000 in
set_option maxRecDepth 10000 in
theorem zru (n:Int) (h:Stands E q m w X W) (hm:m+34≤40000000):CallC Tryz.prog 216 #[.pointer (some ⟨X.w,0,none⟩),.int .i64 n] w fun v w'=>v=zc9 E (W.tick n).1∧∃ X',X'.w=X.w∧Turns w w' (zag X W) (zag X' (W.tick n).2):=by
 refine zaa tabOk Tryz.func216 (by kernel_rfl) rfl Tryz.ntmps216 (lbO rfl) ?_;(conv=>whnf);refine (zgX n h).mono ?_;rintro v w1 ⟨rfl,hx⟩;by_cases hn:n=0∨n=1
 case neg =>
  rw [show W.tick n=(2,W) from if_pos (by omega),show W.upErr n=2 from if_pos (by omega)];repeat' ((conv=>whnf);first|apply RetC.mk|refine rgO ?_|refine ixO ?_|(first|apply brD|apply zad|apply brN|apply brI)<;>(intro))
  exact ⟨rfl,X,rfl,Turns.of_no h.has hx⟩
 cases hN:(W.side n).node with
 | none =>
  rw [show W.tick n=(7,W) by unfold WorldS.tick;rw [if_neg (by omega),hN],zbC hn hN];repeat' ((conv=>whnf);first|apply RetC.mk|refine rgO ?_|refine ixO ?_|(first|apply brD|apply zad|apply brN|apply brI)<;>(intro))
  exact ⟨rfl,X,rfl,Turns.of_no h.has hx⟩
 | some N =>
  rw [show W.tick n=W.ticked n N (N.tick (W.side n).byt) by unfold WorldS.tick;rw [if_neg (by omega),hN],zbr hn hN,if_pos rfl];obtain ⟨hH,hQ⟩:=h.half hn;have hnk:=((h.ok.side hn).node N hN).1;have hBk:=(h.ok.side hn).bok;have hflen:=h.ok.fly;have hevl:=h.ok.events;have hbok:=NodeS.tick_bok (N:=N) hBk;have hshort:=zio N (W.side n).byt;have hcell:=zil N (W.side n).byt;have hfew:=zmn hnk (W.side n).byt;have hS:=hH.start.no hx;have hE:=h.errs.ext hS.ext hQ
  have hT:∀ {w'} {s:SideS},Turns w w' (zb3 X W n) (zc5 X W (X.side n) (X.side (1 - n)) s (W.side (1 - n))++zdM (X.side n) s)→∃ X',X'.w=X.w∧Turns w w' (zag X W) (zag X' (W.setSide n s)):=fun {w'} {s} k=>⟨X,rfl,by
   have:=Turns.side h.has hn (Y:=X.side n) rfl k
   rwa [zcI hn] at this⟩
  have hT2:∀ {w'} {s:SideS} {f:List NoteS} {e:List (Int × Int)} {fa:Option Addr} {fc:Nat} {vs:List NoteV} {ea:Option Addr} {ec:Nat},Turns w w' (zb3 X W n) (zc5 (X.with fa fc vs ea ec) (W.with f e) (X.side n) (X.side (1 - n)) s (W.side (1 - n))++zdM (X.side n) s)→∃ X',X'.w=X.w∧Turns w w' (zag X W) (zag X' ((W.setSide n s).with f e)):=fun {w'} {s} {f} {e} {fa} {fc} {vs} {ea} {ec} k=>⟨X.with fa fc vs ea ec,rfl,by
   rw [← zpq hn] at k;exact Turns.world h.has hn k rfl (zkQ hn s f e)⟩
  have hU:∀ {w'} {s:SideS},St w (inF (zb3 X W n)) w' (zc5 X W (X.side n) (X.side (1 - n)) s (W.side (1 - n))++zdM (X.side n) s)→∃ X',X'.w=X.w∧Turns w w' (zag X W) (zag X' (W.setSide n s)):=fun k=>hT (St.turns k)
  have hU2:∀ {w'} {s:SideS} {f:List NoteS} {e:List (Int × Int)} {fa:Option Addr} {fc:Nat} {vs:List NoteV} {ea:Option Addr} {ec:Nat},St w (inF (zb3 X W n)) w' (zc5 (X.with fa fc vs ea ec) (W.with f e) (X.side n) (X.side (1 - n)) s (W.side (1 - n))++zdM (X.side n) s)→∃ X',X'.w=X.w∧Turns w w' (zag X W) (zag X' ((W.setSide n s).with f e)):=fun k=>hT2 (St.turns k)
  generalize hSS:inF (zb3 X W n)=S at hS hU hU2;rw [zb2 hN] at hS hQ;clear hH hx hT hT2 hSS;generalize (W.side n).byt=B at *;(conv=>whnf);refine hS.ld 1 rfl (v:=.pointer (some ⟨(X.side n).A.n,0,none⟩)) rfl ?_;(conv=>whnf);refine hS.ld 7 rfl rfl ?_;(conv=>whnf);refine (zby (hS.blk 8 rfl)).mono ?_;rintro v w2 ⟨rfl,rfl⟩;(conv=>whnf);refine hS.ld 1 rfl (v:=.pointer (some ⟨(X.side n).A.n,0,none⟩)) rfl ?_;(conv=>whnf);have hw3:Has _ (zaU (X.side n).A N B):=Has.right (A:=[_,_,_,_,_,_,_]) hS.has;refine (zqF hw3 hnk hBk (by omega) (hE.sub rfl) hQ.app.2).mono ?_;rintro v w3 ⟨a,c,x,y,rfl,hk⟩;replace hS:=St.callAt (A:=zc5 X W (X.side n) (X.side (1 - n)) ⟨some N,B⟩ (W.side (1 - n))) (B:=[]) hS hk;clear hk hw3;generalize N.tick B=T at *;obtain ⟨e,l,N',B'⟩:=T;dsimp only at *;replace hS:St w S w3 (znk X W (X.side n) (X.side (1 - n)) N' B' (W.side (1 - n)) a c x y l):=hS;have hnl:(l.map (za8 x y)).length=l.length:=List.length_map _;generalize hll:(l.map (za8 x y)).length=ll at hnl;(conv=>whnf);refine hS.ld 1 rfl rfl ?_;(conv=>whnf);refine (zpO (hS.blk 14 rfl) hbok.len).mono ?_;rintro v w4 ⟨rfl,hx⟩;replace hS:=hS.no hx;clear hx
  have hpl:W.ticked n N (e,l,N',B')=if B'.off=true then (e,W.setSide n ⟨none,B'⟩) else if e≠0 then (e,W.setSide n ⟨some N',B'⟩) else
   (0,(W.setSide n ⟨some N',B'⟩).with (W.fly++l.take (200 - W.fly.length)) (if N.role.active=false∧N'.role.active=true∧W.events.length < 1000 then W.events++[(n,N'.role.epoch)] else W.events)):=rfl
  rw [hpl];clear hpl;cases hoff:B'.off
  case true =>
   rw [if_pos rfl];(conv=>whnf);refine hS.st 1 rfl (by exact Nat.le_of_ble_eq_true rfl) rfl (fun w' hS=>?_);repeat' ((conv=>whnf);first|apply RetC.mk|refine rgO ?_|refine ixO ?_|(first|apply brD|apply zad|apply brN|apply brI)<;>(intro))
   exact ⟨rfl,hU (s:=⟨none,B'⟩) (hS.sel [0,1,2,3,4,5,6,14] (by decide))⟩
  rw [if_neg (by decide)];cases e with
  | succ j =>
   rw [if_pos (Nat.succ_ne_zero j)];repeat' ((conv=>whnf);first|apply RetC.mk|refine rgO ?_|refine ixO ?_|(first|apply brD|apply zad|apply brN|apply brI)<;>(intro))
   exact ⟨rfl,hU (s:=⟨some N',B'⟩) (hS.keep 15)⟩
  | zero =>
   rw [if_neg (fun h=>h rfl)]
   have hev0:∀ {b1 b2:Bool},N.role.active=b1→N'.role.active=b2→(b1=true∨b2=false∨¬ W.events.length < 1000)→(if N.role.active=false∧N'.role.active=true∧W.events.length < 1000 then W.events++[(n,N'.role.epoch)] else W.events)=W.events:=fun h1 h2 h3=>if_neg (by
    rw [h1,h2];rintro ⟨rfl,rfl,h4⟩;rcases h3 with h3|h3|h3
    ·cases h3
    ·cases h3
    ·exact h3 h4)
   have hev1:N.role.active=false→N'.role.active=true→W.events.length < 1000→(if N.role.active=false∧N'.role.active=true∧W.events.length < 1000 then W.events++[(n,N'.role.epoch)] else W.events)=W.events++[(n,N'.role.epoch)]:=fun h1 h2 h3=>if_pos ⟨h1,h2,h3⟩
   replace hS:St w S w4 (znk (X.with X.fa X.fc X.vs X.ea X.ec) (W.with W.fly W.events) (X.side n) (X.side (1 - n)) N' B' (W.side (1 - n)) a c x y l):=hS;generalize hev:(if N.role.active=false∧N'.role.active=true∧W.events.length < 1000 then W.events++[(n,N'.role.epoch)] else W.events)=ev;cases ha:N.role.active
   ·(conv=>whnf)
    refine hS.ld 1 rfl (v:=.pointer (some ⟨(X.side n).A.n,0,none⟩)) rfl ?_;(conv=>whnf);refine hS.ld 7 rfl rfl ?_;(conv=>whnf);refine (zby (hS.blk 8 rfl)).mono ?_;rintro v w5 ⟨rfl,rfl⟩;cases ha2:N'.role.active
    ·rw [← hev.symm.trans (hev0 ha ha2 (.inr (.inl rfl)))] at hS;generalize X.ea=ea at hS;generalize X.ec=ec at hS;clear hev hev0 hev1 ha ha2;(conv=>whnf);refine zgB (ea:=ea) (ec:=ec) (ev:=ev) ⟨rfl,rfl,rfl,rfl,trivial⟩ hS hflen hshort hll hnl hcell hfew ?_;rintro σ w6 ⟨fa,fc,vs,hS⟩;rw [zfm hnl] at hS;repeat' ((conv=>whnf);first|apply RetC.mk|refine rgO ?_|refine ixO ?_|(first|apply brD|apply zad|apply brN|apply brI)<;>(intro))
     exact ⟨rfl,hU2 (s:=⟨some N',B'⟩) (hS.keep 15)⟩
    ·(conv=>whnf)
     refine hS.ld 0 rfl rfl ?_;(conv=>whnf);refine brD (fun h5=>?_) (fun h5=>?_)
     ·have hv:=hev.symm.trans (hev1 ha ha2 (by exact Int.ofNat_lt.1 h5));have hvl:ev.length=W.events.length+1:=by rw [hv,List.length_append];rfl
      (conv=>whnf);refine zeI tabOk mixed [4] (evT X W) (.take 0 (.take 1 (.take 2 (.take 3 (.take 5 (.take 6 (.take 7 (.take 8 (.take 9 (.take 10 (.take 11 (.take 12 (.alt 4 (.alt 13 (.take 14 (.alt 15 (.alt 16 (.take 17 (.take 18 (.alt 19 .fin .fin))) .fin) .fin)) .fin) (.alt 13 (.take 14 (.alt 4 (.alt 15 (.alt 16 (.take 17 (.take 18 (.alt 19 .fin .fin))) .fin) .fin) (.alt 15 (.alt 4 (.alt 16 (.take 17 (.take 18 (.alt 19 .fin .fin))) .fin) .fin) .fin))) .fin)))))))))))))) (by kernel_rfl) ?_;rintro w6 rfl;replace hS:=hS.drew;have hK:=hS.ref (evT X W);have hn1:=hS.ne 1 0 rfl rfl (by decide);have hn7:=hS.ne 7 0 rfl rfl (by decide);have hm1:(X.side n).s ∉ (zaf 157 2 zbG (.slice X.ea W.events.length X.ec) W.events).foot:=hS.apartAt 1 6 rfl rfl (by decide) _ (List.mem_singleton.2 rfl);have hm7:(X.side n).A.n ∉ (zaf 157 2 zbG (.slice X.ea W.events.length X.ec) W.events).foot:=hS.apartAt 7 6 rfl rfl (by decide) _ (List.mem_singleton.2 rfl);repeat' ((conv=>whnf);first|apply RetC.mk|refine rgO ?_|refine ixO ?_|refine hS.ld 0 rfl rfl (KeepC.mk hK ?_)|refine hS.ldF 1 rfl (v:=.pointer (some ⟨(X.side n).A.n,0,none⟩)) rfl (fun h=>h.elim hn1 hm1) ?_|refine hS.ldF 7 rfl rfl (fun h=>h.elim hn7 hm7) ?_|(refine (zbq (hS.blk 8 rfl)).mono ?_;rintro v w7 ⟨rfl,rfl⟩;refine KeepC.mk hK ?_)|(refine hS.litX Tryz.underlying73 (sz:=2) (by kernel_rfl) (z:=.agg (zbG (0,0)).toArray) (by kernel_rfl) rfl rfl (cs:=zbG (n,N'.role.epoch)) (by rfl) (fun b9 w8 hb9 hx hS=>?_);replace hK:=hK.trans hx.of_no;clear hx;refine KeepC.mk hK ?_)|(refine hS.appX zkF 6 (ys:=[(n,N'.role.epoch)]) (G:=fun _=>True) Tryz.underlying73 (bytes:=16) (by kernel_rfl) (z:=.agg (zbG (0,0)).toArray) (by kernel_rfl) rfl rfl (Slc.of_blk zkF (hS.blk 17 rfl) rfl (by simp) (fun _ _=>trivial) rfl) (by show W.events.length+1≤_;unfold maxLen;omega) (by show (W.events.length+1) * 16≤_;omega) (fun ea ec w9 hx hS=>?_);replace hK:=hK.trans (hx.mono fun d hd=>.inr (za5 hd));clear hx;refine KeepC.mk hK ?_)|(refine hS.stK hK 0 rfl (by exact Nat.le_of_ble_eq_true rfl) rfl (.inl rfl) (fun w' hK hS=>KeepC.mk hK ?_))|refine And.intro ?_ ?_|(first|apply brD|apply zad|apply brN|apply brI)<;>(intro))
      all_goals
       replace hS:=hS.keep 17
       replace hS:=hS.as (H':=znk (X.with X.fa X.fc X.vs ea ec) (W.with W.fly (W.events++[(n,N'.role.epoch)])) (X.side n) (X.side (1 - n)) N' B' (W.side (1 - n)) a c x y l) (by
        rw [show (W.with W.fly W.events).events.length+1=(W.events++[(n,N'.role.epoch)]).length by rw [List.length_append];rfl];rfl)
       rw [← hv] at hS;clear hev hev0 hev1 ha ha2 hK;refine zgB (ea:=ea) (ec:=ec) (ev:=ev) ⟨rfl,rfl,rfl,rfl,trivial⟩ hS hflen hshort hll hnl hcell hfew ?_;rintro σ w6 ⟨fa,fc,vs,hS⟩;rw [zfm hnl] at hS;repeat' ((conv=>whnf);first|apply RetC.mk|refine rgO ?_|refine ixO ?_|(first|apply brD|apply zad|apply brN|apply brI)<;>(intro))
       exact ⟨rfl,hU2 (s:=⟨some N',B'⟩) (hS.keep 15)⟩
     ·rw [← hev.symm.trans (hev0 ha ha2 (.inr (.inr fun h=>h5 (by exact Int.ofNat_lt.2 h))))] at hS;generalize X.ea=ea at hS;generalize X.ec=ec at hS;clear hev hev0 hev1 ha ha2;(conv=>whnf);refine zgB (ea:=ea) (ec:=ec) (ev:=ev) ⟨rfl,rfl,rfl,rfl,trivial⟩ hS hflen hshort hll hnl hcell hfew ?_;rintro σ w6 ⟨fa,fc,vs,hS⟩;rw [zfm hnl] at hS;repeat' ((conv=>whnf);first|apply RetC.mk|refine rgO ?_|refine ixO ?_|(first|apply brD|apply zad|apply brN|apply brI)<;>(intro))
      exact ⟨rfl,hU2 (s:=⟨some N',B'⟩) (hS.keep 15)⟩
   ·rw [← hev.symm.trans (hev0 ha rfl (.inl rfl))] at hS;generalize X.ea=ea at hS;generalize X.ec=ec at hS;clear hev hev0 hev1 ha;(conv=>whnf);refine zgB (ea:=ea) (ec:=ec) (ev:=ev) ⟨rfl,rfl,rfl,rfl,trivial⟩ hS hflen hshort hll hnl hcell hfew ?_;rintro σ w6 ⟨fa,fc,vs,hS⟩;rw [zfm hnl] at hS;repeat' ((conv=>whnf);first|apply RetC.mk|refine rgO ?_|refine ixO ?_|(first|apply brD|apply zad|apply brN|apply brI)<;>(intro))
    exact ⟨rfl,hU2 (s:=⟨some N',B'⟩) (hS.keep 15)⟩
end
section
variable {w w' : World} {X : WorldA} {W : WorldS} {E : Nat → Addr} {q m : Nat}
def zg9 (s0 s1:Option Addr) (a:Option Addr) (n c:Nat):List Value:=[.pointer s0,.pointer s1,.slice a n c,.slice none 0 0,.int .i64 (-1),.int .i64 0,.slice none 0 0]
def zuf (bw:Nat) (a:Option Addr) (c:Nat) (xs:List RuleS) (N:Int→NodeS) (B:Int→BytS) (Y Z:SideA):Nat→List Ent
 | 0=>[blk bw 162 (zg9 none none a xs.length c),zaf 98 5 zal (.slice a xs.length c) xs]
 | 1=>[blk bw 162 (zg9 (some ⟨Y.s,0,none⟩) none a xs.length c),zaf 98 5 zal (.slice a xs.length c) xs,blk Y.s 169 [.pointer (some ⟨Y.A.n,0,none⟩),.pointer (some ⟨Y.A.b,0,none⟩)]]++zaU Y.A (N 0) (B 0)
 | _=>[blk bw 162 (zg9 (some ⟨Y.s,0,none⟩) (some ⟨Z.s,0,none⟩) a xs.length c),zaf 98 5 zal (.slice a xs.length c) xs,blk Y.s 169 [.pointer (some ⟨Y.A.n,0,none⟩),.pointer (some ⟨Y.A.b,0,none⟩)],blk Z.s 169 [.pointer (some ⟨Z.A.n,0,none⟩),.pointer (some ⟨Z.A.b,0,none⟩)]]++(zaU Y.A (N 0) (B 0)++zaU Z.A (N 1) (B 1))
theorem zts {G:RuleS→Prop}{a:Option Addr}{n c:Nat}{xs:List RuleS}(hx:Slc w 5 zal G a n xs) (hn:n≤1000) (hE:Errs w E q zfU) (hq:q≤w.heap.size) (h0:(za2 xs).1=0) :
  CallC Tryz.prog 33 #[.slice a n c] w fun v w'=>∃ X,v = .tuple #[.pointer (some ⟨X.w,0,none⟩),.nilIface]∧Ext No w w'∧Stands E q 0 w' X (.born xs)∧∀ b,inF (zag X (.born xs)) b→w.heap.size≤b:=by
 obtain ⟨hb0,hb1,hok⟩:=WOk.born (fault_good.1 h0);have hl:=hx.len;have hby:BOk by0:=⟨by simp [by0],by decide,by decide⟩;refine zaa tabOk Tryz.func33 (by kernel_rfl) rfl Tryz.ntmps33 (lbO rfl) ?_;have hS:=St.start w No;(conv=>whnf);refine (zff hx (hE.sub rfl)).mono ?_;rintro v w1 ⟨hF,hx1⟩
 obtain rfl:v = .nilIface:=by
  rw [h0] at hF;rcases hF with ⟨_,h⟩ | ⟨_,h,_⟩
  ·exact h
  ·exact absurd h (by decide)
 clear hF;replace hS:=hS.no hx1;(conv=>whnf);refine (zjI (hx.no hS.ext) hn).mono ?_;rintro v w2 ⟨a2,c2,rfl,hx2,ho,hf⟩;replace hS:=hS.made hx2 zaj ho (fun g hg=>hf g (by simpa [zaf,own] using hg));clear hx1 hx2 ho hf;(conv=>whnf);refine hS.new (fun bw w3 hbw hS=>?_);replace hS:=hS.sel [1,0] (by decide);rw [← hl] at hS;replace hS:St w No w3 (zuf bw a2 c2 xs (fun i=>(zbL i by0 xs).2.1) (fun i=>(zbL i by0 xs).2.2) ⟨0,⟨0,0,0,0,0,0,0,none,0⟩⟩ ⟨0,⟨0,0,0,0,0,0,0,none,0⟩⟩ 0):=hS;generalize hNf:(fun i=>(zbL i by0 xs).2.1)=N at hS;generalize hBf:(fun i=>(zbL i by0 xs).2.2)=B at hS;have e0:N 0=(zbL 0 by0 xs).2.1∧B 0=(zbL 0 by0 xs).2.2∧N 1=(zbL 1 by0 xs).2.1∧B 1=(zbL 1 by0 xs).2.2:=by subst hNf hBf;exact ⟨rfl,rfl,rfl,rfl⟩
 have hbn:WorldS.born xs=⟨⟨some (N 0),B 0⟩,⟨some (N 1),B 1⟩,xs,[],-1,0,[]⟩:=by subst hNf hBf;rfl
 rw [hbn] at hok ⊢;clear hNf hBf hbn
 have hsrc:∀ {b:Nat},w.heap.size≤b→0 < n→∀ b0 o0,a=some ⟨b0,o0,none⟩→b0≠b:=fun hb h1 b0 o0 h2=>by
  obtain ⟨b1,o1,x,_,_,h3,h4,_⟩:=hx.at h1;rw [h2] at h3;simp only [Option.some.injEq,Addr.mk.injEq] at h3;obtain ⟨rfl,_⟩:=h3;omega
 conv=>whnf
 refine zaL tabOk (fun σ w' q'=>∃ (k:Nat) (Y Z:SideA),σ=[(19,.int .i64 k),(5,.pointer (some ⟨bw,0,none⟩)),(0,.slice a n c)]∧q'=2 - k∧k≤2∧St w No w' (zuf bw a2 c2 xs N B Y Z k))
  (σ':=[(19,.int .i64 ((0:Nat):Int)),(5,.pointer (some ⟨bw,0,none⟩)),(0,.slice a n c)]) (n:=2) ⟨rfl,rfl,rfl,trivial⟩ ⟨0,_,_,rfl,rfl,Nat.zero_le _,hS⟩ ?_
 clear hS;rintro _ w4 q' ⟨k,Y,Z,rfl,rfl,hk,hS⟩;(conv=>whnf);refine brD (fun h3=>?_) (fun h3=>?_)
 ·have hk2:k=0∨k=1:=by omega
  rcases hk2 with rfl|rfl
  ·have hsz:=hS.ext.size;(conv=>whnf);refine (zhm _).mono ?_;rintro v w5 ⟨bb,rfl,hbb,hxb,hB⟩;replace hS:=hS.made hxb (zab _ _ _) hB (by simp [blk];exact ⟨hbb,hB.lt⟩);have hwb:w.heap.size≤bb:=Nat.le_trans hsz hbb;clear hxb hB;(conv=>whnf);refine (zlL 0 (.inl rfl) (hx.no hS.ext) hn h0 (hsrc hwb) (hS.blk 2 rfl) hby rfl ((hE.ext hS.ext fun _ h=>h.elim).sub rfl) (Nat.le_trans hq hwb)).mono ?_;rintro v w6 hnew;rcases hnew with ⟨_,A,hAb,rfl,hk6⟩ | ⟨h9,_⟩
   case inr=>exact absurd hb0 h9
   rw [← e0.1,← e0.2.1] at hk6;have hS2:=St.callAt (A:=[_,_]) (B:=[]) hS hk6;subst hAb;(conv=>whnf);refine hS2.new (fun bs w7 hbs hS=>?_);(conv=>whnf);refine IdxC.mk (by decide) (by decide) ?_;(conv=>whnf);refine hS.st 0 rfl (lbO rfl) rfl (fun w8 hS=>?_);(conv=>whnf);refine rgO ?_;(conv=>whnf);refine LoopE.mk ⟨_,[(19,.int .i64 ((1:Nat):Int)),(5,_),(0,_)],?_,⟨rfl,rfl,rfl,trivial⟩,⟨1,⟨bs,A⟩,Z,rfl,rfl,by omega,hS.sel [0,1,10,2,3,4,5,6,7,8,9] (by decide)⟩⟩;omega
  ·have hsz:=hS.ext.size;(conv=>whnf);refine (zhm _).mono ?_;rintro v w5 ⟨bb,rfl,hbb,hxb,hB⟩;replace hS:=hS.made hxb (zab _ _ _) hB (by simp [blk];exact ⟨hbb,hB.lt⟩);have hwb:w.heap.size≤bb:=Nat.le_trans hsz hbb;clear hxb hB;(conv=>whnf);refine (zlL 1 (.inr rfl) (hx.no hS.ext) hn h0 (hsrc hwb) (hS.blk 11 rfl) hby rfl ((hE.ext hS.ext fun _ h=>h.elim).sub rfl) (Nat.le_trans hq hwb)).mono ?_;rintro v w6 hnew;rcases hnew with ⟨_,A,hAb,rfl,hk6⟩ | ⟨h9,_⟩
   case inr=>exact absurd hb1 h9
   rw [← e0.2.2.1,← e0.2.2.2] at hk6;have hS2:=St.callAt (A:=[_,_,_,_,_,_,_,_,_,_,_]) (B:=[]) hS hk6;subst hAb;(conv=>whnf);refine hS2.new (fun bs w7 hbs hS=>?_);(conv=>whnf);refine IdxC.mk (by decide) (by decide) ?_;(conv=>whnf);refine hS.st 0 rfl (lbO rfl) rfl (fun w8 hS=>?_);(conv=>whnf);refine rgO ?_;(conv=>whnf);refine LoopE.mk ⟨_,[(19,.int .i64 ((2:Nat):Int)),(5,_),(0,_)],?_,⟨rfl,rfl,rfl,trivial⟩,⟨2,Y,⟨bs,A⟩,rfl,rfl,by omega,hS.sel [0,1,2,19,3,4,5,6,7,8,9,10,11,12,13,14,15,16,17,18] (by decide)⟩⟩;omega
 ·obtain rfl:k=2:=by omega
  have hS2:=(((hS.addNil 350 5 zae).add (e:=zat [] []) zaJ (zh0 _) (fun b hb=>by simp [zat] at hb) (fun f _ b _ hb=>by simp [zat] at hb)).addNil 157 2 zbG).sel [0,2,3,1,20,21,22,4,5,6,7,8,9,10,11,12,13,14,15,16,17,18,19] (by decide);replace hS2:St w No w4 (zag ⟨bw,Y,Z,a2,c2,none,0,[],none,0⟩ ⟨⟨some (N 0),B 0⟩,⟨some (N 1),B 1⟩,xs,[],-1,0,[]⟩):=hS2;have hfr:∀ b,inF (zag ⟨bw,Y,Z,a2,c2,none,0,[],none,0⟩ ⟨⟨some (N 0),B 0⟩,⟨some (N 1),B 1⟩,xs,[],-1,0,[]⟩) b→w.heap.size≤b:=fun b ⟨e,he,hb⟩=>(hS2.may e he b hb).1.elim (fun h=>h.elim) id
  repeat' ((conv=>whnf);first|apply RetC.mk|refine rgO ?_|refine ixO ?_|(first|apply brD|apply zad|apply brN|apply brI)<;>(intro))
  exact ⟨⟨bw,Y,Z,a2,c2,none,0,[],none,0⟩,rfl,hS2.ext,⟨hS2.has,hok,hE.ext hS2.ext fun _ h=>h.elim,fun b hb=>Nat.le_trans hq (hfr b hb)⟩,hfr⟩
end
section
variable {w w' : World} {X : WorldA} {W : WorldS} {E : Nat → Addr} {q m : Nat}
end
section
variable {w w' : World} {X : WorldA} {W : WorldS} {E : Nat → Addr} {q m : Nat}
abbrev zr1 (E:Nat→Addr) (w:World) (X:WorldA) (W:WorldS) (r:Nat × WorldS) (v:Value) (w':World):Prop:=v=zc9 E r.1∧∃ X',X'.w=X.w∧Turns w w' (zag X W) (zag X' r.2)
theorem zoP (n:Int) (k:Nat) (h:Stands E q m w X W) (hm:m+34 * k≤40000000):CallC Tryz.prog 138 #[.pointer (some ⟨X.w,0,none⟩),.int .i64 n,.int .i64 (k:Int)] w (zr1 E w X W (W.ticks n k)):=by
 refine zaa tabOk Tryz.func138 (by kernel_rfl) rfl Tryz.ntmps138 (lbO rfl) ?_;(conv=>whnf)
 refine zaL tabOk (fun σ w' r=>∃ (i:Nat) (X':WorldA) (W':WorldS),σ=[(9,.int .i64 i),(8,.int .i64 (k:Int)),(1,.int .i64 n),(0,.pointer (some ⟨X.w,0,none⟩))]∧r=k - i∧i≤k∧X'.w=X.w∧Stands E q (m+34 * i) w' X' W'∧Turns w w' (zag X W) (zag X' W')∧W.ticks n k=W'.ticks n (k - i))
  (σ':=[(9,.int .i64 ((0:Nat):Int)),(8,.int .i64 (k:Int)),(1,.int .i64 n),(0,.pointer (some ⟨X.w,0,none⟩))]) (n:=k) ⟨rfl,rfl,rfl,rfl,trivial⟩ ⟨0,X,W,rfl,rfl,Nat.zero_le _,rfl,h,Turns.refl h.has,rfl⟩ ?_
 rintro _ w1 r ⟨i,X',W',rfl,rfl,hi,hw,hst,hT,hr⟩;(conv=>whnf);refine brD (fun h3=>?_) (fun h3=>?_)
 ·obtain ⟨j,hj⟩:∃ j,k - i=j+1:=⟨k - i - 1,by omega⟩;rw [hj] at hr;(conv=>whnf);rw [← hw];refine (zru n hst (by omega)).mono ?_;rintro v w2 ⟨rfl,X2,hw2,hT2⟩;have hst2:=hst.turns hT2 (hst.ok.tick (by omega) n);have hT3:=hT.trans hT2;cases he:(W'.tick n).1 with
  | zero =>
   have hr2:W.ticks n k=(W'.tick n).2.ticks n j:=by
    rw [hr];show (if (W'.tick n).1≠0 then _ else _)=_;rw [if_neg (fun h=>h he)]
   (conv=>whnf);refine rgO ?_;(conv=>whnf);refine LoopE.mk ⟨_,[(9,.int .i64 ((i+1:Nat):Int)),(8,_),(1,_),(0,_)],?_,⟨rfl,rfl,rfl,rfl,trivial⟩,⟨i+1,X2,(W'.tick n).2,rfl,rfl,by omega,hw2,hst2,hT3,by rw [hr2];congr 1;omega⟩⟩;omega
  | succ e =>
   have hr2:W.ticks n k=W'.tick n:=by
    rw [hr];show (if (W'.tick n).1≠0 then _ else _)=_;rw [if_pos (by rw [he];exact Nat.succ_ne_zero e)]
   repeat' ((conv=>whnf);first|apply RetC.mk|refine rgO ?_|refine ixO ?_|(first|apply brD|apply zad|apply brN|apply brI)<;>(intro))
   rw [hr2];exact ⟨by rw [he],X2,hw2.trans hw,hT3⟩
 ·obtain rfl:i=k:=by omega
  rw [Nat.sub_self] at hr;repeat' ((conv=>whnf);first|apply RetC.mk|refine rgO ?_|refine ixO ?_|(first|apply brD|apply zad|apply brN|apply brI)<;>(intro))
  rw [hr];exact ⟨rfl,X',hw,hT⟩
end
def WorldS.say (W:WorldS) (v:Int):Int × WorldS:=if v < 0 then (-1,W) else (((W.one v).1:Nat),(W.one v).2)
section
variable {w w' : World} {X : WorldA} {W : WorldS} {E : Nat → Addr} {q m : Nat}
end
theorem zln (W:WorldS) (n:Int) (s:SideS):(W.setSide n s).fly=W.fly:=by
 unfold WorldS.setSide;split<;>rfl
theorem zsJ (W:WorldS) (x:NoteS):(W.got x).fly=W.fly:=by
 unfold WorldS.got;repeat' split
 all_goals first|rfl|exact zln _ _ _
theorem zl6 {W:WorldS}{j:Nat}(h:W.fly.length=j+1):(W.deliver 0).1=0∧(W.deliver 0).2.fly.length=j:=by
 unfold WorldS.deliver;have ha:W.at_ 0=0:=by unfold WorldS.at_;rw [if_neg (by omega)]
 rw [if_neg (fun h=>h ha)];obtain ⟨x,hx⟩:∃ x,W.fly[(0:Int).toNat]?=some x:=⟨_,List.getElem?_eq_getElem (show 0 < W.fly.length by omega)⟩;rw [hx];refine ⟨rfl,?_⟩;show ((W.off 0).got x).fly.length=j;rw [zsJ];show (W.fly.eraseIdx 0).length=j;rw [List.length_eraseIdx,if_pos (by omega)];omega
theorem zjN {W:WorldS}(h:W.fly.length=0):W.deliver 0=(4,W):=by
 have ha:W.at_ 0=4:=by unfold WorldS.at_;rw [if_pos (by omega)]
 unfold WorldS.deliver;rw [if_pos (by rw [ha];decide),ha]
section
variable {w w' : World} {X : WorldA} {W : WorldS} {E : Nat → Addr} {q m : Nat}
end

theorem zdx (n:Nat) (hn:n < 256) (w:World):CallC Tryz.prog 184 #[.int .i64 (n:Int)] w fun v w'=>v = .string (bs [UInt8.ofNat n])∧Ext No w w':=by
 have hb:((UInt8.ofNat n).toNat:Int)=(n:Int):=by rw [zpM];omega
 refine zaa tabOk Tryz.func184 (by kernel_rfl) rfl Tryz.ntmps184 (lbO rfl) ?_;have hS:=St.start w No;(conv=>whnf);refine zkV (kd:=.u8) (m:=((UInt8.ofNat n).toNat:Int)) (by kernel_rfl) Tryz.underlying5 (by rw [IntKind.wrap_u8',hb];omega) ?_;(conv=>whnf);refine hS.lit (cs:=zjP (UInt8.ofNat n)) Tryz.underlying192 (sz:=1) (by kernel_rfl) (z:=.int .u8 0) (by kernel_rfl) rfl rfl (by rfl) (fun bz w' hbz hS=>?_);have h0:CellsAt w' bz 0 ([UInt8.ofNat n].flatMap zjP):=(hS.blk 0 rfl).cells rfl;(conv=>whnf);refine zuV Tryz.underlying192 Tryz.underlying5 Tryz.underlying9 h0 rfl ?_;repeat' ((conv=>whnf);first|apply RetC.mk|refine nzO ?_|refine rgO ?_|refine ixO ?_|(first|apply brD|apply zad|apply brN|apply brI)<;>(intro))
 exact ⟨rfl,hS.ext⟩
theorem zow (n m:Nat):zdN n (m+1)=UInt8.ofNat (n / 256 ^ m)::zdN n m:=by
 unfold zdN;rw [List.range_succ_eq_map,List.map_cons,List.map_map];congr 1;apply List.map_congr_left;intro j hj;have hj:=List.mem_range.1 hj;simp only [Function.comp];rw [show m+1 - 1 - (j+1)=m - 1 - j by omega]
theorem zjs (n m:Nat) (hm:m≤100) (hn:n < 9223372036854775808) (w:World) :
  CallC Tryz.prog 255 #[.int .i64 (n:Int),.int .i64 (m:Int)] w fun v w'=>v = .string (bs (zdN n m))∧Ext No w w':=by
 refine zaa tabOk Tryz.func255 (by kernel_rfl) rfl Tryz.ntmps255 (lbO rfl) ?_;have hS:=St.start w No;(conv=>whnf)
 refine zaL tabOk (fun σ w' q=>∃ i:Nat,σ=[(6,.int .i64 i),(5,.string (bs (zdN n i))),(1,.int .i64 m),(0,.int .i64 (n / 256 ^ i:Nat))]∧q=m - i∧i≤m∧St w No w' [])
  (σ':=[(6,.int .i64 ((0:Nat):Int)),(5,.string (bs (zdN n 0))),(1,.int .i64 m),(0,.int .i64 n)]) (n:=m) ⟨rfl,rfl,rfl,rfl,trivial⟩ ⟨0,by simp,rfl,Nat.zero_le _,hS⟩ ?_
 clear hS;rintro _ w1 q ⟨i,rfl,rfl,hi,hS⟩;have hle:n / 256 ^ i≤n:=Nat.div_le_self _ _;have hst:=zow n i;have hdd:n / 256 ^ (i+1)=n / 256 ^ i / 256:=by rw [Nat.pow_succ,Nat.div_div_eq_div_mul]
 have hof:UInt8.ofNat (n / 256 ^ i)=UInt8.ofNat (n / 256 ^ i % 256):=by
  apply UInt8.toNat_inj.1;rw [UInt8.toNat_ofNat',UInt8.toNat_ofNat'];omega
 generalize n / 256 ^ i=d at hle hst hdd hof;(conv=>whnf);refine brD (fun h3=>?_) (fun h3=>?_)
 ·have hm1:(d:Int).tmod 256=((d % 256:Nat):Int):=by rw [Int.tmod_eq_emod_of_nonneg (by omega)];omega
  have hd1:(d:Int).tdiv 256=((d / 256:Nat):Int):=by rw [Int.tdiv_eq_ediv_of_nonneg (by omega)];omega
  (conv=>whnf);refine nzO ?_;rw [hm1];(conv=>whnf);refine (zdx (d % 256) (by omega) _).mono ?_;rintro v w' ⟨rfl,hx⟩;replace hS:=hS.no hx;(conv=>whnf);refine zbp (by rw [zbh];simp;omega) ?_;rw [← hof,List.singleton_append,← hst];(conv=>whnf);refine nzO ?_;rw [hd1];(conv=>whnf);refine rgO ?_;(conv=>whnf);refine rgO ?_;(conv=>whnf);refine LoopE.mk ⟨_,[(6,.int .i64 ((i+1:Nat):Int)),(5,_),(1,_),(0,.int .i64 (n / 256 ^ (i+1):Nat))],?_,⟨rfl,rfl,rfl,by rw [hdd];rfl,trivial⟩,⟨i+1,rfl,rfl,by omega,hS⟩⟩;omega
 ·obtain rfl:i=m:=by omega
  repeat' ((conv=>whnf);first|apply RetC.mk|refine nzO ?_|refine rgO ?_|refine ixO ?_|(first|apply brD|apply zad|apply brN|apply brI)<;>(intro))
  exact ⟨rfl,hS.ext⟩
section
variable {w w' : World} {X : WorldA} {W : WorldS} {E : Nat → Addr} {q m : Nat}
end
section
variable {w : World} {b : Nat} {r : RoleS}
theorem zqq (e:Int) (hb:Blk w b 121 (za0 r)):CallC Tryz.prog 190 #[.pointer (some ⟨b,0,none⟩),.int .i64 e] w fun v w'=>v = .bool (r.hear e).1∧Ext (· = b) w w'∧Blk w' b 121 (za0 (r.hear e).2):=by
 refine zaa tabOk Tryz.func190 (by kernel_rfl) rfl Tryz.ntmps190 (lbO rfl) ?_;have hS:=(St.start w (· = b)).add (zab b _ _) hb (by simp [blk];exact hb.lt) (by simp);(conv=>whnf);refine brD (fun h1=>?_) (fun h1=>?_)
 ·repeat' ((conv=>whnf);first|apply RetC.mk|refine rgO ?_|refine ixO ?_|(first|apply brD|apply zad|apply brN|apply brI)<;>(intro))
  rw [show r.hear e=(false,r) from if_pos (.inl h1)];exact ⟨rfl,hS.ext,hS.blk 0 rfl⟩
 conv=>whnf
 refine brD (fun h2=>?_) (fun h2=>?_)
 ·repeat' ((conv=>whnf);first|apply RetC.mk|refine rgO ?_|refine ixO ?_|(first|apply brD|apply zad|apply brN|apply brI)<;>(intro))
  rw [show r.hear e=(false,r) from if_pos (.inr h2)];exact ⟨rfl,hS.ext,hS.blk 0 rfl⟩
 conv=>whnf
 refine hS.ld 0 rfl rfl ?_;(conv=>whnf);refine brD (fun h3=>?_) (fun h3=>?_)
 ·(conv=>whnf)
  refine hS.ld 0 rfl (v:=.bool r.active) rfl ?_;(conv=>whnf);refine hS.st 0 rfl (lbO rfl) rfl (fun w' hS=>?_);(conv=>whnf);refine hS.st 0 rfl (lbO rfl) rfl (fun w' hS=>?_);(conv=>whnf);refine hS.ld 0 rfl rfl ?_;(conv=>whnf);refine hS.ld 0 rfl rfl ?_;(conv=>whnf);refine brD (fun h5=>?_) (fun h5=>?_)
  ·(conv=>whnf)
   refine hS.st 0 rfl (lbO rfl) rfl (fun w' hS=>?_);repeat' ((conv=>whnf);first|apply RetC.mk|refine rgO ?_|refine ixO ?_|(first|apply brD|apply zad|apply brN|apply brI)<;>(intro))
   rw [show r.hear e=(r.active,{ r with epoch:=e,active:=false,silence:=0 }) by
    unfold RoleS.hear;rw [if_neg (by omega)];simp [h3]]
   exact ⟨rfl,hS.ext,hS.blk 0 rfl⟩
  ·exact absurd rfl h5
 conv=>whnf
 refine hS.ld 0 rfl rfl ?_;(conv=>whnf);refine brN (fun h4=>?_) (fun h4=>?_)
 ·(conv=>whnf)
  refine hS.ld 0 rfl rfl ?_;(conv=>whnf);refine brD (fun h5=>?_) (fun h5=>?_)
  ·(conv=>whnf)
   refine hS.st 0 rfl (lbO rfl) rfl (fun w' hS=>?_);repeat' ((conv=>whnf);first|apply RetC.mk|refine rgO ?_|refine ixO ?_|(first|apply brD|apply zad|apply brN|apply brI)<;>(intro))
   rw [show r.hear e=(false,{ r with silence:=0 }) by
    unfold RoleS.hear;rw [if_neg (by omega)];simp [h3,h4,h5]]
   exact ⟨rfl,hS.ext,hS.blk 0 rfl⟩
  ·repeat' ((conv=>whnf);first|apply RetC.mk|refine rgO ?_|refine ixO ?_|(first|apply brD|apply zad|apply brN|apply brI)<;>(intro))
   rw [show r.hear e=(false,r) by
    unfold RoleS.hear;rw [if_neg (by omega)];simp [h3,h5]]
   exact ⟨rfl,hS.ext,hS.blk 0 rfl⟩
 ·repeat' ((conv=>whnf);first|apply RetC.mk|refine rgO ?_|refine ixO ?_|(first|apply brD|apply zad|apply brN|apply brI)<;>(intro))
  rw [show r.hear e=(false,r) by
   unfold RoleS.hear;rw [if_neg (by omega)];simp [h3,h4]]
  exact ⟨rfl,hS.ext,hS.blk 0 rfl⟩
end

def rIt (x:Nat):Nat→Nat→Nat
 | 0,c=>c
 | k+1,c=>if (rIt x k c ^^^ x / 2 ^ k) % 2=1 then rIt x k c / 2 ^^^ 3988292384 else rIt x k c / 2
theorem zrC (a b:Nat):(a ^^^ b) / 2 ^ 1=a / 2 ^ 1 ^^^ b / 2 ^ 1:=by
 have:=Nat.shiftRight_xor_distrib (a:=a) (b:=b) (i:=1);simpa [Nat.shiftRight_eq_div_pow] using this
theorem zsA (x c:Nat):∀ k,zfR k (c ^^^ x)=rIt x k c ^^^ x / 2 ^ k
 | 0=>by simp [zfR,rIt]
 | k+1=>by
  have ih:=zsA x c k;have e:x / 2 ^ (k+1)=x / 2 ^ k / 2 ^ 1:=by rw [Nat.pow_succ,Nat.div_div_eq_div_mul]
  unfold zfR zmi rIt;rw [ih,zrC,Nat.and_one_is_mod,e];generalize x / 2 ^ k=q;generalize rIt x k c=r;split
  ·rename_i h;rw [h,Nat.mul_one,Nat.pow_one,Nat.xor_assoc,Nat.xor_assoc]
   first|done|rw [Nat.xor_comm (q / 2)]
  ·rename_i h;have:(r ^^^ q) % 2=0:=by omega
   rw [this,Nat.mul_zero,Nat.pow_one,Nat.xor_zero]
theorem zqT (c:Nat) (x:UInt8):rIt x.toNat 8 c=zdU c x:=by
 unfold zdU;rw [zsA];have:=x.toNat_lt;rw [Nat.div_eq_of_lt (by omega),Nat.xor_zero]
theorem zst {c x:Nat}(h:c < 4294967296):∀ k,rIt x k c < 4294967296
 | 0=>h
 | k+1=>by
  have:=zst (x:=x) h k;unfold rIt;split
  ·exact Nat.xor_lt_two_pow (n:=32) (by omega) (by omega)
  ·omega

theorem zuB (l:List UInt8) (hl:l.length≤1000000) (w:World) :
  CallC Tryz.prog 256 #[.string (bs l)] w fun v w'=>v = .int .i64 (zqu l:Nat)∧Ext No w w':=by
 refine zaa tabOk Tryz.func256 (by kernel_rfl) rfl Tryz.ntmps256 (lbO rfl) ?_;have hS:=St.start w No;(conv=>whnf)
 refine zaL tabOk (fun σ w' q=>∃ i:Nat,σ=[(4,.int .i64 i),(3,.int .i64 (zqP (l.take i):Nat)),(0,.string (bs l))]∧q=l.length - i∧i≤l.length∧St w No w' [])
  (σ':=[(4,.int .i64 ((0:Nat):Int)),(3,.int .i64 ((4294967295:Nat):Int)),(0,.string (bs l))]) (n:=l.length) ⟨rfl,rfl,rfl,trivial⟩ ⟨0,rfl,rfl,Nat.zero_le _,hS⟩ ?_
 clear hS;rintro _ w1 q ⟨i,rfl,rfl,hi,hS⟩;(conv=>whnf);rw [zaN];refine brD (fun h3=>?_) (fun h3=>?_)
 ·obtain ⟨x,hx⟩:∃ x,l[i]?=some x:=⟨_,List.getElem?_eq_getElem (by omega)⟩;have hst:=zkh hx;have hlt:=zhD (l.take i);have hx8:=x.toNat_lt;generalize zqP (l.take i)=c at hst hlt;(conv=>whnf)
  refine zaL tabOk (fun σ w' q=>∃ j:Nat,σ=[(5,.int .i64 j),(4,.int .i64 i),(3,.int .i64 (rIt x.toNat j c:Nat)),(0,.string (bs l))]∧q=8 - j∧j≤8∧St w No w' [])
   (σ':=[(5,.int .i64 ((0:Nat):Int)),(4,.int .i64 i),(3,.int .i64 (rIt x.toNat 0 c:Nat)),(0,.string (bs l))]) (n:=8) ⟨rfl,rfl,rfl,rfl,trivial⟩ ⟨0,rfl,rfl,Nat.zero_le _,hS⟩ ?_
  clear hS;rintro _ w2 q ⟨j,rfl,rfl,hj,hS⟩;have hd:=zst (x:=x.toNat) hlt j;have hdd:rIt x.toNat (j+1) c=if (rIt x.toNat j c ^^^ x.toNat / 2 ^ j) % 2=1 then rIt x.toNat j c / 2 ^^^ 3988292384 else rIt x.toNat j c / 2:=rfl
  have h88:=zqT c x;have hq:x.toNat / 2 ^ j≤x.toNat:=Nat.div_le_self _ _;(conv=>whnf);refine brD (fun h4=>?_) (fun h4=>?_)
  ·generalize rIt x.toNat j c=d at hd hdd;(conv=>whnf);refine zsz Tryz.underlying9 rfl hx ?_;(conv=>whnf);refine zkV (kd:=.i64) (m:=(x.toNat:Int)) (by kernel_rfl) Tryz.underlying3 (by rw [IntKind.wrap_i64];omega) ?_;(conv=>whnf);refine zkV (kd:=.u64) (m:=(j:Int)) (by kernel_rfl) Tryz.underlying307 (by simp [IntKind.wrap,IntKind.bits,IntKind.signed];omega) ?_;(conv=>whnf);refine zvb (n:=j) rfl (by show j≤64;omega) ?_;(conv=>whnf);refine zoI (by omega) (by omega) ?_;have hm:((d ^^^ x.toNat / 2 ^ j:Nat):Int).tmod 2=(((d ^^^ x.toNat / 2 ^ j) % 2:Nat):Int):=by rw [Int.tmod_eq_emod_of_nonneg (by omega)];omega
   have hd2:(d:Int).tdiv 2=((d / 2:Nat):Int):=by rw [Int.tdiv_eq_ediv_of_nonneg (by omega)];omega
   (conv=>whnf);refine nzO ?_;rw [hm];generalize d ^^^ x.toNat / 2 ^ j=z at hdd;(conv=>whnf);refine nzO ?_;rw [hd2];(conv=>whnf);refine rgO ?_;(conv=>whnf);refine brD (fun h5=>?_) (fun h5=>?_)
   ·rw [if_pos (by omega)] at hdd;(conv=>whnf);refine zoI (b:=3988292384) (by omega) (by omega) ?_;rw [← hdd];(conv=>whnf);refine rgO ?_;(conv=>whnf);refine LoopE.mk ⟨_,[(5,.int .i64 ((j+1:Nat):Int)),(4,_),(3,_),(0,_)],?_,⟨rfl,rfl,rfl,rfl,trivial⟩,⟨j+1,rfl,rfl,by omega,hS⟩⟩;omega
   ·rw [if_neg (by omega)] at hdd;rw [← hdd];(conv=>whnf);refine rgO ?_;(conv=>whnf);refine LoopE.mk ⟨_,[(5,.int .i64 ((j+1:Nat):Int)),(4,_),(3,_),(0,_)],?_,⟨rfl,rfl,rfl,rfl,trivial⟩,⟨j+1,rfl,rfl,by omega,hS⟩⟩;omega
  ·obtain rfl:j=8:=by omega
   rw [h88,← hst];(conv=>whnf);refine rgO ?_;(conv=>whnf);refine LoopE.mk ⟨_,[(4,.int .i64 ((i+1:Nat):Int)),(3,_),(0,_)],?_,⟨rfl,rfl,rfl,trivial⟩,⟨i+1,rfl,rfl,by omega,hS⟩⟩;omega
 ·obtain rfl:i=l.length:=by omega
  rw [List.take_length];have h1:=zhD l;(conv=>whnf);refine zoI (b:=4294967295) (by omega) (by omega) ?_;rw [Nat.xor_comm];repeat' ((conv=>whnf);first|apply RetC.mk|refine nzO ?_|refine rgO ?_|refine ixO ?_|(first|apply brD|apply zad|apply brN|apply brI)<;>(intro))
  exact ⟨rfl,hS.ext⟩

theorem ziD (n e l:Nat) (hn:n < 9223372036854775808) (he:e < 9223372036854775808) (hl:l < 9223372036854775808) (w:World) :
  CallC Tryz.prog 186 #[.int .i64 (n:Int),.int .i64 (e:Int),.int .i64 (l:Int)] w fun v w'=>v = .string (bs (zbs n e l))∧Ext No w w':=by
 have hs:=zlv (zfc n e l);refine zaa tabOk Tryz.func186 (by kernel_rfl) rfl Tryz.ntmps186 (lbO rfl) ?_;have hS:=St.start w No;(conv=>whnf);refine (zjs n 4 (by omega) hn _).mono ?_;rintro v w' ⟨rfl,hx⟩;replace hS:=hS.no hx;(conv=>whnf);refine (zjs e 4 (by omega) he _).mono ?_;rintro v w' ⟨rfl,hx⟩;replace hS:=hS.no hx;(conv=>whnf);refine zbp (by simp [zbh]) ?_;(conv=>whnf);refine (zjs l 4 (by omega) hl _).mono ?_;rintro v w' ⟨rfl,hx⟩;replace hS:=hS.no hx;(conv=>whnf);refine zbp (by simp [zbh]) ?_;rw [show zdN n 4++zdN e 4++zdN l 4=zfc n e l from rfl];(conv=>whnf);refine (zuB (zfc n e l) (by rw [zef];omega) _).mono ?_;rintro v w' ⟨rfl,hx⟩;replace hS:=hS.no hx;(conv=>whnf);refine (zjs (zqu (zfc n e l)) 4 (by omega) (by omega) _).mono ?_;rintro v w' ⟨rfl,hx⟩;replace hS:=hS.no hx;(conv=>whnf);refine zbp (by simp [zbh,zef]) ?_;repeat' ((conv=>whnf);first|apply RetC.mk|refine nzO ?_|refine rgO ?_|refine ixO ?_|(first|apply brD|apply zad|apply brN|apply brI)<;>(intro))
 exact ⟨rfl,hS.ext⟩
theorem zdW (l:List UInt8) (hl:l.length≤7) (w:World) :
  CallC Tryz.prog 185 #[.string (bs l)] w fun v w'=>v = .int .i64 (zeV l:Nat)∧Ext No w w':=by
 refine zaa tabOk Tryz.func185 (by kernel_rfl) rfl Tryz.ntmps185 (lbO rfl) ?_;have hS:=St.start w No;(conv=>whnf)
 refine zaL tabOk (fun σ w' q=>∃ i:Nat,σ=[(4,.int .i64 i),(3,.int .i64 (zeV (l.take i):Nat)),(0,.string (bs l))]∧q=l.length - i∧i≤l.length∧St w No w' [])
  (σ':=[(4,.int .i64 ((0:Nat):Int)),(3,.int .i64 ((0:Nat):Int)),(0,.string (bs l))]) (n:=l.length) ⟨rfl,rfl,rfl,trivial⟩ ⟨0,rfl,rfl,Nat.zero_le _,hS⟩ ?_
 clear hS;rintro _ w1 q ⟨i,rfl,rfl,hi,hS⟩;(conv=>whnf);rw [zaN];refine brD (fun h3=>?_) (fun h3=>?_)
 ·obtain ⟨x,hx⟩:∃ x,l[i]?=some x:=⟨_,List.getElem?_eq_getElem (by omega)⟩;have hst:=zjS hx;have hlt:=zlj (l.take i);have h7:256 ^ (l.take i).length≤256 ^ 6:=Nat.pow_le_pow_right (by omega) (by rw [List.length_take];omega);have hx8:=x.toNat_lt;generalize zeV (l.take i)=v at hst hlt;have hv:v < 281474976710656:=Nat.lt_of_lt_of_le hlt h7;(conv=>whnf);refine rgO ?_;(conv=>whnf);refine zsz Tryz.underlying9 rfl hx ?_;(conv=>whnf);refine zkV (kd:=.i64) (m:=(x.toNat:Int)) (by kernel_rfl) Tryz.underlying3 (by rw [IntKind.wrap_i64];omega) ?_;(conv=>whnf);refine rgO ?_;rw [show 256 * (v:Int)+(x.toNat:Int)=((zeV (l.take (i+1)):Nat):Int) by rw [hst];omega];(conv=>whnf);refine rgO ?_;(conv=>whnf);refine LoopE.mk ⟨_,[(4,.int .i64 ((i+1:Nat):Int)),(3,_),(0,_)],?_,⟨rfl,rfl,rfl,trivial⟩,⟨i+1,rfl,rfl,by omega,hS⟩⟩;omega
 ·obtain rfl:i=l.length:=by omega
  rw [List.take_length];repeat' ((conv=>whnf);first|apply RetC.mk|refine nzO ?_|refine rgO ?_|refine ixO ?_|(first|apply brD|apply zad|apply brN|apply brI)<;>(intro))
  exact ⟨rfl,hS.ext⟩

structure RBy where
 data:List UInt8
 off:Bool
 left:Int
 bnd:Bool
def zcv (B:RBy):List Value:=[.string (bs B.data),.bool B.off,.int .i64 B.left,.bool B.bnd]
structure Alike (R:RBy) (B:BytS):Prop where
 data:R.data=B.data
 off:R.off=B.off
 left:R.bnd=true→R.left=B.left∧0≤B.left
 free:R.bnd=false→B.left = -1
theorem zh7:∀ (s:List UInt8) (d:List UInt8) (p:Nat),p+s.length≤d.length→BytS.write ⟨d,false,-1⟩ p s=(true,⟨laid d p s,false,-1⟩)
 | [],d,p,_=>by rw [zc7];rfl
 | x::r,d,p,h=>by
  rw [List.length_cons] at h;rw [zbT,if_neg (by simp)];have ih:=zh7 r (d.set p x) (p+1) (by rw [List.length_set];omega);rw [zd6 h] at ih;exact ih
theorem zj3:∀ (s:List UInt8) (d:List UInt8) (p n:Nat),p+s.length≤d.length→BytS.write ⟨d,false,(n:Int)⟩ p s=if s.length≤n then (true,⟨laid d p s,false,(n:Int) - s.length⟩) else (false,⟨laid d p (s.take n),true,0⟩)
 | [],d,p,n,_=>by
  rw [zc7,if_pos (by simp)];simp [zjR]
 | x::r,d,p,0,h=>by
  rw [zbT,if_pos (by simp),if_neg (by simp),List.take_zero,zc7];rfl
 | x::r,d,p,n+1,h=>by
  rw [List.length_cons] at h
  have e:(if ((n+1:Nat):Int) - 1 > -1 then ((n+1:Nat):Int) - 1 else -1)=(n:Int):=by
   rw [if_pos (by omega)];omega
  have ih:=zj3 r (d.set p x) (p+1) n (by rw [List.length_set];omega);rw [zbT,if_neg (by simp;omega)];dsimp only;rw [e,ih,List.take_succ_cons,List.length_cons];by_cases hn:r.length≤n
  ·rw [if_pos hn,if_pos (by omega),zd6 h];congr 2;omega
  ·rw [if_neg hn,if_neg (by omega),zd6 (by rw [List.length_take];omega)]
theorem zpQ {d:List UInt8}{l:Int}{p:Nat}{s:List UInt8}(hs:s≠[]):BytS.write ⟨d,true,l⟩ p s=(false,⟨d,true,l⟩):=by
 cases s with
 | nil=>exact absurd rfl hs
 | cons x r=>rw [zbT,if_pos (.inl rfl)]
section
variable {w : World} {b : Nat} {B : BytS} {R : RBy}
theorem ztN (hb:Blk w b 194 (zcv R)):CallC Tryz.prog 102 #[.pointer (some ⟨b,0,none⟩)] w fun _ w'=>Ext (· = b) w w'∧Blk w' b 194 (zcv ⟨R.data,false,R.left,false⟩):=by
 refine zaa tabOk Tryz.func102 (by kernel_rfl) rfl Tryz.ntmps102 (lbO rfl) ?_;have hS:=(St.start w (· = b)).add (zab b _ _) hb (by simp [blk];exact hb.lt) (by simp);(conv=>whnf);refine hS.st 0 rfl (lbO rfl) rfl (fun w' hS=>?_);(conv=>whnf);refine hS.st 0 rfl (lbO rfl) rfl (fun w' hS=>?_);repeat' ((conv=>whnf);first|apply RetC.mk|refine rgO ?_|refine ixO ?_|(first|apply brD|apply zad|apply brN|apply brI)<;>(intro))
 exact ⟨hS.ext,hS.blk 0 rfl⟩
theorem zr0 (k:Int) (hb:Blk w b 194 (zcv R)):CallC Tryz.prog 99 #[.pointer (some ⟨b,0,none⟩),.int .i64 k] w fun v w'=>v = .int .i64 ((if k < 0 then 2 else if R.off=true then 7 else 0:Nat):Int)∧Ext (· = b) w w'∧Blk w' b 194 (zcv (if k < 0∨R.off=true then R else ⟨R.data,R.off,k,true⟩)):=by
 refine zaa tabOk Tryz.func99 (by kernel_rfl) rfl Tryz.ntmps99 (lbO rfl) ?_;have hS:=(St.start w (· = b)).add (zab b _ _) hb (by simp [blk];exact hb.lt) (by simp);(conv=>whnf);refine brD (fun h1=>?_) (fun h1=>?_)
 ·repeat' ((conv=>whnf);first|apply RetC.mk|refine rgO ?_|refine ixO ?_|(first|apply brD|apply zad|apply brN|apply brI)<;>(intro))
  rw [if_pos h1,if_pos (.inl h1)];exact ⟨rfl,hS.ext,hS.blk 0 rfl⟩
 conv=>whnf
 refine hS.ld 0 rfl rfl ?_;rw [if_neg h1];cases ho:R.off
 ·rw [if_neg (by simp),if_neg (by simp [h1])];(conv=>whnf);refine hS.st 0 rfl (lbO rfl) rfl (fun w' hS=>?_);(conv=>whnf);refine hS.st 0 rfl (lbO rfl) rfl (fun w' hS=>?_);repeat' ((conv=>whnf);first|apply RetC.mk|refine rgO ?_|refine ixO ?_|(first|apply brD|apply zad|apply brN|apply brI)<;>(intro))
  exact ⟨rfl,hS.ext,(hS.blk 0 rfl).to (by rw [← ho];rfl)⟩
 ·rw [if_pos rfl,if_pos (.inr rfl)];repeat' ((conv=>whnf);first|apply RetC.mk|refine rgO ?_|refine ixO ?_|(first|apply brD|apply zad|apply brN|apply brI)<;>(intro))
  exact ⟨rfl,hS.ext,hS.blk 0 rfl⟩
end

def RBy.cutN (R:RBy) (m:Nat):Nat:=if R.off=true then 0 else if R.bnd=true∧R.left < m then R.left.toNat else m
def RBy.offN (R:RBy) (m:Nat):Bool:=if R.off=true then true else if R.bnd=true∧R.left < m then true else false
def RBy.write (R:RBy) (p:Nat) (s:List UInt8):Bool × RBy:=(!R.offN s.length,⟨laid R.data p (s.take (R.cutN s.length)),R.offN s.length,R.left - R.cutN s.length,R.bnd⟩)
section
variable {w : World} {b : Nat} {R : RBy}
theorem zde (p:Nat) (s:List UInt8) (hp:p+s.length≤64) (hl:R.data.length=64) (hbd:R.bnd=true→0≤R.left) (hr : -100000000≤R.left∧R.left≤9223372036854775807) (hb:Blk w b 194 (zcv R)) :
  CallC Tryz.prog 187 #[.pointer (some ⟨b,0,none⟩),.int .i64 (p:Int),.string (bs s)] w fun v w'=>v = .bool (R.write p s).1∧Ext (· = b) w w'∧Blk w' b 194 (zcv (R.write p s).2):=by
 obtain ⟨D,ro,lf,bd⟩:=R;dsimp only at hl hbd hr;refine zaa tabOk Tryz.func187 (by kernel_rfl) rfl Tryz.ntmps187 (lbO rfl) ?_;have hS:=(St.start w (· = b)).add (zab b _ _) hb (by simp [blk];exact hb.lt) (by simp);replace hS:St w (· = b) w [blk b 194 [.string (bs D),.bool ro,.int .i64 lf,.bool bd]]:=hS;unfold RBy.write RBy.cutN RBy.offN;(conv=>whnf);rw [zaN];refine hS.ld 0 rfl rfl ?_;cases ro
 ·rw [if_neg Bool.false_ne_true,if_neg Bool.false_ne_true];(conv=>whnf);refine hS.ld 0 rfl rfl ?_;cases bd
  ·(conv=>whnf)
   have hc:¬ (false=true∧lf < (s.length:Int)):=by simp
   rw [if_neg hc,if_neg hc]
   have hlaid:D.take p++s.take s.length++D.drop (p+s.length)=laid D p (s.take s.length):=by
    unfold laid;rw [List.length_take,Nat.min_eq_left (by omega)]
   refine zeI tabOk mixed [4,14] (fun q=>q=b) (.take 0 (.take 1 (.take 2 (.take 3 (.take 5 (.take 7 (.take 8 (.take 9 (.take 11 (.take 12 (.take 13 (.take 15 (.take 16 (.take 17 (.alt 4 (.take 6 (.take 10 (.alt 14 (.take 18 (.take 19 (.take 20 (.take 21 (.alt 22 .fin .fin))))) .fin))) (.alt 14 (.take 18 (.alt 4 (.take 6 (.take 10 (.take 19 (.take 20 (.take 21 (.alt 22 .fin .fin)))))) .fin)) .fin)))))))))))))))) (by kernel_rfl) ?_;rintro w1 rfl;replace hS:=hS.drew;(conv=>whnf);refine ze2 (b:=s.length) Tryz.underlying9 (by omega) (by omega) rfl ?_;(conv=>whnf);refine rgO ?_;(conv=>whnf);refine And.intro ?_ ?_
   ·(conv=>whnf)
    refine hS.ld 0 rfl rfl ?_;refine KeepC.mk (Ext.refl _ _) ?_;(conv=>whnf);refine ze2 (b:=p) Tryz.underlying9 rfl (by omega) rfl ?_;(conv=>whnf);refine zbp (by simp;omega) ?_;(conv=>whnf);refine hS.ld 0 rfl rfl ?_;refine KeepC.mk (Ext.refl _ _) ?_;(conv=>whnf);refine zd7 (b:=p+s.length) Tryz.underlying9 (by omega) (by omega) rfl ?_;(conv=>whnf);refine zbp (by simp;omega) ?_;(conv=>whnf);refine hS.stX 0 rfl (lbO rfl) rfl (fun w' hx' hS=>?_);refine KeepC.mk hx' ?_;clear hx';replace hS:St w (· = b) w' [blk b 194 [.string (bs (D.take p++s.take s.length++D.drop (p+s.length))),.bool false,.int .i64 lf,.bool false]]:=hS;rw [hlaid] at hS;(conv=>whnf);refine hS.ld 0 rfl rfl ?_;(conv=>whnf);refine rgO ?_;(conv=>whnf);refine hS.st 0 rfl (lbO rfl) rfl (fun w' hS=>?_);(conv=>whnf);refine hS.ld 0 rfl rfl ?_;repeat' ((conv=>whnf);first|apply RetC.mk|refine rgO ?_|refine ixO ?_|(first|apply brD|apply zad|apply brN|apply brI)<;>(intro))
    exact ⟨rfl,hS.ext,hS.blk 0 rfl⟩
   ·(conv=>whnf)
    refine hS.ld 0 rfl rfl ?_;refine KeepC.mk (Ext.refl _ _) ?_;(conv=>whnf);refine zd7 (b:=p+s.length) Tryz.underlying9 (by omega) (by omega) rfl ?_;(conv=>whnf);refine hS.ld 0 rfl rfl ?_;refine KeepC.mk (Ext.refl _ _) ?_;(conv=>whnf);refine ze2 (b:=p) Tryz.underlying9 rfl (by omega) rfl ?_;(conv=>whnf);refine zbp (by simp;omega) ?_;(conv=>whnf);refine zbp (by simp;omega) ?_;(conv=>whnf);refine hS.stX 0 rfl (lbO rfl) rfl (fun w' hx' hS=>?_);refine KeepC.mk hx' ?_;clear hx';replace hS:St w (· = b) w' [blk b 194 [.string (bs (D.take p++s.take s.length++D.drop (p+s.length))),.bool false,.int .i64 lf,.bool false]]:=hS;rw [hlaid] at hS;(conv=>whnf);refine hS.ld 0 rfl rfl ?_;(conv=>whnf);refine rgO ?_;(conv=>whnf);refine hS.st 0 rfl (lbO rfl) rfl (fun w' hS=>?_);(conv=>whnf);refine hS.ld 0 rfl rfl ?_;repeat' ((conv=>whnf);first|apply RetC.mk|refine rgO ?_|refine ixO ?_|(first|apply brD|apply zad|apply brN|apply brI)<;>(intro))
    exact ⟨rfl,hS.ext,hS.blk 0 rfl⟩
  ·have hb0:=hbd rfl;(conv=>whnf);refine hS.ld 0 rfl rfl ?_;(conv=>whnf);refine brD (fun h1=>?_) (fun h1=>?_)
   ·have hc:true=true∧lf < (s.length:Int):=⟨rfl,h1⟩;rw [if_pos hc,if_pos hc];obtain ⟨m,rfl⟩:∃ m:Nat,lf=m:=⟨lf.toNat,by omega⟩;simp only [Int.toNat_natCast];(conv=>whnf);refine hS.ld 0 rfl rfl ?_;(conv=>whnf);refine hS.st 0 rfl (lbO rfl) rfl (fun w' hS=>?_);(conv=>whnf)
    have hlaid:D.take p++s.take m++D.drop (p+m)=laid D p (s.take m):=by
     unfold laid;rw [List.length_take,Nat.min_eq_left (by omega)]
    refine zeI tabOk mixed [4,14] (fun q=>q=b) (.take 0 (.take 1 (.take 2 (.take 3 (.take 5 (.take 7 (.take 8 (.take 9 (.take 11 (.take 12 (.take 13 (.take 15 (.take 16 (.take 17 (.alt 4 (.take 6 (.take 10 (.alt 14 (.take 18 (.take 19 (.take 20 (.take 21 (.alt 22 .fin .fin))))) .fin))) (.alt 14 (.take 18 (.alt 4 (.take 6 (.take 10 (.take 19 (.take 20 (.take 21 (.alt 22 .fin .fin)))))) .fin)) .fin)))))))))))))))) (by kernel_rfl) ?_;rintro w1 rfl;replace hS:=hS.drew;(conv=>whnf);refine ze2 (b:=m) Tryz.underlying9 (by omega) (by omega) rfl ?_;(conv=>whnf);refine rgO ?_;(conv=>whnf);refine And.intro ?_ ?_
    ·(conv=>whnf)
     refine hS.ld 0 rfl rfl ?_;refine KeepC.mk (Ext.refl _ _) ?_;(conv=>whnf);refine ze2 (b:=p) Tryz.underlying9 rfl (by omega) rfl ?_;(conv=>whnf);refine zbp (by simp;omega) ?_;(conv=>whnf);refine hS.ld 0 rfl rfl ?_;refine KeepC.mk (Ext.refl _ _) ?_;(conv=>whnf);refine zd7 (b:=p+m) Tryz.underlying9 (by omega) (by omega) rfl ?_;(conv=>whnf);refine zbp (by simp;omega) ?_;(conv=>whnf);refine hS.stX 0 rfl (lbO rfl) rfl (fun w' hx' hS=>?_);refine KeepC.mk hx' ?_;clear hx';replace hS:St w (· = b) w' [blk b 194 [.string (bs (D.take p++s.take m++D.drop (p+m))),.bool true,.int .i64 (m:Int),.bool true]]:=hS;rw [hlaid] at hS;(conv=>whnf);refine hS.ld 0 rfl rfl ?_;(conv=>whnf);refine rgO ?_;(conv=>whnf);refine hS.st 0 rfl (lbO rfl) rfl (fun w' hS=>?_);(conv=>whnf);refine hS.ld 0 rfl rfl ?_;repeat' ((conv=>whnf);first|apply RetC.mk|refine rgO ?_|refine ixO ?_|(first|apply brD|apply zad|apply brN|apply brI)<;>(intro))
     exact ⟨rfl,hS.ext,hS.blk 0 rfl⟩
    ·(conv=>whnf)
     refine hS.ld 0 rfl rfl ?_;refine KeepC.mk (Ext.refl _ _) ?_;(conv=>whnf);refine zd7 (b:=p+m) Tryz.underlying9 (by omega) (by omega) rfl ?_;(conv=>whnf);refine hS.ld 0 rfl rfl ?_;refine KeepC.mk (Ext.refl _ _) ?_;(conv=>whnf);refine ze2 (b:=p) Tryz.underlying9 rfl (by omega) rfl ?_;(conv=>whnf);refine zbp (by simp;omega) ?_;(conv=>whnf);refine zbp (by simp;omega) ?_;(conv=>whnf);refine hS.stX 0 rfl (lbO rfl) rfl (fun w' hx' hS=>?_);refine KeepC.mk hx' ?_;clear hx';replace hS:St w (· = b) w' [blk b 194 [.string (bs (D.take p++s.take m++D.drop (p+m))),.bool true,.int .i64 (m:Int),.bool true]]:=hS;rw [hlaid] at hS;(conv=>whnf);refine hS.ld 0 rfl rfl ?_;(conv=>whnf);refine rgO ?_;(conv=>whnf);refine hS.st 0 rfl (lbO rfl) rfl (fun w' hS=>?_);(conv=>whnf);refine hS.ld 0 rfl rfl ?_;repeat' ((conv=>whnf);first|apply RetC.mk|refine rgO ?_|refine ixO ?_|(first|apply brD|apply zad|apply brN|apply brI)<;>(intro))
     exact ⟨rfl,hS.ext,hS.blk 0 rfl⟩
   ·have hc:¬ (true=true∧lf < (s.length:Int)):=fun h=>h1 h.2
    rw [if_neg hc,if_neg hc];(conv=>whnf)
    have hlaid:D.take p++s.take s.length++D.drop (p+s.length)=laid D p (s.take s.length):=by
     unfold laid;rw [List.length_take,Nat.min_eq_left (by omega)]
    refine zeI tabOk mixed [4,14] (fun q=>q=b) (.take 0 (.take 1 (.take 2 (.take 3 (.take 5 (.take 7 (.take 8 (.take 9 (.take 11 (.take 12 (.take 13 (.take 15 (.take 16 (.take 17 (.alt 4 (.take 6 (.take 10 (.alt 14 (.take 18 (.take 19 (.take 20 (.take 21 (.alt 22 .fin .fin))))) .fin))) (.alt 14 (.take 18 (.alt 4 (.take 6 (.take 10 (.take 19 (.take 20 (.take 21 (.alt 22 .fin .fin)))))) .fin)) .fin)))))))))))))))) (by kernel_rfl) ?_;rintro w1 rfl;replace hS:=hS.drew;(conv=>whnf);refine ze2 (b:=s.length) Tryz.underlying9 (by omega) (by omega) rfl ?_;(conv=>whnf);refine rgO ?_;(conv=>whnf);refine And.intro ?_ ?_
    ·(conv=>whnf)
     refine hS.ld 0 rfl rfl ?_;refine KeepC.mk (Ext.refl _ _) ?_;(conv=>whnf);refine ze2 (b:=p) Tryz.underlying9 rfl (by omega) rfl ?_;(conv=>whnf);refine zbp (by simp;omega) ?_;(conv=>whnf);refine hS.ld 0 rfl rfl ?_;refine KeepC.mk (Ext.refl _ _) ?_;(conv=>whnf);refine zd7 (b:=p+s.length) Tryz.underlying9 (by omega) (by omega) rfl ?_;(conv=>whnf);refine zbp (by simp;omega) ?_;(conv=>whnf);refine hS.stX 0 rfl (lbO rfl) rfl (fun w' hx' hS=>?_);refine KeepC.mk hx' ?_;clear hx';replace hS:St w (· = b) w' [blk b 194 [.string (bs (D.take p++s.take s.length++D.drop (p+s.length))),.bool false,.int .i64 lf,.bool true]]:=hS;rw [hlaid] at hS;(conv=>whnf);refine hS.ld 0 rfl rfl ?_;(conv=>whnf);refine rgO ?_;(conv=>whnf);refine hS.st 0 rfl (lbO rfl) rfl (fun w' hS=>?_);(conv=>whnf);refine hS.ld 0 rfl rfl ?_;repeat' ((conv=>whnf);first|apply RetC.mk|refine rgO ?_|refine ixO ?_|(first|apply brD|apply zad|apply brN|apply brI)<;>(intro))
     exact ⟨rfl,hS.ext,hS.blk 0 rfl⟩
    ·(conv=>whnf)
     refine hS.ld 0 rfl rfl ?_;refine KeepC.mk (Ext.refl _ _) ?_;(conv=>whnf);refine zd7 (b:=p+s.length) Tryz.underlying9 (by omega) (by omega) rfl ?_;(conv=>whnf);refine hS.ld 0 rfl rfl ?_;refine KeepC.mk (Ext.refl _ _) ?_;(conv=>whnf);refine ze2 (b:=p) Tryz.underlying9 rfl (by omega) rfl ?_;(conv=>whnf);refine zbp (by simp;omega) ?_;(conv=>whnf);refine zbp (by simp;omega) ?_;(conv=>whnf);refine hS.stX 0 rfl (lbO rfl) rfl (fun w' hx' hS=>?_);refine KeepC.mk hx' ?_;clear hx';replace hS:St w (· = b) w' [blk b 194 [.string (bs (D.take p++s.take s.length++D.drop (p+s.length))),.bool false,.int .i64 lf,.bool true]]:=hS;rw [hlaid] at hS;(conv=>whnf);refine hS.ld 0 rfl rfl ?_;(conv=>whnf);refine rgO ?_;(conv=>whnf);refine hS.st 0 rfl (lbO rfl) rfl (fun w' hS=>?_);(conv=>whnf);refine hS.ld 0 rfl rfl ?_;repeat' ((conv=>whnf);first|apply RetC.mk|refine rgO ?_|refine ixO ?_|(first|apply brD|apply zad|apply brN|apply brI)<;>(intro))
     exact ⟨rfl,hS.ext,hS.blk 0 rfl⟩
 ·rw [if_pos rfl,if_pos rfl];(conv=>whnf)
  have hlaid:D.take p++s.take 0++D.drop (p+0)=laid D p (s.take 0):=by
   unfold laid;rw [List.length_take,Nat.min_eq_left (by omega)]
  refine zeI tabOk mixed [4,14] (fun q=>q=b) (.take 0 (.take 1 (.take 2 (.take 3 (.take 5 (.take 7 (.take 8 (.take 9 (.take 11 (.take 12 (.take 13 (.take 15 (.take 16 (.take 17 (.alt 4 (.take 6 (.take 10 (.alt 14 (.take 18 (.take 19 (.take 20 (.take 21 (.alt 22 .fin .fin))))) .fin))) (.alt 14 (.take 18 (.alt 4 (.take 6 (.take 10 (.take 19 (.take 20 (.take 21 (.alt 22 .fin .fin)))))) .fin)) .fin)))))))))))))))) (by kernel_rfl) ?_;rintro w1 rfl;replace hS:=hS.drew;(conv=>whnf);refine ze2 (b:=0) Tryz.underlying9 (by omega) (by omega) rfl ?_;(conv=>whnf);refine rgO ?_;(conv=>whnf);refine And.intro ?_ ?_
  ·(conv=>whnf)
   refine hS.ld 0 rfl rfl ?_;refine KeepC.mk (Ext.refl _ _) ?_;(conv=>whnf);refine ze2 (b:=p) Tryz.underlying9 rfl (by omega) rfl ?_;(conv=>whnf);refine zbp (by simp;omega) ?_;(conv=>whnf);refine hS.ld 0 rfl rfl ?_;refine KeepC.mk (Ext.refl _ _) ?_;(conv=>whnf);refine zd7 (b:=p+0) Tryz.underlying9 (by omega) (by omega) rfl ?_;(conv=>whnf);refine zbp (by simp;omega) ?_;(conv=>whnf);refine hS.stX 0 rfl (lbO rfl) rfl (fun w' hx' hS=>?_);refine KeepC.mk hx' ?_;clear hx';replace hS:St w (· = b) w' [blk b 194 [.string (bs (D.take p++s.take 0++D.drop (p+0))),.bool true,.int .i64 lf,.bool bd]]:=hS;rw [hlaid] at hS;(conv=>whnf);refine hS.ld 0 rfl rfl ?_;(conv=>whnf);refine rgO ?_;(conv=>whnf);refine hS.st 0 rfl (lbO rfl) rfl (fun w' hS=>?_);(conv=>whnf);refine hS.ld 0 rfl rfl ?_;repeat' ((conv=>whnf);first|apply RetC.mk|refine rgO ?_|refine ixO ?_|(first|apply brD|apply zad|apply brN|apply brI)<;>(intro))
   exact ⟨rfl,hS.ext,hS.blk 0 rfl⟩
  ·(conv=>whnf)
   refine hS.ld 0 rfl rfl ?_;refine KeepC.mk (Ext.refl _ _) ?_;(conv=>whnf);refine zd7 (b:=p+0) Tryz.underlying9 (by omega) (by omega) rfl ?_;(conv=>whnf);refine hS.ld 0 rfl rfl ?_;refine KeepC.mk (Ext.refl _ _) ?_;(conv=>whnf);refine ze2 (b:=p) Tryz.underlying9 rfl (by omega) rfl ?_;(conv=>whnf);refine zbp (by simp;omega) ?_;(conv=>whnf);refine zbp (by simp;omega) ?_;(conv=>whnf);refine hS.stX 0 rfl (lbO rfl) rfl (fun w' hx' hS=>?_);refine KeepC.mk hx' ?_;clear hx';replace hS:St w (· = b) w' [blk b 194 [.string (bs (D.take p++s.take 0++D.drop (p+0))),.bool true,.int .i64 lf,.bool bd]]:=hS;rw [hlaid] at hS;(conv=>whnf);refine hS.ld 0 rfl rfl ?_;(conv=>whnf);refine rgO ?_;(conv=>whnf);refine hS.st 0 rfl (lbO rfl) rfl (fun w' hS=>?_);(conv=>whnf);refine hS.ld 0 rfl rfl ?_;repeat' ((conv=>whnf);first|apply RetC.mk|refine rgO ?_|refine ixO ?_|(first|apply brD|apply zad|apply brN|apply brI)<;>(intro))
   exact ⟨rfl,hS.ext,hS.blk 0 rfl⟩
end

theorem zoL (d:List UInt8) {k:Nat}(hk:k < 2) (h:zcJ d k % 2=k) (h1:1≤zcJ d k):(zbH d k).num≠zcJ d k:=by
 have:k=0∨k=1:=by omega
 rcases this with rfl|rfl
 ·simp [zbH];omega
 ·by_cases hf:zcq d 0∧zcJ d 0 > (zbH d 0).num
  ·rw [show zbH d 1=⟨zcJ d 0,zhV d 0,zhW d 0,false⟩ from if_pos hf];have:=hf.1.2.1;dsimp only;omega
  ·rw [show zbH d 1=⟨0,0,0,false⟩ from if_neg hf];dsimp only;omega
section
variable {w : World} {b c : Nat} {R : RBy}
theorem zqW (hB:Blk w b 194 (zcv R)) (hl:R.data.length=64):CallC Tryz.prog 92 #[.pointer (some ⟨b,0,none⟩)] w fun v w'=>∃ c,v = .pointer (some ⟨c,0,none⟩)∧w.heap.size≤c∧Ext No w w'∧Blk w' c 137 (zdl b (zav R.data)):=by
 refine zaa tabOk Tryz.func92 (by kernel_rfl) rfl Tryz.ntmps92 (lbO rfl) ?_;have hS:=St.start w No;(conv=>whnf);refine hS.new (fun c w' hc hS=>?_);(conv=>whnf)
 refine zaL tabOk (fun σ w' q=>∃ k:Nat,σ=[(4,.int .i64 k),(3,.pointer (some ⟨c,0,none⟩)),(0,.pointer (some ⟨b,0,none⟩))]∧q=2 - k∧k≤2∧St w No w' [blk c 137 (zdl b (zbH R.data k))])
  (σ':=[(4,.int .i64 ((0:Nat):Int)),(3,.pointer (some ⟨c,0,none⟩)),(0,.pointer (some ⟨b,0,none⟩))]) (n:=2) ⟨rfl,rfl,rfl,trivial⟩ ⟨0,rfl,rfl,Nat.zero_le _,hS⟩ ?_
 clear hS;rintro _ w1 q ⟨k,rfl,rfl,hk,hS⟩;(conv=>whnf);refine brD (fun h3=>?_) (fun h3=>?_)
 ·have hk2:k < 2:=by omega
  have hrl:=zmw hl hk2;have n1:=zk9 R.data k;have n2:=zlI R.data k;have n3:=zli R.data k;have hst:zbH R.data (k+1)=zhT R.data k (zbH R.data k):=rfl;have hpar:=zoL R.data hk2;(conv=>whnf);refine hS.ldr (hB.cell 0) id ?_;(conv=>whnf);refine rgO ?_;(conv=>whnf);refine rgO ?_;(conv=>whnf);refine rgO ?_;(conv=>whnf);refine zsx (a:=k * 20) (b:=k * 20+17) (r:=zc8 R.data k) Tryz.underlying9 (by omega) (by omega) (by omega) (by omega) (by unfold zc8;congr 1;omega) ?_;(conv=>whnf);refine ze2 (b:=4) Tryz.underlying9 rfl (by omega) rfl ?_;(conv=>whnf);refine (zdW ((zc8 R.data k).take 4) (by rw [List.length_take];omega) _).mono ?_;rintro v w2 ⟨rfl,hx1⟩;replace hS:=hS.no hx1;clear hx1;rw [show zeV ((zc8 R.data k).take 4)=zcJ R.data k from rfl];have hmod:(zcJ R.data k:Int).tmod 2=((zcJ R.data k % 2:Nat):Int):=by rw [Int.tmod_eq_emod_of_nonneg (by omega)];omega
  have hf:zcq R.data k↔(1≤zcJ R.data k∧zcJ R.data k % 2=k∧zbs (zcJ R.data k) (zhV R.data k) (zhW R.data k)++[165]=zc8 R.data k):=Iff.rfl;have hok:zhT R.data k (zbH R.data k)=if zcq R.data k∧zcJ R.data k > (zbH R.data k).num then ⟨zcJ R.data k,zhV R.data k,zhW R.data k,(zbH R.data k).dead⟩ else zbH R.data k:=rfl
  (conv=>whnf);refine brD (fun h4=>?_) (fun h4=>?_)
  ·skip
   rw [hok,if_neg (fun h=>by have:=(hf.1 h.1).1;omega)] at hst;(conv=>whnf);refine rgO ?_;(conv=>whnf);refine LoopE.mk ⟨_,[(4,.int .i64 ((k+1:Nat):Int)),(3,_),(0,_)],?_,⟨rfl,rfl,rfl,trivial⟩,⟨k+1,rfl,rfl,by omega,by rw [hst];exact hS⟩⟩;omega
  (conv=>whnf);refine nzO ?_;rw [hmod];(conv=>whnf);refine zad (fun h5=>?_) (fun h5=>?_)
  ·skip
   rw [hok,if_neg (fun h=>h5 (by have:=(hf.1 h.1).2.1;omega))] at hst;(conv=>whnf);refine rgO ?_;(conv=>whnf);refine LoopE.mk ⟨_,[(4,.int .i64 ((k+1:Nat):Int)),(3,_),(0,_)],?_,⟨rfl,rfl,rfl,trivial⟩,⟨k+1,rfl,rfl,by omega,by rw [hst];exact hS⟩⟩;omega
  (conv=>whnf);refine hS.ld 0 rfl rfl ?_;(conv=>whnf);refine brD (fun h6=>?_) (fun h6=>?_)
  ·skip
   rw [hok,if_neg (fun h=>by have:=h.2;omega)] at hst;(conv=>whnf);refine rgO ?_;(conv=>whnf);refine LoopE.mk ⟨_,[(4,.int .i64 ((k+1:Nat):Int)),(3,_),(0,_)],?_,⟨rfl,rfl,rfl,trivial⟩,⟨k+1,rfl,rfl,by omega,by rw [hst];exact hS⟩⟩;omega
  have hgt:zcJ R.data k > (zbH R.data k).num:=by
   have:=hpar (by omega) (by omega);omega
  conv=>whnf
  (refine zah tabOk mixed [] (No) [0,1,2,4,5,10,3,6,7,8,9,11] (by kernel_rfl) ?_;rintro w1 rfl;replace hS:=hS.drew)
  (conv=>whnf);refine zsx (a:=4) (b:=8) Tryz.underlying9 rfl rfl (by omega) (by omega) rfl ?_;(conv=>whnf);refine zsx (a:=8) (b:=12) Tryz.underlying9 rfl rfl (by omega) (by omega) rfl ?_;(conv=>whnf);refine (zdW (((zc8 R.data k).drop 4).take (8 - 4)) (by rw [List.length_take];omega) _).mono ?_;rintro v w3 ⟨rfl,hx2⟩;replace hS:=hS.no hx2;refine KeepC.mk hx2 ?_;(conv=>whnf);refine (zdW (((zc8 R.data k).drop 8).take (12 - 8)) (by rw [List.length_take];omega) _).mono ?_;rintro v w4 ⟨rfl,hx3⟩;replace hS:=hS.no hx3;refine KeepC.mk (hx2.trans hx3) ?_;rw [show zeV (((zc8 R.data k).drop 4).take (8 - 4))=zhV R.data k from rfl,show zeV (((zc8 R.data k).drop 8).take (12 - 8))=zhW R.data k from rfl];(conv=>whnf);refine (ziD (zcJ R.data k) (zhV R.data k) (zhW R.data k) (by omega) (by omega) (by omega) _).mono ?_;rintro v w5 ⟨rfl,hx4⟩;replace hS:=hS.no hx4;refine KeepC.mk ((hx2.trans hx3).trans hx4) ?_;(conv=>whnf);refine (zdx 165 (by omega) _).mono ?_;rintro v w6 ⟨rfl,hx5⟩;replace hS:=hS.no hx5;refine KeepC.mk (((hx2.trans hx3).trans hx4).trans hx5) ?_;clear hx2 hx3 hx4 hx5;(conv=>whnf);refine zbp (by rw [zcV];simp) ?_;(conv=>whnf);refine zbt ?_;(conv=>whnf);refine brD (fun h7=>?_) (fun h7=>?_)
  ·rw [hok,if_pos ⟨hf.2 ⟨by omega,by omega,h7⟩,hgt⟩] at hst;(conv=>whnf);refine hS.st 0 rfl (lbO rfl) rfl (fun w' hS=>?_);(conv=>whnf);refine zsx (a:=4) (b:=8) Tryz.underlying9 rfl rfl (by omega) (by omega) rfl ?_;(conv=>whnf);refine (zdW (((zc8 R.data k).drop 4).take (8 - 4)) (by rw [List.length_take];omega) _).mono ?_;rintro v w7 ⟨rfl,hx2⟩;replace hS:=hS.no hx2;clear hx2;rw [show zeV (((zc8 R.data k).drop 4).take (8 - 4))=zhV R.data k from rfl];(conv=>whnf);refine hS.st 0 rfl (lbO rfl) rfl (fun w' hS=>?_);(conv=>whnf);refine zsx (a:=8) (b:=12) Tryz.underlying9 rfl rfl (by omega) (by omega) rfl ?_;(conv=>whnf);refine (zdW (((zc8 R.data k).drop 8).take (12 - 8)) (by rw [List.length_take];omega) _).mono ?_;rintro v w8 ⟨rfl,hx3⟩;replace hS:=hS.no hx3;clear hx3;rw [show zeV (((zc8 R.data k).drop 8).take (12 - 8))=zhW R.data k from rfl];(conv=>whnf);refine hS.st 0 rfl (lbO rfl) rfl (fun w' hS=>?_);replace hS:St w No w' [blk c 137 (zdl b ⟨zcJ R.data k,zhV R.data k,zhW R.data k,(zbH R.data k).dead⟩)]:=hS;rw [← hst] at hS;(conv=>whnf);refine rgO ?_;(conv=>whnf);refine LoopE.mk ⟨_,[(4,.int .i64 ((k+1:Nat):Int)),(3,_),(0,_)],?_,⟨rfl,rfl,rfl,trivial⟩,⟨k+1,rfl,rfl,by omega,hS⟩⟩;omega
  ·skip
   rw [hok,if_neg (fun h=>h7 (hf.1 h.1).2.2)] at hst;(conv=>whnf);refine rgO ?_;(conv=>whnf);refine LoopE.mk ⟨_,[(4,.int .i64 ((k+1:Nat):Int)),(3,_),(0,_)],?_,⟨rfl,rfl,rfl,trivial⟩,⟨k+1,rfl,rfl,by omega,by rw [hst];exact hS⟩⟩;omega
 ·obtain rfl:k=2:=by omega
  repeat' ((conv=>whnf);first|apply RetC.mk|refine nzO ?_|refine rgO ?_|refine ixO ?_|(first|apply brD|apply zad|apply brN|apply brI)<;>(intro))
  exact ⟨c,rfl,hc,hS.ext,hS.blk 0 rfl⟩
end

theorem zcX {R:RBy}{B:BytS}{p:Nat}{s:List UInt8}(h:Alike R B) (hp:p+s.length≤B.data.length) (hs:s≠[]):(R.write p s).1=(B.write p s).1∧Alike (R.write p s).2 (B.write p s).2:=by
 obtain ⟨rd,ro,rl,rb⟩:=R;obtain ⟨bd,bo,bl⟩:=B;obtain ⟨h1,h2,h3,h4⟩:=h;dsimp only at h1 h2 h3 h4 hp;subst h1 h2;unfold RBy.write RBy.cutN RBy.offN;dsimp only;cases ro
 ·cases rb
  ·obtain rfl:=h4 rfl;rw [zh7 s rd p hp];simp only [if_neg Bool.false_ne_true,Bool.false_eq_true,false_and,if_false,List.take_length];exact ⟨rfl,rfl,rfl,fun h=>absurd h (by simp),fun _=>rfl⟩
  ·obtain ⟨h5,h6⟩:=h3 rfl;obtain ⟨n,rfl⟩:=Int.eq_ofNat_of_zero_le h6;subst h5;rw [zj3 s rd p n hp];by_cases hn:s.length≤n
   ·rw [if_pos hn];have hc:¬ (true=true∧(n:Int) < (s.length:Int)):=by simp;omega
    have e1:(if true=true∧(n:Int) < (s.length:Int) then (n:Int).toNat else s.length)=s.length:=if_neg hc;have e2:(if true=true∧(n:Int) < (s.length:Int) then true else false)=false:=if_neg hc;rw [if_neg Bool.false_ne_true,if_neg Bool.false_ne_true,e1,e2,List.take_length];exact ⟨rfl,rfl,rfl,fun _=>⟨rfl,by dsimp only;omega⟩,fun h=>absurd h (by simp)⟩
   ·rw [if_neg hn];have hc:true=true∧(n:Int) < (s.length:Int):=⟨rfl,by omega⟩;have e1:(if true=true∧(n:Int) < (s.length:Int) then (n:Int).toNat else s.length)=n:=(if_pos hc).trans (Int.toNat_natCast n);have e2:(if true=true∧(n:Int) < (s.length:Int) then true else false)=true:=if_pos hc;rw [if_neg Bool.false_ne_true,if_neg Bool.false_ne_true,e1,e2];exact ⟨rfl,rfl,rfl,fun _=>⟨by dsimp only;omega,by dsimp only;omega⟩,fun h=>absurd h (by simp)⟩
 ·rw [zpQ hs];simp only [if_true,List.take_zero,zc7];refine ⟨rfl,rfl,rfl,fun h=>?_,fun h=>h4 h⟩;have:=h3 h;exact ⟨by dsimp only;omega,this.2⟩
theorem znR (R:RBy) (p:Nat) (s:List UInt8) (hbd:R.bnd=true→0≤R.left):R.left - s.length≤(R.write p s).2.left∧(R.write p s).2.left≤R.left∧((R.write p s).2.bnd=true→0≤(R.write p s).2.left)∧(R.write p s).2.bnd=R.bnd:=by
 unfold RBy.write RBy.cutN;dsimp only
 have hcut:∀ m:Nat,(if R.off=true then 0 else if R.bnd=true∧R.left < (m:Int) then R.left.toNat else m)≤m∧(R.bnd=true→((if R.off=true then 0 else if R.bnd=true∧R.left < (m:Int) then R.left.toNat else m:Nat):Int)≤R.left):=by
  intro m;split
  ·exact ⟨by omega,fun h=>by have:=hbd h;omega⟩
  ·split
   ·rename_i h;have:=hbd h.1;exact ⟨by omega,fun _=>by omega⟩
   ·rename_i h
    exact ⟨by omega,fun hb=>by
     have:¬ R.left < (m:Int):=fun h2=>h ⟨hb,h2⟩
     omega⟩
 have:=hcut s.length;refine ⟨by omega,by omega,fun h=>?_,rfl⟩;have:=this.2 h;omega
structure ROk (R:RBy) (k:Nat):Prop where
 len:R.data.length=64
 bnd:R.bnd=true→0≤R.left
 lo : -(k:Int)≤R.left
 hi:R.left≤9223372036854775807
theorem ROk.write {R:RBy}{k:Nat}(h:ROk R k) (p:Nat) (s:List UInt8) (hp:p+s.length≤64):ROk (R.write p s).2 (k+s.length):=by
 obtain ⟨h1,h2,h3,h4⟩:=znR R p s h.bnd;have hl:=h.lo;have hh:=h.hi;refine ⟨?_,h3,by omega,by omega⟩;unfold RBy.write;dsimp only;rw [zji (by rw [List.length_take,h.len];omega),h.len]
theorem ROk.le {R:RBy}{k m:Nat}(h:ROk R k) (hm:k≤m):ROk R m:=⟨h.len,h.bnd,by have:=h.lo;omega,h.hi⟩

section
variable {w : World} {b c : Nat} {B : BytS} {R : RBy}
theorem zmr {C:CelS}{k:Nat}(e l:Int) (hC:Blk w c 137 (zdl b C)) (hB:Blk w b 194 (zcv R)) (hA:Alike R B) (hO:BOk B) (hR:ROk R k) (hk:k≤50000000) (hN:C.num < 4294967296) :
  CallC Tryz.prog 93 #[.pointer (some ⟨c,0,none⟩),.int .i64 e,.int .i64 l] w fun v w'=>v = .int .i64 ((C.put B e l).1:Nat)∧Ext (fun d=>d=b∨d=c) w w'∧∃ R',Alike R' (C.put B e l).2.1∧ROk R' (k+18)∧Blk w' b 194 (zcv R')∧Blk w' c 137 (zdl b (C.put B e l).2.2):=by
 have hcb:¬ c=b:=Blk.ne hC hB (by decide);unfold CelS.put;refine zaa tabOk Tryz.func93 (by kernel_rfl) rfl Tryz.ntmps93 (lbO rfl) ?_;have hS:=(St.start w (fun d=>d=b∨d=c)).add (zab b _ _) hB (by simp [blk];exact hB.lt) (by simp);have hS:=hS.add (zab c _ _) hC (by simp [blk];exact hC.lt) (by simp [blk];omega);(conv=>whnf);refine hS.ld 1 rfl (o:=4) rfl ?_;cases hd:C.dead
 ·rw [if_neg Bool.false_ne_true];by_cases hr:e < 0∨e > 1073741824∨l < 0∨l > 1073741824
  ·rw [if_pos hr];(conv=>whnf);refine brD (fun h1=>?_) (fun h1=>?_)
   ·skip
    repeat' ((conv=>whnf);first|apply RetC.mk|refine nzO ?_|refine rgO ?_|refine ixO ?_|(first|apply brD|apply zad|apply brN|apply brI)<;>(intro))
    exact ⟨rfl,hS.ext,R,hA,hR.le (by omega),hS.blk 0 rfl,hS.blk 1 rfl⟩
   (conv=>whnf);refine brD (fun h2=>?_) (fun h2=>?_)
   ·skip
    repeat' ((conv=>whnf);first|apply RetC.mk|refine nzO ?_|refine rgO ?_|refine ixO ?_|(first|apply brD|apply zad|apply brN|apply brI)<;>(intro))
    exact ⟨rfl,hS.ext,R,hA,hR.le (by omega),hS.blk 0 rfl,hS.blk 1 rfl⟩
   (conv=>whnf);refine brD (fun h3=>?_) (fun h3=>?_)
   ·skip
    repeat' ((conv=>whnf);first|apply RetC.mk|refine nzO ?_|refine rgO ?_|refine ixO ?_|(first|apply brD|apply zad|apply brN|apply brI)<;>(intro))
    exact ⟨rfl,hS.ext,R,hA,hR.le (by omega),hS.blk 0 rfl,hS.blk 1 rfl⟩
   (conv=>whnf);refine brD (fun h4=>?_) (fun h4=>absurd hr (by omega));repeat' ((conv=>whnf);first|apply RetC.mk|refine nzO ?_|refine rgO ?_|refine ixO ?_|(first|apply brD|apply zad|apply brN|apply brI)<;>(intro))
   exact ⟨rfl,hS.ext,R,hA,hR.le (by omega),hS.blk 0 rfl,hS.blk 1 rfl⟩
  rw [if_neg hr];(conv=>whnf);refine brD (fun h=>absurd h (by omega)) (fun h1=>?_);(conv=>whnf);refine brD (fun h=>absurd h (by omega)) (fun h2=>?_);(conv=>whnf);refine brD (fun h=>absurd h (by omega)) (fun h3=>?_);(conv=>whnf);refine brD (fun h=>absurd h (by omega)) (fun h4=>?_);obtain ⟨e,rfl⟩:=Int.eq_ofNat_of_zero_le (show 0≤e by omega);obtain ⟨l,rfl⟩:=Int.eq_ofNat_of_zero_le (show 0≤l by omega);simp only [Int.toNat_natCast];(conv=>whnf);refine hS.ld 1 rfl (o:=2) rfl ?_;by_cases ho:(e:Int) < C.ep∨(l:Int) < C.li
  ·rw [if_pos ho];(conv=>whnf);refine brD (fun h5=>?_) (fun h5=>?_)
   ·skip
    repeat' ((conv=>whnf);first|apply RetC.mk|refine nzO ?_|refine rgO ?_|refine ixO ?_|(first|apply brD|apply zad|apply brN|apply brI)<;>(intro))
    exact ⟨rfl,hS.ext,R,hA,hR.le (by omega),hS.blk 0 rfl,hS.blk 1 rfl⟩
   (conv=>whnf);refine hS.ld 1 rfl (o:=3) rfl ?_;(conv=>whnf);refine brD (fun h6=>?_) (fun h6=>absurd ho (by omega));repeat' ((conv=>whnf);first|apply RetC.mk|refine nzO ?_|refine rgO ?_|refine ixO ?_|(first|apply brD|apply zad|apply brN|apply brI)<;>(intro))
   exact ⟨rfl,hS.ext,R,hA,hR.le (by omega),hS.blk 0 rfl,hS.blk 1 rfl⟩
  rw [if_neg ho];(conv=>whnf);refine brD (fun h=>absurd h (by omega)) (fun h5=>?_);(conv=>whnf);refine hS.ld 1 rfl (o:=3) rfl ?_;(conv=>whnf);refine brD (fun h=>absurd h (by omega)) (fun h6=>?_);(conv=>whnf);refine hS.ld 1 rfl (o:=1) rfl ?_;(conv=>whnf);refine rgO ?_;rw [show (C.num:Int)+1=((C.num+1:Nat):Int) by omega];(conv=>whnf);refine brD (fun h7=>?_) (fun h7=>?_)
  ·rw [if_pos (show C.num+1≥4294967296 by omega)];repeat' ((conv=>whnf);first|apply RetC.mk|refine nzO ?_|refine rgO ?_|refine ixO ?_|(first|apply brD|apply zad|apply brN|apply brI)<;>(intro))
   exact ⟨rfl,hS.ext,R,hA,hR.le (by omega),hS.blk 0 rfl,hS.blk 1 rfl⟩
  rw [if_neg (show ¬ C.num+1≥4294967296 by omega)];have hmod:((C.num+1:Nat):Int).tmod 2=(((C.num+1) % 2:Nat):Int):=by rw [Int.tmod_eq_emod_of_nonneg (by omega)];omega
  have hn2:(C.num+1) % 2 < 2:=Nat.mod_lt _ (by omega);have hbl:=zcV (C.num+1) e l;unfold cwrite;have h20:((C.num+1:Nat):Int).tmod 2 * 20=(((C.num+1) % 2 * 20:Nat):Int):=by rw [hmod];omega
  have h36:(C.num+1) % 2 * 20≤20:=by omega
  generalize (C.num+1) % 2 * 20=p at h20 h36;have hpp:(p:Int)+16=((p+16:Nat):Int):=by omega
  repeat' ((conv=>whnf);first|apply RetC.mk|refine nzO ?_|refine rgO ?_|refine ixO ?_|refine rgO ?_|(first|apply brD|apply zad|apply brN|apply brI)<;>(intro))
  rw [h20];(conv=>whnf);refine hS.ld 1 rfl (o:=0) rfl ?_;(conv=>whnf);refine hS.ld 0 rfl rfl ?_;rw [hA.off];cases hoff:B.off
  ·rw [if_neg Bool.false_ne_true];(conv=>whnf);refine hS.ld 1 rfl (o:=0) rfl ?_;(conv=>whnf);refine hS.ld 0 rfl rfl ?_;rw [hA.data];(conv=>whnf);refine rgO ?_;rw [hpp];obtain ⟨x,hx⟩:∃ x,B.data[p+16]?=some x:=⟨_,List.getElem?_eq_getElem (by have:=hO.len;omega)⟩;have hmk:mark B (p+16)=if x=0 then (true,B) else B.write (p+16) [0]:=by unfold mark;rw [hx]
   (conv=>whnf);refine zsz Tryz.underlying9 rfl hx ?_;(conv=>whnf);refine neC ?_;(conv=>whnf);refine zad (fun h1=>?_) (fun h1=>?_)
   ·rw [if_neg (by rintro rfl;exact h1 rfl)] at hmk;rw [hmk];have hO1:=hO.write [0] (p+16);have hA1:=zcX (p:=p+16) (s:=[UInt8.ofNat 0]) hA (by have:=hO.len;simp;omega) (by simp);have hR1:=hR.write (p+16) [UInt8.ofNat 0] (by simp;omega);(conv=>whnf)
    (refine zah tabOk mixed [] ((· = b)) [0,1,2,3,4,5,6,7,8] (by kernel_rfl) ?_;rintro w1 rfl;replace hS:=hS.drew)
    repeat' ((conv=>whnf);first|apply RetC.mk|refine nzO ?_|refine rgO ?_|refine ixO ?_|refine hS.ldF 1 rfl rfl hcb ?_|(first|apply brD|apply zad|apply brN|apply brI)<;>(intro))
    refine (zdx 0 (by omega) _).mono ?_;rintro v w2 ⟨rfl,hx1⟩;replace hS:=hS.no hx1;refine KeepC.mk hx1.of_no ?_;(conv=>whnf);rw [hpp];refine (zde (p+16) [UInt8.ofNat 0] (by first|omega|(simp;omega)) hR.len hR.bnd ⟨by have:=hR.lo;omega,hR.hi⟩ (hS.blk 0 rfl)).mono ?_;rintro v w' ⟨rfl,hx',hB'⟩;replace hS:=hS.upd 0 rfl hx' (fun c hc=>by subst hc;exact List.mem_singleton.2 rfl) (zab _ _ _) hB' (fun c hc=>.inl hc);refine KeepC.mk (hx1.of_no.trans hx') ?_;clear hx' hB' hx1;generalize RBy.write R (p+16) [UInt8.ofNat 0]=Q at hS hA1 hR1 ⊢;obtain ⟨ok0,R1⟩:=Q;rw [show ([0]:List UInt8)=[UInt8.ofNat 0] from rfl] at hO1 ⊢;generalize BytS.write B (p+16) [UInt8.ofNat 0]=Q at hA1 hO1 ⊢;obtain ⟨ok1,B1⟩:=Q;obtain ⟨he1,hA1⟩:=hA1;dsimp only at he1 hA1 hR1 hO1;subst he1;have hR1:=hR1.le (show k+[UInt8.ofNat 0].length≤k+1 by simp);cases ok0
    ·skip
     (conv=>whnf);refine hS.st 1 rfl (lbO rfl) rfl (fun w' hS=>?_);repeat' ((conv=>whnf);first|apply RetC.mk|refine nzO ?_|refine rgO ?_|refine ixO ?_|(first|apply brD|apply zad|apply brN|apply brI)<;>(intro))
     exact ⟨rfl,hS.ext,R1,hA1,hR1.le (by omega),hS.blk 0 rfl,hS.blk 1 rfl⟩
    ·rw [if_pos rfl];(conv=>whnf)
     (refine zah tabOk mixed [] ((· = b)) [0,1,2,3,4,5,6,7,8,9,10] (by kernel_rfl) ?_;rintro w1 rfl;replace hS:=hS.drew)
     repeat' ((conv=>whnf);first|apply RetC.mk|refine nzO ?_|refine rgO ?_|refine ixO ?_|refine hS.ldF 1 rfl rfl hcb ?_|(first|apply brD|apply zad|apply brN|apply brI)<;>(intro))
     refine (ziD (C.num+1) e l (by omega) (by omega) (by omega) _).mono ?_;rintro v w2 ⟨rfl,hx1⟩;replace hS:=hS.no hx1;refine KeepC.mk hx1.of_no ?_;(conv=>whnf);have hA2:=zcX (p:=p) (s:=zbs (C.num+1) e l) hA1 (by have:=hO1.len;omega) (by intro h;rw [h] at hbl;simp at hbl);have hR2:=hR1.write p (zbs (C.num+1) e l) (by omega);have hO2:=BOk.write (zbs (C.num+1) e l) p hO1;refine (zde p (zbs (C.num+1) e l) (by first|omega|(simp;omega)) hR1.len hR1.bnd ⟨by have:=hR1.lo;omega,hR1.hi⟩ (hS.blk 0 rfl)).mono ?_;rintro v w' ⟨rfl,hx',hB'⟩;replace hS:=hS.upd 0 rfl hx' (fun c hc=>by subst hc;exact List.mem_singleton.2 rfl) (zab _ _ _) hB' (fun c hc=>.inl hc);refine KeepC.mk (hx1.of_no.trans hx') ?_;clear hx' hB' hx1;rw [hbl] at hR2;generalize RBy.write R1 p (zbs (C.num+1) e l)=Q at hS hA2 hR2 ⊢;obtain ⟨ok2,R2⟩:=Q;generalize BytS.write B1 p (zbs (C.num+1) e l)=Q at hO2 hA2 ⊢;obtain ⟨ok3,B2⟩:=Q;obtain ⟨he1,hA2⟩:=hA2;dsimp only at he1 hA2 hR2 hO2;subst he1;cases ok2
     ·skip
      (conv=>whnf);refine hS.st 1 rfl (lbO rfl) rfl (fun w' hS=>?_);repeat' ((conv=>whnf);first|apply RetC.mk|refine nzO ?_|refine rgO ?_|refine ixO ?_|(first|apply brD|apply zad|apply brN|apply brI)<;>(intro))
      exact ⟨rfl,hS.ext,R2,hA2,hR2.le (by omega),hS.blk 0 rfl,hS.blk 1 rfl⟩
     ·rw [if_pos rfl];(conv=>whnf)
      (refine zah tabOk mixed [] ((· = b)) [0,1,2,3,4,5,6,7,8] (by kernel_rfl) ?_;rintro w1 rfl;replace hS:=hS.drew)
      repeat' ((conv=>whnf);first|apply RetC.mk|refine nzO ?_|refine rgO ?_|refine ixO ?_|refine hS.ldF 1 rfl rfl hcb ?_|(first|apply brD|apply zad|apply brN|apply brI)<;>(intro))
      refine (zdx 165 (by omega) _).mono ?_;rintro v w2 ⟨rfl,hx1⟩;replace hS:=hS.no hx1;refine KeepC.mk hx1.of_no ?_;(conv=>whnf);rw [hpp];have hA3:=zcX (p:=p+16) (s:=[UInt8.ofNat 165]) hA2 (by have:=hO2.len;simp;omega) (by simp);have hR3:=hR2.write (p+16) [UInt8.ofNat 165] (by simp;omega);refine (zde (p+16) [UInt8.ofNat 165] (by first|omega|(simp;omega)) hR2.len hR2.bnd ⟨by have:=hR2.lo;omega,hR2.hi⟩ (hS.blk 0 rfl)).mono ?_;rintro v w' ⟨rfl,hx',hB'⟩;replace hS:=hS.upd 0 rfl hx' (fun c hc=>by subst hc;exact List.mem_singleton.2 rfl) (zab _ _ _) hB' (fun c hc=>.inl hc);refine KeepC.mk (hx1.of_no.trans hx') ?_;clear hx' hB' hx1;generalize RBy.write R2 (p+16) [UInt8.ofNat 165]=Q at hS hA3 hR3 ⊢;obtain ⟨ok4,R3⟩:=Q;rw [show ([165]:List UInt8)=[UInt8.ofNat 165] from rfl];generalize BytS.write B2 (p+16) [UInt8.ofNat 165]=Q at hA3 ⊢;obtain ⟨ok5,B3⟩:=Q;obtain ⟨he1,hA3⟩:=hA3;dsimp only at he1 hA3 hR3;subst he1;cases ok4
      ·skip
       (conv=>whnf);refine hS.st 1 rfl (lbO rfl) rfl (fun w' hS=>?_);repeat' ((conv=>whnf);first|apply RetC.mk|refine nzO ?_|refine rgO ?_|refine ixO ?_|(first|apply brD|apply zad|apply brN|apply brI)<;>(intro))
       exact ⟨rfl,hS.ext,R3,hA3,hR3.le (by first|omega|(simp;omega)|simp),hS.blk 0 rfl,hS.blk 1 rfl⟩
      ·(conv=>whnf)
       refine hS.st 1 rfl (lbO rfl) rfl (fun w' hS=>?_);(conv=>whnf);refine hS.st 1 rfl (lbO rfl) rfl (fun w' hS=>?_);(conv=>whnf);refine hS.st 1 rfl (lbO rfl) rfl (fun w' hS=>?_);repeat' ((conv=>whnf);first|apply RetC.mk|refine nzO ?_|refine rgO ?_|refine ixO ?_|(first|apply brD|apply zad|apply brN|apply brI)<;>(intro))
       exact ⟨rfl,hS.ext,R3,hA3,hR3.le (by first|omega|(simp;omega)|simp),hS.blk 0 rfl,(hS.blk 1 rfl).to (by rw [← hd];rfl)⟩
   ·rw [if_pos (by
     have h2:x.toNat=0:=by omega
     exact UInt8.toNat_inj.1 h2)] at hmk
    rw [hmk,if_pos rfl];(conv=>whnf)
    (refine zah tabOk mixed [] ((· = b)) [0,1,2,3,4,5,6,7,8,9,10] (by kernel_rfl) ?_;rintro w1 rfl;replace hS:=hS.drew)
    repeat' ((conv=>whnf);first|apply RetC.mk|refine nzO ?_|refine rgO ?_|refine ixO ?_|refine hS.ldF 1 rfl rfl hcb ?_|(first|apply brD|apply zad|apply brN|apply brI)<;>(intro))
    refine (ziD (C.num+1) e l (by omega) (by omega) (by omega) _).mono ?_;rintro v w2 ⟨rfl,hx1⟩;replace hS:=hS.no hx1;refine KeepC.mk hx1.of_no ?_;(conv=>whnf);have hA2:=zcX (p:=p) (s:=zbs (C.num+1) e l) hA (by have:=hO.len;omega) (by intro h;rw [h] at hbl;simp at hbl);have hR2:=hR.write p (zbs (C.num+1) e l) (by omega);have hO2:=BOk.write (zbs (C.num+1) e l) p hO;refine (zde p (zbs (C.num+1) e l) (by first|omega|(simp;omega)) hR.len hR.bnd ⟨by have:=hR.lo;omega,hR.hi⟩ (hS.blk 0 rfl)).mono ?_;rintro v w' ⟨rfl,hx',hB'⟩;replace hS:=hS.upd 0 rfl hx' (fun c hc=>by subst hc;exact List.mem_singleton.2 rfl) (zab _ _ _) hB' (fun c hc=>.inl hc);refine KeepC.mk (hx1.of_no.trans hx') ?_;clear hx' hB' hx1;rw [hbl] at hR2;generalize RBy.write R p (zbs (C.num+1) e l)=Q at hS hA2 hR2 ⊢;obtain ⟨ok2,R2⟩:=Q;generalize BytS.write B p (zbs (C.num+1) e l)=Q at hO2 hA2 ⊢;obtain ⟨ok3,B2⟩:=Q;obtain ⟨he1,hA2⟩:=hA2;dsimp only at he1 hA2 hR2 hO2;subst he1;cases ok2
    ·skip
     (conv=>whnf);refine hS.st 1 rfl (lbO rfl) rfl (fun w' hS=>?_);repeat' ((conv=>whnf);first|apply RetC.mk|refine nzO ?_|refine rgO ?_|refine ixO ?_|(first|apply brD|apply zad|apply brN|apply brI)<;>(intro))
     exact ⟨rfl,hS.ext,R2,hA2,hR2.le (by omega),hS.blk 0 rfl,hS.blk 1 rfl⟩
    ·rw [if_pos rfl];(conv=>whnf)
     (refine zah tabOk mixed [] ((· = b)) [0,1,2,3,4,5,6,7,8] (by kernel_rfl) ?_;rintro w1 rfl;replace hS:=hS.drew)
     repeat' ((conv=>whnf);first|apply RetC.mk|refine nzO ?_|refine rgO ?_|refine ixO ?_|refine hS.ldF 1 rfl rfl hcb ?_|(first|apply brD|apply zad|apply brN|apply brI)<;>(intro))
     refine (zdx 165 (by omega) _).mono ?_;rintro v w2 ⟨rfl,hx1⟩;replace hS:=hS.no hx1;refine KeepC.mk hx1.of_no ?_;(conv=>whnf);rw [hpp];have hA3:=zcX (p:=p+16) (s:=[UInt8.ofNat 165]) hA2 (by have:=hO2.len;simp;omega) (by simp);have hR3:=hR2.write (p+16) [UInt8.ofNat 165] (by simp;omega);refine (zde (p+16) [UInt8.ofNat 165] (by first|omega|(simp;omega)) hR2.len hR2.bnd ⟨by have:=hR2.lo;omega,hR2.hi⟩ (hS.blk 0 rfl)).mono ?_;rintro v w' ⟨rfl,hx',hB'⟩;replace hS:=hS.upd 0 rfl hx' (fun c hc=>by subst hc;exact List.mem_singleton.2 rfl) (zab _ _ _) hB' (fun c hc=>.inl hc);refine KeepC.mk (hx1.of_no.trans hx') ?_;clear hx' hB' hx1;generalize RBy.write R2 (p+16) [UInt8.ofNat 165]=Q at hS hA3 hR3 ⊢;obtain ⟨ok4,R3⟩:=Q;rw [show ([165]:List UInt8)=[UInt8.ofNat 165] from rfl];generalize BytS.write B2 (p+16) [UInt8.ofNat 165]=Q at hA3 ⊢;obtain ⟨ok5,B3⟩:=Q;obtain ⟨he1,hA3⟩:=hA3;dsimp only at he1 hA3 hR3;subst he1;cases ok4
     ·skip
      (conv=>whnf);refine hS.st 1 rfl (lbO rfl) rfl (fun w' hS=>?_);repeat' ((conv=>whnf);first|apply RetC.mk|refine nzO ?_|refine rgO ?_|refine ixO ?_|(first|apply brD|apply zad|apply brN|apply brI)<;>(intro))
      exact ⟨rfl,hS.ext,R3,hA3,hR3.le (by first|omega|(simp;omega)|simp),hS.blk 0 rfl,hS.blk 1 rfl⟩
     ·(conv=>whnf)
      refine hS.st 1 rfl (lbO rfl) rfl (fun w' hS=>?_);(conv=>whnf);refine hS.st 1 rfl (lbO rfl) rfl (fun w' hS=>?_);(conv=>whnf);refine hS.st 1 rfl (lbO rfl) rfl (fun w' hS=>?_);repeat' ((conv=>whnf);first|apply RetC.mk|refine nzO ?_|refine rgO ?_|refine ixO ?_|(first|apply brD|apply zad|apply brN|apply brI)<;>(intro))
      exact ⟨rfl,hS.ext,R3,hA3,hR3.le (by first|omega|(simp;omega)|simp),hS.blk 0 rfl,(hS.blk 1 rfl).to (by rw [← hd];rfl)⟩
  ·rw [if_pos rfl];(conv=>whnf);refine hS.st 1 rfl (lbO rfl) rfl (fun w' hS=>?_);repeat' ((conv=>whnf);first|apply RetC.mk|refine nzO ?_|refine rgO ?_|refine ixO ?_|(first|apply brD|apply zad|apply brN|apply brI)<;>(intro))
   exact ⟨rfl,hS.ext,R,hA,hR.le (by omega),hS.blk 0 rfl,hS.blk 1 rfl⟩
 ·rw [if_pos rfl];repeat' ((conv=>whnf);first|apply RetC.mk|refine nzO ?_|refine rgO ?_|refine ixO ?_|(first|apply brD|apply zad|apply brN|apply brI)<;>(intro))
  exact ⟨rfl,hS.ext,R,hA,hR.le (by omega),hS.blk 0 rfl,hS.blk 1 rfl⟩
end
end Go.Proofs.YtogjajjdaoihdaaGreatDoor
