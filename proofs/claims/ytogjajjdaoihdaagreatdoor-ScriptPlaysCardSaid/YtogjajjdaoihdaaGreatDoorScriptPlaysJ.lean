/-
  Texts of this claim, joined: PolicyR, RefReadB, RefReadC, PktA, PktB, PktD, PktE, PktF, RefPkt, ScrA, ScrB, ScrC, ScrD, ScrE, ScrF, ScrG, ScrR.
-/
import Derived.Test.YtogjajjdaoihdaaGreatDoorScriptPlaysI

namespace Go.Proofs.YtogjajjdaoihdaaGreatDoor
set_option maxRecDepth 20000
open Go Ev

def ztJ (p:List UInt8):List (List UInt8)→Nat→Int
 | [],_=>-1
 | x::l,k=>if p=x then (k:Int) else ztJ p l (k+1)
theorem zoC {p:List UInt8}{l:List (List UInt8)}{k:Nat}{x:List UInt8}(h:l[k]?=some x):ztJ p (l.drop k) k=if p=x then (k:Int) else ztJ p (l.drop (k+1)) (k+1):=by
 obtain ⟨lt,e⟩:=List.getElem?_eq_some_iff.1 h;rw [List.drop_eq_getElem_cons lt,e];rfl
theorem zm0 (p:List UInt8):zcT p=ztJ p [zrR,znh,znf] 0:=rfl
theorem ztl {w:World}{G:List UInt8→Prop}{a:Option Addr}{n c:Nat}{xs:List (List UInt8)}(p:List UInt8) (hx:Slc w 1 zbe G a n xs) :
  CallC Tryz.prog 114 #[.slice a n c,.string (bs p)] w fun v w'=>v = .int .i64 (ztJ p xs 0)∧Ext No w w':=by
 have hm:=hx.max;have hl:=hx.len;refine zaa tabOk Tryz.func114 (by kernel_rfl) rfl Tryz.ntmps114 (lbO rfl) ?_;have hS:=St.start w No;(conv=>whnf)
 refine zaL tabOk (fun σ w' q=>∃ k:Nat,σ=[(8,.int .i64 (k:Int)),(7,.int .i64 n),(1,.string (bs p)),(0,.slice a n c)]∧q=n - k∧k≤n∧St w No w' []∧ztJ p xs 0=ztJ p (xs.drop k) k)
  (σ':=[(8,.int .i64 ((0:Nat):Int)),(7,.int .i64 n),(1,.string (bs p)),(0,.slice a n c)]) (n:=n) ⟨rfl,rfl,rfl,rfl,trivial⟩ ⟨0,rfl,rfl,Nat.zero_le _,hS,by simp⟩ ?_
 clear hS;rintro _ w1 q ⟨k,rfl,rfl,hk,hS,hi⟩;(conv=>whnf);refine brD (fun h3=>?_) (fun h3=>?_)
 ·obtain ⟨b0,o0,x,hxk,hgx,rfl,_,hc⟩:=hx.at (k:=k) (by omega);have hst:=zoC (p:=p) hxk;(conv=>whnf);refine ixO ?_;(conv=>whnf);refine hS.ldr (hc 0 _ rfl) id ?_;(conv=>whnf);refine zbt ?_;(conv=>whnf);refine brD (fun h4=>?_) (fun h4=>?_)
  ·repeat' ((conv=>whnf);first|apply RetC.mk|refine rgO ?_|refine ixO ?_|(first|apply brD|apply zad|apply brN|apply brI)<;>(intro))
   rw [hi,hst,if_pos h4];exact ⟨rfl,hS.ext⟩
  ·(conv=>whnf)
   refine rgO ?_;(conv=>whnf);refine LoopE.mk ⟨_,[(8,.int .i64 ((k+1:Nat):Int)),(7,_),(1,_),(0,_)],?_,⟨rfl,rfl,rfl,rfl,trivial⟩,⟨k+1,rfl,rfl,by omega,hS,by rw [hi,hst,if_neg h4]⟩⟩;omega
 ·repeat' ((conv=>whnf);first|apply RetC.mk|refine rgO ?_|refine ixO ?_|(first|apply brD|apply zad|apply brN|apply brI)<;>(intro))
  have:k=n:=by omega
  subst this;rw [hi,List.drop_of_length_le (by omega)];exact ⟨rfl,hS.ext⟩
theorem zn1 {w:World}(h:Protos w):Slc w 1 zbe (fun _=>True) (some ⟨13,0,none⟩) 3 [zrR,znh,znf] :=
 Slc.of_cells zfP rfl (by decide) (fun _ _=>trivial) fun j v hj=>⟨_,_,rfl,h j v hj⟩
theorem zij (l:List UInt8) (w:World) (hl:l.length≤100000) (hV:NumV w) (ht:Pow10 w) :
  CallC Tryz.prog 115 #[.string (bs l)] w fun v w'=>(∃ n k,v = .tuple #[.int .i64 n,.bool k]∧I64 n∧((k=true∧0≤n)↔0≤zbD l 5)∧(0≤zbD l 5→n=zbD l 5))∧Ext No w w':=by
 refine zaa tabOk Tryz.func115 (by kernel_rfl) rfl Tryz.ntmps115 (lbO rfl) ?_;have hS:=St.start w No;(conv=>whnf);refine (zjr l w hl hV).mono ?_;rintro v w1 ⟨⟨n,e,rfl,hn,hcase⟩,hx⟩;replace hS:=hS.no hx;rcases hcase with ⟨ha,rfl⟩ | ⟨ha,t,u,rfl⟩
 ·obtain ⟨k1,k2⟩:=zkw 5 (by omega) ha;(conv=>whnf);refine brD (fun h5=>?_) (fun h5=>?_)
  ·have h5:l.length≤5:=by
    have:=zaN l;omega
   (conv=>whnf);refine (zb9 n hn.1 hn.2 _ (ht.no hS.ext)).mono ?_;rintro v w2 ⟨rfl,hx⟩;replace hS:=hS.no hx;(conv=>whnf);refine zbt ?_;repeat' ((conv=>whnf);first|apply RetC.mk|refine rgO ?_|refine ixO ?_|(first|apply brD|apply zad|apply brN|apply brI)<;>(intro))
   refine ⟨⟨_,_,rfl,hn,?_,k2⟩,hS.ext⟩;rw [← k1,decide_eq_true_iff];exact ⟨fun h=>⟨⟨h5,h.1⟩,h.2⟩,fun h=>⟨h.1.2,h.2⟩⟩
  ·have h5:¬ l.length≤5:=by
    have:=zaN l;omega
   repeat' ((conv=>whnf);first|apply RetC.mk|refine rgO ?_|refine ixO ?_|(first|apply brD|apply zad|apply brN|apply brI)<;>(intro))
   refine ⟨⟨_,_,rfl,hn,?_,k2⟩,hS.ext⟩;rw [← k1];exact ⟨fun h=>(by cases h.1),fun h=>absurd h.1.1 h5⟩
 ·have hneg:=zeG (most:=5) (by omega) ha;repeat' ((conv=>whnf);first|apply RetC.mk|refine rgO ?_|refine ixO ?_|(first|apply brD|apply zad|apply brN|apply brI)<;>(intro))
  exact ⟨⟨_,_,rfl,hn,⟨fun h=>(by cases h.1),fun h=>absurd h (by omega)⟩,fun h=>absurd h (by omega)⟩,hS.ext⟩
theorem zg5 (l:List UInt8) (c:UInt8):∃ x y k,Lib.cut l [c]=(x,y,k)∧x.length≤l.length∧y.length≤l.length:=by
 unfold Lib.cut;split
 ·exact ⟨_,_,_,rfl,by rw [List.length_take];omega,by rw [List.length_drop];omega⟩
 ·exact ⟨_,_,_,rfl,Nat.le_refl _,by simp⟩
theorem zm1 {s a b p n x y:List UInt8}{k:Bool}{q:RuleS}(hw:zbg 32 s=[a,b,p,n]) (hc:Lib.cut n [45]=(x,y,k)) (h:zbN s=some q):(⟨decide (a=zb6),decide (b=zjA),zcT p,zbD x 5,zbD y 5⟩:RuleS)=q:=by
 unfold zbN at h;rw [hw] at h;dsimp only at h;split at h
 ·split at h
  ·rename_i x' y' hn;have hcut:=zfF hn;rw [Lib.join_one,hc] at hcut;obtain ⟨e1,e2⟩:=Prod.mk.inj hcut;obtain ⟨e2,_⟩:=Prod.mk.inj e2;subst e1 e2;split at h
   ·exact Option.some.inj h
   ·cases h
  ·cases h
 ·cases h
theorem zqM (s:List UInt8) (w:World) (hl:s.length≤100000) (hM:MaxL w) (hV:NumV w) (ht:Pow10 w) (hP:Protos w) :
  CallC Tryz.prog 65 #[.string (bs s)] w fun v w'=>(∃ r k,v = .tuple #[.agg (zal r).toArray,.bool k]∧(zbN s=if k=true then some r else none))∧Ext No w w':=by
 refine zaa tabOk Tryz.func65 (by kernel_rfl) rfl Tryz.ntmps65 (lbO rfl) ?_;have hS:=St.start w No;(conv=>whnf);refine hS.new (fun b2 w' hb2 hS=>?_);replace hS:St w No w' [blk b2 98 (zal zb8)]:=hS;(conv=>whnf);refine (zgC s 32 _ hl (hM.no hS.ext)).mono ?_;rintro v w1 ⟨⟨b,rfl,hb,hB⟩,hx⟩;replace hS:=hS.made hx (zab _ _ _) hB (by intro c hc;obtain rfl:=List.mem_singleton.1 hc;exact ⟨hb,hB.lt⟩);(conv=>whnf);refine zad (fun h4=>?_) (fun h4=>?_)
 ·have h4:(zbg 32 s).length≠4:=by omega
  (conv=>whnf);refine hS.st 0 rfl (lbO rfl) rfl (fun w' hS=>?_);replace hS:St w No w' [blk b2 98 (zal zb8),blk b 9 ((zbg 32 s).map fun l=>.string (bs l))]:=hS;(conv=>whnf);refine hS.laX 0 rfl rfl ?_;repeat' ((conv=>whnf);first|apply RetC.mk|refine rgO ?_|refine ixO ?_|(first|apply brD|apply zad|apply brN|apply brI)<;>(intro))
  exact ⟨⟨zb8,false,rfl,ziI h4⟩,hS.ext⟩
 obtain ⟨a,b4,p,n,hw⟩:=zsy (s:=s) (by omega);have hlen:=ziA 32 s;rw [hw] at hS ⊢;have hl4:([a,b4,p,n]:List (List UInt8)).length=4:=rfl;replace hS:St w No w1 [blk b2 98 (zal zb8),blk b 9 [.string (bs a),.string (bs b4),.string (bs p),.string (bs n)]]:=hS;(conv=>whnf)
 (refine zah tabOk mixed [] (No) [0,1,2,3,4,5] (by kernel_rfl) ?_;rintro w1 rfl;replace hS:=hS.drew)
 conv=>whnf
 refine ixO ?_;(conv=>whnf);refine hS.ldF 1 rfl rfl id ?_;(conv=>whnf);refine (ztl p (zn1 (hP.no hS.ext))).mono ?_;rintro v w2 ⟨rfl,hx⟩;replace hS:=hS.no hx;refine KeepC.mk hx ?_;rw [← zm0];clear hx;(conv=>whnf);refine ixO ?_;(conv=>whnf);refine hS.ld 1 rfl rfl ?_;have hjn:=zcm 32 s
 have hnl:n.length≤s.length:=by
  rw [← hjn,hw];simp only [zcu,Lib.join_one,List.length_append];omega
 obtain ⟨x,y,k,hcut,hxl,hyl⟩:=zg5 n 45;(conv=>whnf);refine (zly n 45 _ (by omega) (hM.no hS.ext)).mono ?_;rintro v w3 ⟨rfl,hx⟩;replace hS:=hS.no hx;rw [hcut];clear hx;(conv=>whnf);refine (zij x _ (by omega) (hV.no hS.ext) (ht.no hS.ext)).mono ?_;rintro v w4 ⟨⟨n1,k1,rfl,i1,c1,e1⟩,hx⟩;replace hS:=hS.no hx;clear hx;(conv=>whnf);refine (zij y _ (by omega) (hV.no hS.ext) (ht.no hS.ext)).mono ?_;rintro v w5 ⟨⟨n2,k2,rfl,i2,c2,e2⟩,hx⟩;replace hS:=hS.no hx;clear hx;(conv=>whnf);refine brD (fun h1=>?_) (fun h1=>?_)
 ·skip
  (conv=>whnf);refine hS.st 0 rfl (lbO rfl) rfl (fun w' hS=>?_);replace hS:St w No w' [blk b2 98 (zal zb8),blk b 9 [.string (bs a),.string (bs b4),.string (bs p),.string (bs n)]]:=hS;(conv=>whnf);refine hS.laX 0 rfl rfl ?_;repeat' ((conv=>whnf);first|apply RetC.mk|refine rgO ?_|refine ixO ?_|(first|apply brD|apply zad|apply brN|apply brI)<;>(intro))
  exact ⟨⟨zb8,false,rfl,zcs hw hcut (.inl h1)⟩,hS.ext⟩
 cases k1 with
 | false =>
  have h2:zbD x 5 < 0:=Int.not_le.1 fun h=>(by cases (c1.2 h).1)
  (conv=>whnf);refine hS.st 0 rfl (lbO rfl) rfl (fun w' hS=>?_);replace hS:St w No w' [blk b2 98 (zal zb8),blk b 9 [.string (bs a),.string (bs b4),.string (bs p),.string (bs n)]]:=hS;(conv=>whnf);refine hS.laX 0 rfl rfl ?_;repeat' ((conv=>whnf);first|apply RetC.mk|refine rgO ?_|refine ixO ?_|(first|apply brD|apply zad|apply brN|apply brI)<;>(intro))
  exact ⟨⟨zb8,false,rfl,zcs hw hcut (.inr (.inl h2))⟩,hS.ext⟩
 | true =>
 cases k2 with
 | false =>
  have h2:zbD y 5 < 0:=Int.not_le.1 fun h=>(by cases (c2.2 h).1)
  (conv=>whnf);refine hS.st 0 rfl (lbO rfl) rfl (fun w' hS=>?_);replace hS:St w No w' [blk b2 98 (zal zb8),blk b 9 [.string (bs a),.string (bs b4),.string (bs p),.string (bs n)]]:=hS;(conv=>whnf);refine hS.laX 0 rfl rfl ?_;repeat' ((conv=>whnf);first|apply RetC.mk|refine rgO ?_|refine ixO ?_|(first|apply brD|apply zad|apply brN|apply brI)<;>(intro))
  exact ⟨⟨zb8,false,rfl,zcs hw hcut (.inr (.inr h2))⟩,hS.ext⟩
 | true =>
 conv=>whnf
 refine brD (fun h2=>?_) (fun h2=>?_)
 ·have h3:zbD x 5 < 0:=Int.not_le.1 fun h=>absurd (c1.2 h).2 (by omega)
  (conv=>whnf);refine hS.st 0 rfl (lbO rfl) rfl (fun w' hS=>?_);replace hS:St w No w' [blk b2 98 (zal zb8),blk b 9 [.string (bs a),.string (bs b4),.string (bs p),.string (bs n)]]:=hS;(conv=>whnf);refine hS.laX 0 rfl rfl ?_;repeat' ((conv=>whnf);first|apply RetC.mk|refine rgO ?_|refine ixO ?_|(first|apply brD|apply zad|apply brN|apply brI)<;>(intro))
  exact ⟨⟨zb8,false,rfl,zcs hw hcut (.inr (.inl h3))⟩,hS.ext⟩
 conv=>whnf
 refine brD (fun h3=>?_) (fun h3=>?_)
 ·have h4:zbD y 5 < 0:=Int.not_le.1 fun h=>absurd (c2.2 h).2 (by omega)
  (conv=>whnf);refine hS.st 0 rfl (lbO rfl) rfl (fun w' hS=>?_);replace hS:St w No w' [blk b2 98 (zal zb8),blk b 9 [.string (bs a),.string (bs b4),.string (bs p),.string (bs n)]]:=hS;(conv=>whnf);refine hS.laX 0 rfl rfl ?_;repeat' ((conv=>whnf);first|apply RetC.mk|refine rgO ?_|refine ixO ?_|(first|apply brD|apply zad|apply brN|apply brI)<;>(intro))
  exact ⟨⟨zb8,false,rfl,zcs hw hcut (.inr (.inr h4))⟩,hS.ext⟩
 have g1:0≤zbD x 5:=c1.1 ⟨rfl,by omega⟩;have g2:0≤zbD y 5:=c2.1 ⟨rfl,by omega⟩;obtain rfl:=e1 g1;obtain rfl:=e2 g2;have hiff:=zjH hw hcut (by omega) g1 g2;generalize hr:(⟨decide (a=zb6),decide (b4=zjA),zcT p,zbD x 5,zbD y 5⟩:RuleS)=r at hiff;have hp2:=(zmH (p:=p) (by omega)).2;(conv=>whnf)
 (refine zah tabOk mixed [] ((·≠b)) [0,1,2,3,4,5,6,7,8,9,10,11,12,13] (by kernel_rfl) ?_;rintro w1 rfl;replace hS:=hS.drew)
 have hK:=hS.ref (·≠b);(conv=>whnf);refine ixO ?_;(conv=>whnf);refine hS.ldF 1 rfl rfl (fun h=>h rfl) ?_;(conv=>whnf);refine zbt ?_;(conv=>whnf);refine ixO ?_;(conv=>whnf);refine hS.ldF 1 rfl rfl (fun h=>h rfl) ?_;(conv=>whnf);refine zbt ?_;(conv=>whnf);refine hS.newK hK (fun b13 w' hK hS=>KeepC.mk hK ?_);(conv=>whnf);refine hS.stK hK 2 rfl (lbO rfl) rfl (hS.ne 2 1 rfl rfl (by decide)) (fun w' hK hS=>KeepC.mk hK ?_)
 replace hS:St w No w' [blk b2 98 (zal zb8),blk b 9 [.string (bs a),.string (bs b4),.string (bs p),.string (bs n)],blk b13 98 (zal r)]:=by
  rw [← hr];exact hS
 clear hK;(conv=>whnf)
 (refine zah tabOk mixed [] ((· = b2)) [0,1,3,2,4,5,6] (by kernel_rfl) ?_;rintro w1 rfl;replace hS:=hS.drew)
 have hK:=hS.ref (· = b2);(conv=>whnf);refine hS.laXF 2 rfl rfl (hS.ne 2 0 rfl rfl (by decide)) ?_;(conv=>whnf);refine hS.laXF 2 rfl rfl (hS.ne 2 0 rfl rfl (by decide)) ?_
 have hnum:zui r∧0≤r.proto∧r.proto≤2:=by
  rw [← hr];exact ⟨⟨i1,i2⟩,by dsimp only;omega,hp2⟩
 conv=>whnf
 refine (zsM r hnum.1 hnum.2 _ (ht.no hS.ext) (hP.no hS.ext)).mono ?_;rintro v w6 ⟨rfl,hx⟩;replace hS:=hS.no hx;replace hK:=hK.trans hx.of_no;refine KeepC.mk hK ?_;clear hx;(conv=>whnf);refine zbt ?_;(conv=>whnf);refine hS.stK hK 0 rfl (lbO rfl) rfl rfl (fun w' hK hS=>KeepC.mk hK ?_);replace hS:St w No w' [blk b2 98 (zal r),blk b 9 [.string (bs a),.string (bs b4),.string (bs p),.string (bs n)],blk b13 98 (zal r)]:=hS;(conv=>whnf);refine hS.laX 0 rfl rfl ?_;repeat' ((conv=>whnf);first|apply RetC.mk|refine rgO ?_|refine ixO ?_|(first|apply brD|apply zad|apply brN|apply brI)<;>(intro))
 refine ⟨⟨r,_,rfl,?_⟩,hS.ext⟩;by_cases h:r.line=s
 ·rw [if_pos (decide_eq_true h),hiff.1 h]
 ·rw [if_neg (fun e=>h (of_decide_eq_true e))];cases ho:zbN s with
  | none=>rfl
  | some q =>
   exfalso;obtain rfl:=zm1 hw hcut ho;exact h (hiff.2 (by rw [ho,hr]))
theorem zdT {w sep:List UInt8}:∀ (ws:List (List UInt8)),w∈ws→w.length≤(Lib.join ws sep).length
 | [],h=>by cases h
 | [x],h=>by
  obtain rfl:=List.mem_singleton.1 h;rw [Lib.join_one];exact Nat.le_refl _
 | x::y::r,h=>by
  rw [zcu,List.length_append,List.length_append];rcases List.mem_cons.1 h with rfl|h
  ·omega
  ·have:=zdT (w:=w) (sep:=sep) (y::r) h;omega
theorem zea {c:UInt8}{l w:List UInt8}(h:w∈zbg c l):w.length≤l.length:=by
 have:=zdT (sep:=[c]) _ h
 rwa [zcm] at this
theorem ziK {ts:List (List UInt8)}{k:Nat}{t:List UInt8}(h:ts[k]?=some t):zbb (ts.drop k) k=match zbN t with
  | some r=>(r::(zbb (ts.drop (k+1)) (k+1)).1,(zbb (ts.drop (k+1)) (k+1)).2)
  | none=>([],some k):=by
 obtain ⟨lt,e⟩:=List.getElem?_eq_some_iff.1 h;rw [List.drop_eq_getElem_cons lt,e];rfl
theorem zoH (s:List UInt8):(zeP s).length≤s.length:=by
 unfold zeP;split
 ·rw [List.length_dropLast];omega
 ·exact Nat.le_refl _
theorem zdg (w:World):(zaf 98 5 zal (.slice none 0 0) []).holds w:=zcy _ _ _
theorem zoZ {E:Nat→Addr}{q:Nat}(s:List UInt8) (w:World) (hl:s.length≤100000) (hM:MaxL w) (hV:NumV w) (ht:Pow10 w) (hP:Protos w) (hE:Errs w E q [1,2]) :
  CallC Tryz.prog 25 #[.string (bs s)] w fun v w'=>(∃ a c e,v = .tuple #[.slice a (za4 s).1.length c,e]∧FaultV E w w' e (za4 s).2.1 (za4 s).2.2∧(zaf 98 5 zal (.slice a (za4 s).1.length c) (za4 s).1).holds w'∧zc0 w w' (.slice a (za4 s).1.length c))∧Ext No w w':=by
 have hsz:=zaN s;refine zaa tabOk Tryz.func25 (by kernel_rfl) rfl Tryz.ntmps25 (lbO rfl) ?_;have hS:=St.start w No;unfold za4;(conv=>whnf);refine brD (fun h1=>?_) (fun h1=>?_)
 ·rw [if_pos (by omega)];repeat' ((conv=>whnf);first|apply RetC.mk|refine rgO ?_|refine ixO ?_|(refine zah tabOk mixed [] (No) [0,1,2] (by kernel_rfl) ?_;rintro w1 rfl;replace hS:=hS.drew)|refine hS.ldr (hE.at_ 2 rfl) id ?_|refine hS.ldrF (hE.at_ 2 rfl) id id ?_|(first|apply brD|apply zad|apply brN|apply brI)<;>(intro))
  exact ⟨⟨none,0,_,rfl,.inl ⟨rfl,rfl⟩,zdg _,fun g hg=>by cases hg⟩,hS.ext⟩
 rw [if_neg (by omega)];(conv=>whnf);refine zbt ?_;(conv=>whnf);refine brD (fun h2=>?_) (fun h2=>?_)
 ·rw [if_pos h2];repeat' ((conv=>whnf);first|apply RetC.mk|refine rgO ?_|refine ixO ?_|(first|apply brD|apply zad|apply brN|apply brI)<;>(intro))
  exact ⟨⟨none,0,_,rfl,.inl ⟨rfl,rfl⟩,zdg _,fun g hg=>by cases hg⟩,hS.ext⟩
 rw [if_neg h2];have htl:=zoH s;(conv=>whnf);refine (ztO s _ hl).mono ?_;rintro v w1 ⟨rfl,hx⟩;replace hS:=hS.no hx;clear hx;(conv=>whnf);refine (zgC (zeP s) 10 _ (by omega) (hM.no hS.ext)).mono ?_;rintro v w2 ⟨⟨b,rfl,hb,hB⟩,hx⟩;replace hS:=hS.made hx (zab _ _ _) hB (by intro c hc;obtain rfl:=List.mem_singleton.1 hc;exact ⟨hb,hB.lt⟩);clear hx hB hb;have hcl:=ziA 10 (zeP s)
 have hmem:∀ t∈zbg 10 (zeP s),t.length≤100000:=fun t h=>by
  have:=zea h;omega
 generalize hts:zbg 10 (zeP s)=ts at hS hcl hmem ⊢;obtain ⟨n,hn⟩:∃ n,n=ts.length:=⟨_,rfl⟩;rw [← hn];have hS:=hS.add (zaj (e:=98) (enc:=zal) (sz:=5) (v:=.slice none 0 0) (xs:=[])) (zdg _) (by simp [zaf,own,Value.ownBlock]) (by simp [zaf,own,Value.ownBlock]);(conv=>whnf)
 refine zaL tabOk (fun σ w' q=>∃ (k:Nat) (a:Option Addr) (c:Nat) (rs:List RuleS),σ=[(20,.int .i64 (k:Int)),(19,.int .i64 (n:Int)),(18,.slice (some ⟨b,0,none⟩) n n),(4,.slice a k c)]∧q=n - k∧k≤n∧rs.length=k∧zbb ts 0=(rs++(zbb (ts.drop k) k).1,(zbb (ts.drop k) k).2)∧St w No w' [blk b 9 (ts.map fun l=>.string (bs l)),zaf 98 5 zal (.slice a k c) rs])
  (σ':=[(20,.int .i64 ((0:Nat):Int)),(19,.int .i64 (n:Int)),(18,.slice (some ⟨b,0,none⟩) n n),(4,.slice none 0 0)]) (n:=n) ⟨rfl,rfl,rfl,rfl,trivial⟩ ⟨0,none,0,[],rfl,rfl,Nat.zero_le _,rfl,rfl,hS⟩ ?_
 clear hS;rintro _ w1 q ⟨k,a,c,rs,rfl,rfl,hk,hrs,hi,hS⟩;(conv=>whnf);refine brD (fun h3=>?_) (fun h3=>?_)
 ·have hkn:k < ts.length:=by omega
  have hat:=List.getElem?_eq_getElem hkn;generalize ts[k]=t at hat;have hst:=ziK hat;have htl:=hmem t (List.mem_of_getElem? hat)
  have hcell:(ts.map fun l=>Value.string (bs l))[0+k * 1]?=some (.string (bs t)):=by
   rw [Nat.zero_add,Nat.mul_one,List.getElem?_map,hat];rfl
  (conv=>whnf);refine ixO ?_;(conv=>whnf);refine hS.ld 0 rfl hcell ?_;(conv=>whnf);refine (zqM t _ htl (hM.no hS.ext) (hV.no hS.ext) (ht.no hS.ext) (hP.no hS.ext)).mono ?_;rintro v w3 ⟨⟨r,kk,rfl,hr⟩,hx⟩;replace hS:=hS.no hx;clear hx;(conv=>whnf);refine hS.new (fun b7 w' hb7 hS=>?_);(conv=>whnf);refine hS.st 2 rfl (lbO rfl) rfl (fun w' hS=>?_);replace hS:St w No w' [blk b 9 (ts.map fun l=>.string (bs l)),zaf 98 5 zal (.slice a k c) rs,blk b7 98 (zal r)]:=hS;cases kk with
  | false =>
   rw [if_neg (by simp)] at hr;rw [hr] at hst;have e1:(zbb ts 0).2=some k:=by rw [hi,hst]
   rw [e1];(conv=>whnf)
   (refine zah tabOk mixed [] (No) [0,1,2,5,3,4,6] (by kernel_rfl) ?_;rintro w1 rfl;replace hS:=hS.drew)
   (conv=>whnf);refine hS.ldrF (hE.at_ 1 rfl) id id ?_;(conv=>whnf);refine hS.newK (hS.ref No) (fun f w' hK hS=>KeepC.mk hK ?_);have hf:=hS.fresh 3 rfl;repeat' ((conv=>whnf);first|apply RetC.mk|refine rgO ?_|refine ixO ?_|(first|apply brD|apply zad|apply brN|apply brI)<;>(intro))
   exact ⟨⟨none,0,_,rfl,.inr ⟨by dsimp only;omega,by dsimp only;omega,f,rfl,hf,hS.blk 3 rfl⟩,zdg _,fun g hg=>by cases hg⟩,hS.ext⟩
  | true =>
   rw [if_pos rfl] at hr;rw [hr] at hst;dsimp only at hst;(conv=>whnf);refine hS.laX 2 rfl rfl ?_;(conv=>whnf);refine hS.lit (cs:=zal r) Tryz.underlying28 (sz:=5) (by kernel_rfl) (z:=.agg (zal zb8).toArray) (by kernel_rfl) rfl rfl (by rfl) (fun bl w' hbl hS=>?_);have hx:Slc w' 5 zal (fun _=>True) (some ⟨bl,0,none⟩) 1 [r]:=Slc.of_blk zeQ (hS.blk 3 rfl) rfl (by decide) (fun _ _=>trivial) rfl;(conv=>whnf);refine hS.appS zeQ 1 Tryz.underlying28 (bytes:=32) (by kernel_rfl) (z:=.agg (zal zb8).toArray) (by kernel_rfl) rfl rfl hx (by unfold maxLen;omega) (by omega) (fun a2 c2 w' hS=>?_);rw [hrs] at hS ⊢;replace hS:St w No w' [blk b 9 (ts.map fun l=>.string (bs l)),zaf 98 5 zal (.slice a2 (k+1) c2) (rs++[r]),blk b7 98 (zal r),blk bl 98 (zal r)]:=hS;(conv=>whnf);refine rgO ?_;(conv=>whnf);refine LoopE.mk ⟨_,[(20,.int .i64 ((k+1:Nat):Int)),(19,_),(18,_),(4,_)],?_,⟨rfl,rfl,rfl,rfl,trivial⟩,⟨k+1,a2,c2,rs++[r],rfl,rfl,by omega,by rw [List.length_append,hrs];rfl,by rw [hi,hst];simp,hS.keep 2⟩⟩;omega
 ·obtain rfl:k=n:=by omega
  rw [List.drop_of_length_le (by omega)] at hi
  have e1:zbb ts 0=(rs,none):=by
   rw [hi];simp [zbb]
  rw [e1];dsimp only;have hx:=zap (G:=fun _=>True) zeQ (hS.get 1 rfl) fun _ _=>trivial
  (conv=>whnf);refine (zff hx ((hE.sub rfl).ext hS.ext fun _ h=>h.elim)).mono ?_;rintro v w3 ⟨hf,hx'⟩;have hle:=hS.ext.size;replace hS:=hS.no hx';have hcd:=zh1 rs;generalize za2 rs=F at hf hcd ⊢;obtain ⟨fc,fa⟩:=F;dsimp only at hf hcd ⊢;cases fc with
  | succ j =>
   rw [if_pos (by omega)];obtain ⟨t,u,rfl⟩:=hf.ne;repeat' ((conv=>whnf);first|apply RetC.mk|refine rgO ?_|refine ixO ?_|(first|apply brD|apply zad|apply brN|apply brI)<;>(intro))
   exact ⟨⟨none,0,_,rfl,hf.older hle,zdg _,fun g hg=>by cases hg⟩,hS.ext⟩
  | zero =>
   rw [if_neg (by omega)]
   obtain rfl:v = .nilIface:=by
    rcases hf with ⟨_,h⟩ | ⟨_,h,_⟩
    ·exact h
    ·omega
   repeat' ((conv=>whnf);first|apply RetC.mk|refine rgO ?_|refine ixO ?_|(first|apply brD|apply zad|apply brN|apply brI)<;>(intro))
   rw [← hrs];exact ⟨⟨a,c,_,rfl,.inl ⟨rfl,rfl⟩,by rw [hrs];exact hS.get 1 rfl,by rw [hrs];exact hS.freshAt 1 rfl⟩,hS.ext⟩
section
variable {P : Program} {k : Value → Prop} {t : TypeId}
end
theorem zkd {w:World}{a:Option Addr}{n c:Nat}{xs:List (List UInt8)}(h:(zaf 9 1 zbe (.slice a n c) xs).holds w) (hn:xs≠[]):∃ b,a=some ⟨b,0,none⟩:=by
 obtain ⟨h1,⟨h2,h3⟩ | ⟨g,cap,cur,h2,_⟩⟩:=h
 ·exact absurd (List.eq_nil_of_length_eq_zero h3) hn
 ·cases h2;exact ⟨g,rfl⟩
theorem Ev.index_run1 {P:Program}{t e:TypeId}{l:List Value}{k:Nat}{x:Value}{i:Int}(hu:P.underlying t=some (.array l.length e)) (hi:(P.info? e).isSome=true) (hd:∃ d,P.underlying e=some d) (hc:P.cellsOf e=1) (hg:zfN P e=false) (hx:l[k]?=some x) (hk:i=(k:Int)) (w:World) :
  (Instr.index t (.agg l.toArray) (.int .i64 i)).run P w = .ok x w:=by
 subst hk;have hlt:=(List.getElem?_eq_some_iff.1 hx).1;have h1:=zaQ hi w;have h2:=zeX (P:=P) (t:=e) (cs:=l) (off:=k) hd hx hg w;rw [hc] at h1;simp [Instr.index,underlying,hu,asIntOf,asAgg,h1,h2,hlt]
theorem zmQ {w:World}{a:Option Addr}{n c:Nat}{xs:List (List UInt8)}(h:(zaf 9 1 zbe (.slice a n c) xs).holds w):n≤c:=by
 obtain ⟨h1,⟨h2,h3⟩ | ⟨g,cap,cur,h2,h3,h4,h5,h6,h7,h8⟩⟩:=h
 ·cases h2;exact Nat.le_refl _
 ·cases h2;assumption
def NamesV (w:World):Prop:=CellsAt w 11 0 (fnames.map fun l=>.string (bs l))
theorem NamesV.no {w w':World}(h:NamesV w) (hx:Ext No w w'):NamesV w':=hx.cells h id
theorem names_of {L : List (String × DataW Unit)} {W : World} (hl : laidMetH Tryz.prog L W) (hm : ("twinrampart/packet.names", .agg (fnames.map fun z => .lit (.string z))) ∈ L) : NamesV W := by
 obtain ⟨ps,⟨g',t',cs,fuel,p,q,hg',ht',hvar,hd,_,_⟩,_⟩:=zfl hl hm rfl
 have hg : Tryz.prog.globalNamed "twinrampart/packet.names" = some 11 := by kernel_rfl
 have hty:(Tryz.prog.globals[11]?).map (·.type)=some 188:=by kernel_rfl
 obtain rfl:=Option.some.inj (hg.symm.trans hg');obtain rfl:=Option.some.inj (hty.symm.trans ht');have hc:=zgb Tryz.underlying188 Tryz.underlying9 (by kernel_rfl) (by kernel_rfl) hd;intro i v hv;have:=World.var?_cell hg hvar i;rw [Nat.zero_add,this,← Array.getElem?_toList,hc];exact hv
theorem zrO:∀ n,n < 16→∀ i,i < 4→(zob ((n / 2 ^ i:Nat):Int) 1 == 1)=zuk (n:Nat) i:=by decide +kernel
theorem zkC (n:Nat) (hn:n < 16) (w:World) (hN:NamesV w):CallC Tryz.prog 42 #[.int .i64 (n:Int)] w fun v w'=>v = .string (bs (zcS n))∧Ext No w w':=by
 refine zaa tabOk Tryz.func42 (by kernel_rfl) rfl Tryz.ntmps42 (lbO rfl) ?_;have hS:=St.start w No;have hS:=hS.add (zaj (e:=9) (enc:=zbe) (sz:=1) (v:=.slice none 0 0) (xs:=[])) (zcy _ _ _) (by simp [zaf,own,Value.ownBlock]) (by simp [zaf,own,Value.ownBlock]);(conv=>whnf);refine hS.lar (l:=fnames.map fun l=>.string (bs l)) rfl hN id ?_;(conv=>whnf)
 refine zaL tabOk (fun σ w' q=>∃ (k:Nat) (a:Option Addr) (m c:Nat),σ=[(7,.int .i64 (k:Int)),(6,.agg (fnames.map fun l=>.string (bs l)).toArray),(3,.slice a m c),(0,.int .i64 (n:Int))]∧q=4 - k∧k≤4∧(za7 n k).length=m∧(m=0→a=none)∧St w No w' [zaf 9 1 zbe (.slice a m c) (za7 n k)])
  (σ':=[(7,.int .i64 ((0:Nat):Int)),(6,.agg (fnames.map fun l=>.string (bs l)).toArray),(3,.slice none 0 0),(0,.int .i64 (n:Int))]) (n:=4) ⟨rfl,rfl,rfl,rfl,trivial⟩ ⟨0,none,0,0,rfl,rfl,Nat.zero_le _,rfl,fun _=>rfl,hS⟩ ?_
 clear hS;rintro _ w1 q ⟨k,a,m,c,rfl,rfl,hk,hm,ha,hS⟩;have hm4:=ziq n k;(conv=>whnf);refine brD (fun h3=>?_) (fun h3=>?_)
 ·have hk4:k < 4:=by omega
  have hst:=zgS n k
  have hat:(fnames.map fun l=>Value.string (bs l))[k]?=some (.string (bs (fnames.getD k []))):=by
   rw [List.getElem?_map,List.getD_eq_getElem?_getD,List.getElem?_eq_getElem (show k < fnames.length from hk4)];rfl
  (conv=>whnf);refine PureC.of (index_run1 (l:=fnames.map fun l=>.string (bs l)) (k:=k) Tryz.underlying188 (by kernel_rfl) ⟨_,Tryz.underlying9⟩ (by kernel_rfl) (by kernel_rfl) hat rfl) ?_;(conv=>whnf);refine zvb (n:=k) rfl (by show k≤64;omega) ?_;have hb:=zrO n hn k hk4;(conv=>whnf);rw [hb];refine brI (fun h4=>?_) (fun h4=>?_)
  ·rw [if_pos h4] at hst;(conv=>whnf);refine hS.lit (cs:=zbe (fnames.getD k [])) Tryz.underlying22 (sz:=1) (by kernel_rfl) (z:=.string (bs [])) (by kernel_rfl) rfl rfl (by rfl) (fun bl w' hbl hS=>?_);have hx:Slc w' 1 zbe (fun _=>True) (some ⟨bl,0,none⟩) 1 [fnames.getD k []]:=Slc.of_blk zfP (hS.blk 1 rfl) rfl (by decide) (fun _ _=>trivial) rfl;(conv=>whnf);refine hS.appS zfP 0 Tryz.underlying22 (bytes:=16) (by kernel_rfl) (z:=.string (bs [])) (by kernel_rfl) rfl rfl hx (by unfold maxLen;omega) (by omega) (fun a2 c2 w' hS=>?_);rw [hm] at hS ⊢;replace hS:St w No w' [zaf 9 1 zbe (.slice a2 (m+1) c2) (za7 n k++[fnames.getD k []]),blk bl 9 (zbe (fnames.getD k []))]:=hS;replace hS:=hS.keep 1;rw [← hst] at hS;(conv=>whnf);refine rgO ?_;(conv=>whnf);refine LoopE.mk ⟨_,[(7,.int .i64 ((k+1:Nat):Int)),(6,_),(3,_),(0,_)],?_,⟨rfl,rfl,rfl,rfl,trivial⟩,⟨k+1,a2,m+1,c2,rfl,rfl,by omega,by rw [hst,List.length_append,hm];rfl,fun h=>absurd h (by omega),hS⟩⟩;omega
  ·rw [if_neg (by rw [h4];decide),List.append_nil] at hst;(conv=>whnf);refine rgO ?_;(conv=>whnf);refine LoopE.mk ⟨_,[(7,.int .i64 ((k+1:Nat):Int)),(6,_),(3,_),(0,_)],?_,⟨rfl,rfl,rfl,rfl,trivial⟩,⟨k+1,a,m,c,rfl,rfl,by omega,by rw [hst,hm],ha,by rw [hst];exact hS⟩⟩;omega
 ·obtain rfl:k=4:=by omega
  have hj:=zft n (Nat.le_refl 4);by_cases hz:za7 n 4=[]
  ·have hm0:m=0:=by rw [← hm,hz];rfl
   obtain rfl:=ha hm0;repeat' ((conv=>whnf);first|apply RetC.mk|refine rgO ?_|refine ixO ?_|(first|apply brD|apply zad|apply brN|apply brI)<;>(intro))
   unfold zcS;rw [if_pos hz];exact ⟨rfl,hS.ext⟩
  ·obtain ⟨b,rfl⟩:=zkd (hS.get 0 rfl) hz
   have hpos:0 < m:=by
    rw [← hm];exact List.length_pos_iff.2 hz
   have hcap:=zmQ (hS.get 0 rfl)
   have hcells:CellsAt w1 b 0 ((za7 n 4).map fun l=>.string (bs l)):=by
    have:=zgY zfP (hS.get 0 rfl)
    rwa [ze0] at this
   (conv=>whnf);refine (zlg (za7 n 4) [43] _ hm hcells hpos hcap (by omega) (by omega)).mono ?_;rintro v w2 ⟨rfl,hx⟩;replace hS:=hS.no hx;repeat' ((conv=>whnf);first|apply RetC.mk|refine rgO ?_|refine ixO ?_|(first|apply brD|apply zad|apply brN|apply brI)<;>(intro))
   unfold zcS;rw [if_neg hz];exact ⟨rfl,hS.ext⟩
theorem zdh (a p:Int) (h1:I64 a) (h2:I64 p) (w:World) (ht:Pow10 w):CallC Tryz.prog 86 #[.agg #[.int .i64 a,.int .i64 p]] w fun v w'=>v = .string (bs (zeD a p))∧Ext No w w':=by
 have e1:=Lib.itoa_length_le a h1.1 h1.2;have e2:=Lib.itoa_length_le p h2.1 h2.2;refine zaa tabOk Tryz.func86 (by kernel_rfl) rfl Tryz.ntmps86 (lbO rfl) ?_;have hS:=St.start w No;(conv=>whnf);refine hS.new (fun b w' hb hS=>?_);replace hS:St w No w' [blk b 39 [.int .i64 a,.int .i64 p]]:=hS;(conv=>whnf)
 (refine zah tabOk mixed [] (No) [0,1,4,5,2,3,6,7,8] (by kernel_rfl) ?_;rintro w1 rfl;replace hS:=hS.drew)
 have hK:=hS.ref No;(conv=>whnf);refine hS.ldF 0 rfl rfl id ?_;(conv=>whnf);refine hS.ldF 0 rfl rfl id ?_;(conv=>whnf);refine (zb9 a h1.1 h1.2 _ (ht.no hS.ext)).mono ?_;rintro v w2 ⟨rfl,hx⟩;replace hS:=hS.no hx;replace hK:=hK.trans hx;refine KeepC.mk hK ?_;(conv=>whnf);refine zbp (b:=[58]) (by simp;omega) ?_;(conv=>whnf);refine (zb9 p h2.1 h2.2 _ (ht.no hS.ext)).mono ?_;rintro v w3 ⟨rfl,hx⟩;replace hS:=hS.no hx;replace hK:=hK.trans hx;refine KeepC.mk hK ?_;(conv=>whnf);refine zbp (by simp;omega) ?_;repeat' ((conv=>whnf);first|apply RetC.mk|refine rgO ?_|refine ixO ?_|(first|apply brD|apply zad|apply brN|apply brI)<;>(intro))
 exact ⟨rfl,hS.ext⟩
theorem zeU {E:Nat→Addr}{q:Nat}(p:PktS) (w:World) (hE:Errs w E q [2,3]) (ht:Pow10 w) (hN:NamesV w) :
  CallC Tryz.prog 43 #[.agg (zao p).toArray] w fun v w'=>v = .tuple #[.string (bs (if p.err=0 then p.text else [])),zc9 E p.err]∧Ext No w w':=by
 refine zaa tabOk Tryz.func43 (by kernel_rfl) rfl Tryz.ntmps43 (lbO rfl) ?_;have hS:=St.start w No;(conv=>whnf);refine hS.new (fun b w' hb hS=>?_);replace hS:St w No w' [blk b 41 (zao p)]:=hS;(conv=>whnf);refine hS.laX 0 rfl rfl ?_;(conv=>whnf);refine (zfk p _ (hE.ext hS.ext fun _ h=>h.elim)).mono ?_;rintro v w2 ⟨rfl,hx⟩;replace hS:=hS.no hx;clear hx;cases hpe:p.err with
 | succ j =>
  rw [if_neg (by omega)];repeat' ((conv=>whnf);first|apply RetC.mk|refine rgO ?_|refine ixO ?_|(first|apply brD|apply zad|apply brN|apply brI)<;>(intro))
  exact ⟨rfl,hS.ext⟩
 | zero =>
  rw [if_pos rfl];obtain ⟨f1,f2,f3,f4,f5⟩:=zdd hpe;have g2:=zci f2;have g3:=zci f3;obtain ⟨pr,sa,sp,da,dp,fl⟩:=p;dsimp only at f1 f4 f5 g2 g3;have i1:I64 sa:=⟨by omega,by omega⟩;have i2:I64 sp:=⟨by omega,by omega⟩;have i3:I64 da:=⟨by omega,by omega⟩;have i4:I64 dp:=⟨by omega,by omega⟩;have l1:=zfj sa sp i1 i2;have l2:=zfj da dp i3 i4;unfold PktS.text;(conv=>whnf);refine hS.ld 0 rfl rfl ?_;(conv=>whnf);refine brD (fun h1=>?_) (fun h1=>?_)
  ·rw [if_pos (by exact h1)];(conv=>whnf)
   (refine zah tabOk mixed [] (No) [0,1,5,6,2,3,4,7,8,9,10] (by kernel_rfl) ?_;rintro w1 rfl;replace hS:=hS.drew)
   have hK:=hS.ref No;(conv=>whnf);refine hS.laXF 0 rfl rfl id ?_;(conv=>whnf);refine hS.laXF 0 rfl rfl id ?_;(conv=>whnf);refine (zdh sa sp i1 i2 _ (ht.no hS.ext)).mono ?_;rintro v w3 ⟨rfl,hx⟩;replace hS:=hS.no hx;replace hK:=hK.trans hx;refine KeepC.mk hK ?_;clear hx;(conv=>whnf);refine zbp (a:=[117,100,112,32]) (by simp;omega) ?_;(conv=>whnf);refine zbp (b:=[32]) (by simp;omega) ?_;(conv=>whnf);refine (zdh da dp i3 i4 _ (ht.no hS.ext)).mono ?_;rintro v w4 ⟨rfl,hx⟩;replace hS:=hS.no hx;replace hK:=hK.trans hx;refine KeepC.mk hK ?_;clear hx;(conv=>whnf);refine zbp (by simp;omega) ?_;repeat' ((conv=>whnf);first|apply RetC.mk|refine rgO ?_|refine ixO ?_|(first|apply brD|apply zad|apply brN|apply brI)<;>(intro))
   exact ⟨rfl,hS.ext⟩
  ·rw [if_neg (by exact h1)];obtain ⟨fn,rfl⟩:∃ n:Nat,fl=n:=⟨fl.toNat,by omega⟩;have l3:=zhI (fn:Int);(conv=>whnf)
   (refine zah tabOk mixed [] (No) [0,1,5,6,10,11,2,3,4,7,8,9,12,13,14,15] (by kernel_rfl) ?_;rintro w1 rfl;replace hS:=hS.drew)
   have hK:=hS.ref No;(conv=>whnf);refine hS.laXF 0 rfl rfl id ?_;(conv=>whnf);refine hS.laXF 0 rfl rfl id ?_;(conv=>whnf);refine hS.ldF 0 rfl rfl id ?_;(conv=>whnf);refine (zdh sa sp i1 i2 _ (ht.no hS.ext)).mono ?_;rintro v w3 ⟨rfl,hx⟩;replace hS:=hS.no hx;replace hK:=hK.trans hx;refine KeepC.mk hK ?_;clear hx;(conv=>whnf);refine zbp (a:=[116,99,112,32]) (by simp;omega) ?_;(conv=>whnf);refine zbp (b:=[32]) (by simp;omega) ?_;(conv=>whnf);refine (zdh da dp i3 i4 _ (ht.no hS.ext)).mono ?_;rintro v w4 ⟨rfl,hx⟩;replace hS:=hS.no hx;replace hK:=hK.trans hx;refine KeepC.mk hK ?_;clear hx;(conv=>whnf);refine zbp (by simp;omega) ?_;(conv=>whnf);refine zbp (b:=[32]) (by simp;omega) ?_;(conv=>whnf);refine (zkC fn (by omega) _ (hN.no hS.ext)).mono ?_;rintro v w5 ⟨rfl,hx⟩;replace hS:=hS.no hx;replace hK:=hK.trans hx;refine KeepC.mk hK ?_;clear hx;(conv=>whnf);refine zbp (by simp;omega) ?_;repeat' ((conv=>whnf);first|apply RetC.mk|refine rgO ?_|refine ixO ?_|(first|apply brD|apply zad|apply brN|apply brI)<;>(intro))
   exact ⟨rfl,hS.ext⟩
def PktS.bytes (p:PktS):List UInt8:=zdN p.proto.toNat 1++(zdN p.sa.toNat 4++zdN p.sp.toNat 2)++(zdN p.da.toNat 4++zdN p.dp.toNat 2)++zdN p.flags.toNat 1
theorem Ev.drawB {P:Program}{τ:Tab}{N:Nat}{σ:zar}{w:World}{b:Nat}{t:TypeId}{cs:List Value}(hτ:TabOk P τ) (hm:P.follows .mixedOrders=true) (hb:Blk w b t cs) {ops:Array Oper}{Q:zar→World→Prop}(order:List Nat)
  (hok:(Region.noSelect ops&&Nat.beq order.length ops.size&&zdA ops [] order (Array.replicate ops.size false))=true)
  (h:∀ w1,w1={ w with drawn:=w.drawn+1 }→Blk w1 b t cs→zfX P τ N ops [] (fun w'=>Ext (· = b) w1 w'∧Blk w' b t cs) order Q σ w1):DrawC P τ N ops Q σ w :=
 zsY hτ hm [] (fun w1 w'=>Ext (· = b) w1 w'∧Blk w' b t cs) order hok ⟨Ext.refl _ _,hb⟩ (by have:=h _ rfl hb;rwa [zeu] at this)
theorem Ev.laB {w1:World}{b o n:Nat}{t:TypeId}{cs:List Value}{k:Value→Prop}(hn:Nat.ble (o+n) cs.length=true) (hk:k (.agg ((cs.drop o).take n).toArray)):LdG (fun w'=>Ext (· = b) w1 w'∧Blk w' b t cs) b o n k :=
 ⟨(cs.drop o).take n,by rw [List.length_take,List.length_drop];have:=Nat.le_of_ble_eq_true hn;omega,fun _ h=>h.2.cells (by rw [List.length_take,List.length_drop];have:=Nat.le_of_ble_eq_true hn;rw [Nat.min_eq_left (by omega)]),hk⟩
theorem zes (s:List UInt8) (hl:s.length≤100000) (w:World) (hM:MaxL w) (hV:NumV w) (ht:Pow10 w) :
  CallC Tryz.prog 41 #[.string (bs s)] w fun v w'=>(∃ x y k,v = .tuple #[.agg #[.int .i64 x,.int .i64 y],.bool k]∧I64 x∧I64 y∧zt3 s x y k)∧Ext No w w':=by
 refine zaa tabOk Tryz.func41 (by kernel_rfl) rfl Tryz.ntmps41 (lbO rfl) ?_;have hS:=St.start w No;(conv=>whnf);refine hS.new (fun b2 w' hb2 hS=>?_);obtain ⟨a,c,j,hcut,hal,hcl⟩:=zg5 s 58;(conv=>whnf);refine (zly s 58 _ hl (hM.no hS.ext)).mono ?_;rintro v w1 ⟨rfl,hx⟩;replace hS:=hS.no hx;rw [hcut];(conv=>whnf);refine (zjr a _ (by omega) (hV.no hS.ext)).mono ?_;rintro v w2 ⟨⟨x,e1,rfl,ix,hc1⟩,hx⟩;replace hS:=hS.no hx;(conv=>whnf);refine (zjr c _ (by omega) (hV.no hS.ext)).mono ?_;rintro v w3 ⟨⟨y,e2,rfl,iy,hc2⟩,hx⟩;replace hS:=hS.no hx
 have hxm:∀ m,Lib.atoiAll a = .ok m→x=m:=fun m h=>by
  rcases hc1 with ⟨h1,_⟩ | ⟨h1,_⟩
  ·rw [h1] at h;cases h;rfl
  ·exact absurd h (h1 m)
 have hym:∀ m,Lib.atoiAll c = .ok m→y=m:=fun m h=>by
  rcases hc2 with ⟨h1,_⟩ | ⟨h1,_⟩
  ·rw [h1] at h;cases h;rfl
  ·exact absurd h (h1 m)
 have hel:=zfj x y ix iy;(conv=>whnf);refine hS.st 0 rfl (lbO rfl) rfl (fun w' hS=>?_);replace hS:St w No w' [blk b2 39 [.int .i64 x,.int .i64 y]]:=hS;(conv=>whnf);refine Ev.drawB tabOk mixed (hS.blk 0 rfl) [0,1,2,3,4,5,6,7,8,10,9,11,12,13,14] (by kernel_rfl) ?_;rintro w4 rfl hB;replace hS:=hS.drew;have hK:=hS.ref (· = b2);(conv=>whnf);refine laB rfl ?_;rcases hc1 with ⟨ha,rfl⟩ | ⟨ha,t1,u1,rfl⟩
 ·rcases hc2 with ⟨hc,rfl⟩ | ⟨hc,t2,u2,rfl⟩
  ·(conv=>whnf)
   refine laB rfl ?_;(conv=>whnf);refine (zdh x y ix iy _ (ht.no hS.ext)).mono ?_;rintro v w5 ⟨rfl,hx⟩;replace hS:=hS.no hx;replace hK:=hK.trans hx.of_no;refine KeepC.mk ⟨hK,hS.blk 0 rfl⟩ ?_;(conv=>whnf);refine zbt ?_;(conv=>whnf);refine hS.stK hK 0 rfl (lbO rfl) rfl rfl (fun w' hK hS=>KeepC.mk ⟨hK,hS.blk 0 rfl⟩ ?_);(conv=>whnf);refine hS.laX 0 rfl rfl ?_;repeat' ((conv=>whnf);first|apply RetC.mk|refine rgO ?_|refine ixO ?_|(first|apply brD|apply zad|apply brN|apply brI)<;>(intro))
   exact ⟨⟨x,y,_,rfl,ix,iy,zlV hcut hxm hym (by rw [decide_eq_true_iff];exact ⟨fun h=>⟨⟨_,ha⟩,⟨_,hc⟩,h⟩,fun h=>h.2.2⟩)⟩,hS.ext⟩
  ·(conv=>whnf)
   refine hS.stK hK 0 rfl (lbO rfl) rfl rfl (fun w' hK hS=>KeepC.mk ⟨hK,hS.blk 0 rfl⟩ ?_);(conv=>whnf);refine hS.laX 0 rfl rfl ?_;repeat' ((conv=>whnf);first|apply RetC.mk|refine rgO ?_|refine ixO ?_|(first|apply brD|apply zad|apply brN|apply brI)<;>(intro))
   exact ⟨⟨x,y,_,rfl,ix,iy,zlV hcut hxm hym ⟨fun h=>(by cases h),fun h=>absurd h.2.1.choose_spec (hc _)⟩⟩,hS.ext⟩
 ·(conv=>whnf)
  refine hS.stK hK 0 rfl (lbO rfl) rfl rfl (fun w' hK hS=>KeepC.mk ⟨hK,hS.blk 0 rfl⟩ ?_);(conv=>whnf);refine hS.laX 0 rfl rfl ?_;repeat' ((conv=>whnf);first|apply RetC.mk|refine rgO ?_|refine ixO ?_|(first|apply brD|apply zad|apply brN|apply brI)<;>(intro))
  exact ⟨⟨x,y,_,rfl,ix,iy,zlV hcut hxm hym ⟨fun h=>(by cases h),fun h=>absurd h.1.choose_spec (ha _)⟩⟩,hS.ext⟩
theorem zda {s:List UInt8}{p:PktS}{ka kb:Bool}(key:∀ q:PktS,q.err=0→q.text=s→ka=true∧kb=true∧p=q) (h:p.err≠0∨p.text≠s∨ka=false∨kb=false):zuE s zaP false:=by
 refine ⟨fun h=>(by cases h),fun _=>rfl,fun q h1 h2=>?_⟩;obtain ⟨g1,g2,rfl⟩:=key q h1 h2;rcases h with h|h|h|h
 ·exact absurd h1 h
 ·exact absurd h2 h
 ·rw [h] at g1;cases g1
 ·rw [h] at g2;cases g2
theorem zkJ {s:List UInt8}{p:PktS}{ka kb:Bool}(key:∀ q:PktS,q.err=0→q.text=s→ka=true∧kb=true∧p=q) (h1:p.err=0) (h2:p.text=s):zuE s p true :=
 ⟨fun _=>⟨h1,h2⟩,fun h=>(by cases h),fun q g1 g2=>⟨rfl,(key q g1 g2).2.2⟩⟩
theorem zvN {s t a b:List UInt8}{x1 y1 x2 y2:Int}{ka kb:Bool}(hw:zbg 32 s=[t,a,b]) (ha:zt3 a x1 y1 ka) (hb:zt3 b x2 y2 kb) :
  ∀ q:PktS,q.err=0→q.text=s→ka=true∧kb=true∧(⟨1,x1,y1,x2,y2,0⟩:PktS)=q:=fun q h1 h2=>by
 obtain ⟨f1,f2,f3,f4,f5⟩:=zdd h1;have hc:=zfu h1;rw [h2,hw] at hc;split at hc
 ·rename_i hp;simp only [List.cons.injEq,and_true] at hc;obtain ⟨_,rfl,rfl⟩:=hc;obtain ⟨k1,rfl,rfl⟩:=ha.2 _ _ f2 rfl;obtain ⟨k2,rfl,rfl⟩:=hb.2 _ _ f3 rfl;refine ⟨k1,k2,?_⟩;obtain ⟨pr,sa,sp,da,dp,fl⟩:=q;dsimp only at hp f1 ⊢;obtain rfl:=hp;obtain rfl:fl=0:=by omega
  rfl
 ·simp at hc
theorem zvE {s t a b f:List UInt8}{x1 y1 x2 y2:Int}{ka kb:Bool}(hw:zbg 32 s=[t,a,b,f]) (ha:zt3 a x1 y1 ka) (hb:zt3 b x2 y2 kb) :
  ∀ q:PktS,q.err=0→q.text=s→ka=true∧kb=true∧(⟨2,x1,y1,x2,y2,(((zdK f 16).getD 0:Nat):Int)⟩:PktS)=q:=fun q h1 h2=>by
 obtain ⟨f1,f2,f3,f4,f5⟩:=zdd h1;have hc:=zfu h1;rw [h2,hw] at hc;split at hc
 ·simp at hc
 ·rename_i hp;simp only [List.cons.injEq,and_true] at hc;obtain ⟨_,rfl,rfl,rfl⟩:=hc;obtain ⟨k1,rfl,rfl⟩:=ha.2 _ _ f2 rfl;obtain ⟨k2,rfl,rfl⟩:=hb.2 _ _ f3 rfl;refine ⟨k1,k2,?_⟩;obtain ⟨pr,sa,sp,da,dp,fl⟩:=q;dsimp only at hp f1 f4 f5 ⊢;obtain ⟨fl,rfl⟩:∃ n:Nat,fl=n:=⟨fl.toNat,by omega⟩;rw [zoE (n:=fl) (by omega)];obtain rfl:pr=2:=by omega
  rfl
theorem zvy {s:List UInt8}(h3:(zbg 32 s).length≠3) (h4:(zbg 32 s).length≠4):zuE s zaP false:=by
 refine ⟨fun h=>(by cases h),fun _=>rfl,fun q h1 h2=>?_⟩;have hc:=zfu h1;rw [h2] at hc;split at hc
 ·exact absurd (by rw [hc];rfl) h3
 ·exact absurd (by rw [hc];rfl) h4
theorem zur {s:List UInt8}(h:(zbg 32 s).length=3):∃ a b p,zbg 32 s=[a,b,p]:=by
 generalize zbg 32 s=l at h
 match l,h with
 | [a,b,p],_=>exact ⟨a,b,p,rfl⟩
theorem zoi (f:List UInt8) (k:Nat):(zdK f (k+1)).getD 0=if zcS (k:Nat)=f then k else (zdK f k).getD 0:=by
 show (if zcS (k:Nat)=f then some k else zdK f k).getD 0=_;split<;>rfl
theorem zfz {E:Nat→Addr}{q:Nat}(s:List UInt8) (hl:s.length≤100000) (w:World) (hM:MaxL w) (hV:NumV w) (ht:Pow10 w) (hN:NamesV w) (hE:Errs w E q [1,2,3]) :
  CallC Tryz.prog 15 #[.string (bs s)] w fun v w'=>(∃ p k,v = .tuple #[.agg (zao p).toArray,zc9 E (if k=true then 0 else 1)]∧zuE s p k)∧Ext No w w':=by
 refine zaa tabOk Tryz.func15 (by kernel_rfl) rfl Tryz.ntmps15 (lbO rfl) ?_;have hS:=St.start w No;(conv=>whnf);refine hS.new (fun b2 w' hb2 hS=>?_);replace hS:St w No w' [blk b2 41 (zao zaP)]:=hS;(conv=>whnf);refine (zgC s 32 _ hl (hM.no hS.ext)).mono ?_;rintro v w1 ⟨⟨b,rfl,hb,hB⟩,hx⟩;replace hS:=hS.made hx (zab _ _ _) hB (by intro c hc;obtain rfl:=List.mem_singleton.1 hc;exact ⟨hb,hB.lt⟩);clear hx hB hb;have hmem:∀ t∈zbg 32 s,t.length≤s.length:=fun t h=>zea h
 conv=>whnf
 refine brD (fun h1=>?_) (fun h1=>?_)
 ·have hbad:=zvy (s:=s) (by omega) (by omega);(conv=>whnf)
  (refine zah tabOk mixed [] ((· = b2)) [0,1,2,3] (by kernel_rfl) ?_;rintro w1 rfl;replace hS:=hS.drew)
  have hK:=hS.ref (· = b2);(conv=>whnf);refine hS.ldrF (hE.at_ 1 rfl) id (fun e=>Nat.ne_of_lt (Nat.lt_of_lt_of_le (zbO (hE.at_ 1 rfl)) hb2) e) ?_;(conv=>whnf);refine hS.stK hK 0 rfl (lbO rfl) rfl rfl (fun w' hK hS=>KeepC.mk hK ?_);(conv=>whnf);refine hS.laX 0 rfl rfl ?_;repeat' ((conv=>whnf);first|apply RetC.mk|refine rgO ?_|refine ixO ?_|(first|apply brD|apply zad|apply brN|apply brI)<;>(intro))
  exact ⟨⟨zaP,false,rfl,hbad⟩,hS.ext⟩
 conv=>whnf
 refine brD (fun h2=>?_) (fun h2=>?_)
 ·have hbad:=zvy (s:=s) (by omega) (by omega);(conv=>whnf)
  (refine zah tabOk mixed [] ((· = b2)) [0,1,2,3] (by kernel_rfl) ?_;rintro w1 rfl;replace hS:=hS.drew)
  have hK:=hS.ref (· = b2);(conv=>whnf);refine hS.ldrF (hE.at_ 1 rfl) id (fun e=>Nat.ne_of_lt (Nat.lt_of_lt_of_le (zbO (hE.at_ 1 rfl)) hb2) e) ?_;(conv=>whnf);refine hS.stK hK 0 rfl (lbO rfl) rfl rfl (fun w' hK hS=>KeepC.mk hK ?_);(conv=>whnf);refine hS.laX 0 rfl rfl ?_;repeat' ((conv=>whnf);first|apply RetC.mk|refine rgO ?_|refine ixO ?_|(first|apply brD|apply zad|apply brN|apply brI)<;>(intro))
  exact ⟨⟨zaP,false,rfl,hbad⟩,hS.ext⟩
 by_cases h4:(zbg 32 s).length=4
 ·obtain ⟨t,a1,a2,f,hw⟩:=zsy h4;rw [hw] at hS hmem ⊢;have hl4:([t,a1,a2,f]:List (List UInt8)).length=4:=rfl;have m1:=hmem a1 (by simp);have m2:=hmem a2 (by simp);replace hS:St w No w1 [blk b2 41 (zao zaP),blk b 9 [.string (bs t),.string (bs a1),.string (bs a2),.string (bs f)]]:=hS;(conv=>whnf);refine ixO ?_;(conv=>whnf);refine hS.ld 1 rfl rfl ?_;(conv=>whnf);refine (zes a1 (by omega) _ (hM.no hS.ext) (hV.no hS.ext) (ht.no hS.ext)).mono ?_;rintro v w3 ⟨⟨x1,y1,ka,rfl,ix1,iy1,hra⟩,hx⟩;replace hS:=hS.no hx;clear hx;(conv=>whnf);refine hS.new (fun b5 w' hb5 hS=>?_);(conv=>whnf);refine hS.st 2 rfl (lbO rfl) rfl (fun w' hS=>?_);(conv=>whnf);refine ixO ?_;(conv=>whnf);refine hS.ld 1 rfl rfl ?_;(conv=>whnf);refine (zes a2 (by omega) _ (hM.no hS.ext) (hV.no hS.ext) (ht.no hS.ext)).mono ?_;rintro v w4 ⟨⟨x2,y2,kb,rfl,ix2,iy2,hrb⟩,hx⟩;replace hS:=hS.no hx;clear hx;(conv=>whnf);refine hS.new (fun b7 w' hb7 hS=>?_);(conv=>whnf);refine hS.st 3 rfl (lbO rfl) rfl (fun w' hS=>?_);(conv=>whnf);refine hS.laX 2 rfl rfl ?_;(conv=>whnf);refine hS.laX 3 rfl rfl ?_;(conv=>whnf);refine hS.new (fun b9 w' hb9 hS=>?_);(conv=>whnf);refine hS.st 4 rfl (lbO rfl) rfl (fun w' hS=>?_);replace hS:=hS.sel [0,4,1] (by decide);(conv=>whnf);refine hS.st 1 rfl (lbO rfl) rfl (fun w' hS=>?_);(conv=>whnf)
  refine zaL tabOk (fun σ w' q=>∃ (k:Nat),σ=[(46,.int .i64 (k:Int)),(9,.pointer (some ⟨b9,0,none⟩)),(8,.bool kb),(6,.bool ka),(4,.slice (some ⟨b,0,none⟩) 4 4),(2,.pointer (some ⟨b2,0,none⟩)),(0,.string (bs s))]∧q=16 - k∧k≤16∧St w No w' [blk b2 41 (zao zaP),blk b9 41 (zao ⟨2,x1,y1,x2,y2,(((zdK f k).getD 0:Nat):Int)⟩),blk b 9 [.string (bs t),.string (bs a1),.string (bs a2),.string (bs f)]])
   (σ':=[(46,.int .i64 ((0:Nat):Int)),(9,.pointer (some ⟨b9,0,none⟩)),(8,.bool kb),(6,.bool ka),(4,.slice (some ⟨b,0,none⟩) 4 4),(2,.pointer (some ⟨b2,0,none⟩)),(0,.string (bs s))]) (n:=16) ⟨rfl,rfl,rfl,rfl,rfl,rfl,rfl,trivial⟩ ⟨0,rfl,rfl,Nat.zero_le _,hS⟩ ?_
  clear hS;rintro _ w5 q ⟨k,rfl,rfl,hk,hS⟩;(conv=>whnf);refine brD (fun h3=>?_) (fun h3=>?_)
  ·have hst:=zoi f k;(conv=>whnf)
   (refine zah tabOk mixed [] (No) [0,2,3,4,1,5] (by kernel_rfl) ?_;rintro w1 rfl;replace hS:=hS.drew)
   have hK:=hS.ref No;(conv=>whnf);refine ixO ?_;(conv=>whnf);refine hS.ldF 2 rfl rfl id ?_;(conv=>whnf);refine (zkC k (by omega) _ (hN.no hS.ext)).mono ?_;rintro v w6 ⟨rfl,hx⟩;replace hS:=hS.no hx;refine KeepC.mk (hK.trans hx) ?_;clear hx hK;(conv=>whnf);refine zbt ?_;(conv=>whnf);refine brD (fun h5=>?_) (fun h5=>?_)
   ·rw [if_pos h5] at hst;(conv=>whnf);refine hS.st 1 rfl (lbO rfl) rfl (fun w' hS=>?_);(conv=>whnf);refine rgO ?_;(conv=>whnf);refine LoopE.mk ⟨_,[(46,.int .i64 ((k+1:Nat):Int)),(9,_),(8,_),(6,_),(4,_),(2,_),(0,_)],?_,⟨rfl,rfl,rfl,rfl,rfl,rfl,rfl,trivial⟩,⟨k+1,rfl,rfl,by omega,by rw [hst];exact hS⟩⟩;omega
   ·rw [if_neg h5] at hst;(conv=>whnf);refine rgO ?_;(conv=>whnf);refine LoopE.mk ⟨_,[(46,.int .i64 ((k+1:Nat):Int)),(9,_),(8,_),(6,_),(4,_),(2,_),(0,_)],?_,⟨rfl,rfl,rfl,rfl,rfl,rfl,rfl,trivial⟩,⟨k+1,rfl,rfl,by omega,by rw [hst];exact hS⟩⟩;omega
  ·obtain rfl:k=16:=by omega
   have hkey:=zvE hw hra hrb;generalize hp:(⟨_,_,_,_,_,_⟩:PktS)=p at hkey hS;have hS:St w No _ (blk b2 41 (zao zaP)::blk b9 41 (zao p)::_):=hS;(conv=>whnf);refine hS.laX 1 rfl rfl ?_;(conv=>whnf);refine (zeU p _ ((hE.sub rfl).ext hS.ext fun _ h=>h.elim) (ht.no hS.ext) (hN.no hS.ext)).mono ?_;rintro v w8 ⟨rfl,hx⟩;replace hS:=hS.no hx;clear hx;cases hpe:p.err with
   | succ j =>
    have hbad:=zda hkey (.inl (by omega));rw [if_neg (by omega)];(conv=>whnf)
    (refine zah tabOk mixed [] ((· = b2)) [0,1,2,3] (by kernel_rfl) ?_;rintro w1 rfl;replace hS:=hS.drew)
    have hK:=hS.ref (· = b2);(conv=>whnf);refine hS.ldrF (hE.at_ 1 rfl) id (fun e=>Nat.ne_of_lt (Nat.lt_of_lt_of_le (zbO (hE.at_ 1 rfl)) hb2) e) ?_;(conv=>whnf);refine hS.stK hK 0 rfl (lbO rfl) rfl rfl (fun w' hK hS=>KeepC.mk hK ?_);(conv=>whnf);refine hS.laX 0 rfl rfl ?_;repeat' ((conv=>whnf);first|apply RetC.mk|refine rgO ?_|refine ixO ?_|(first|apply brD|apply zad|apply brN|apply brI)<;>(intro))
    exact ⟨⟨zaP,false,rfl,hbad⟩,hS.ext⟩
   | zero =>
    rw [if_pos rfl];(conv=>whnf);refine zuS ?_;(conv=>whnf);refine zad (fun h1=>?_) (fun h1=>?_)
    ·have hbad:=zda hkey (.inr (.inl h1));(conv=>whnf)
     (refine zah tabOk mixed [] ((· = b2)) [0,1,2,3] (by kernel_rfl) ?_;rintro w1 rfl;replace hS:=hS.drew)
     have hK:=hS.ref (· = b2);(conv=>whnf);refine hS.ldrF (hE.at_ 1 rfl) id (fun e=>Nat.ne_of_lt (Nat.lt_of_lt_of_le (zbO (hE.at_ 1 rfl)) hb2) e) ?_;(conv=>whnf);refine hS.stK hK 0 rfl (lbO rfl) rfl rfl (fun w' hK hS=>KeepC.mk hK ?_);(conv=>whnf);refine hS.laX 0 rfl rfl ?_;repeat' ((conv=>whnf);first|apply RetC.mk|refine rgO ?_|refine ixO ?_|(first|apply brD|apply zad|apply brN|apply brI)<;>(intro))
     exact ⟨⟨zaP,false,rfl,hbad⟩,hS.ext⟩
    cases ka with
    | false =>
     have hbad:=zda hkey (.inr (.inr (.inl rfl)));(conv=>whnf)
     (refine zah tabOk mixed [] ((· = b2)) [0,1,2,3] (by kernel_rfl) ?_;rintro w1 rfl;replace hS:=hS.drew)
     have hK:=hS.ref (· = b2);(conv=>whnf);refine hS.ldrF (hE.at_ 1 rfl) id (fun e=>Nat.ne_of_lt (Nat.lt_of_lt_of_le (zbO (hE.at_ 1 rfl)) hb2) e) ?_;(conv=>whnf);refine hS.stK hK 0 rfl (lbO rfl) rfl rfl (fun w' hK hS=>KeepC.mk hK ?_);(conv=>whnf);refine hS.laX 0 rfl rfl ?_;repeat' ((conv=>whnf);first|apply RetC.mk|refine rgO ?_|refine ixO ?_|(first|apply brD|apply zad|apply brN|apply brI)<;>(intro))
     exact ⟨⟨zaP,false,rfl,hbad⟩,hS.ext⟩
    | true =>
     cases kb with
     | false =>
      have hbad:=zda hkey (.inr (.inr (.inr rfl)));(conv=>whnf)
      (refine zah tabOk mixed [] ((· = b2)) [0,1,2,3] (by kernel_rfl) ?_;rintro w1 rfl;replace hS:=hS.drew)
      have hK:=hS.ref (· = b2);(conv=>whnf);refine hS.ldrF (hE.at_ 1 rfl) id (fun e=>Nat.ne_of_lt (Nat.lt_of_lt_of_le (zbO (hE.at_ 1 rfl)) hb2) e) ?_;(conv=>whnf);refine hS.stK hK 0 rfl (lbO rfl) rfl rfl (fun w' hK hS=>KeepC.mk hK ?_);(conv=>whnf);refine hS.laX 0 rfl rfl ?_;repeat' ((conv=>whnf);first|apply RetC.mk|refine rgO ?_|refine ixO ?_|(first|apply brD|apply zad|apply brN|apply brI)<;>(intro))
      exact ⟨⟨zaP,false,rfl,hbad⟩,hS.ext⟩
     | true =>
      (conv=>whnf);refine hS.laX 1 rfl rfl ?_;(conv=>whnf);refine hS.st 0 rfl (lbO rfl) rfl (fun w' hS=>?_);(conv=>whnf);refine hS.laX 0 rfl rfl ?_;repeat' ((conv=>whnf);first|apply RetC.mk|refine rgO ?_|refine ixO ?_|(first|apply brD|apply zad|apply brN|apply brI)<;>(intro))
      exact ⟨⟨p,true,rfl,zkJ hkey hpe h1⟩,hS.ext⟩
 ·obtain ⟨t,a1,a2,hw⟩:=zur (s:=s) (by omega);rw [hw] at hS hmem ⊢;have hl3:([t,a1,a2]:List (List UInt8)).length=3:=rfl;have m1:=hmem a1 (by simp);have m2:=hmem a2 (by simp);replace hS:St w No w1 [blk b2 41 (zao zaP),blk b 9 [.string (bs t),.string (bs a1),.string (bs a2)]]:=hS;(conv=>whnf);refine ixO ?_;(conv=>whnf);refine hS.ld 1 rfl rfl ?_;(conv=>whnf);refine (zes a1 (by omega) _ (hM.no hS.ext) (hV.no hS.ext) (ht.no hS.ext)).mono ?_;rintro v w3 ⟨⟨x1,y1,ka,rfl,ix1,iy1,hra⟩,hx⟩;replace hS:=hS.no hx;clear hx;(conv=>whnf);refine hS.new (fun b5 w' hb5 hS=>?_);(conv=>whnf);refine hS.st 2 rfl (lbO rfl) rfl (fun w' hS=>?_);(conv=>whnf);refine ixO ?_;(conv=>whnf);refine hS.ld 1 rfl rfl ?_;(conv=>whnf);refine (zes a2 (by omega) _ (hM.no hS.ext) (hV.no hS.ext) (ht.no hS.ext)).mono ?_;rintro v w4 ⟨⟨x2,y2,kb,rfl,ix2,iy2,hrb⟩,hx⟩;replace hS:=hS.no hx;clear hx;(conv=>whnf);refine hS.new (fun b7 w' hb7 hS=>?_);(conv=>whnf);refine hS.st 3 rfl (lbO rfl) rfl (fun w' hS=>?_);(conv=>whnf);refine hS.laX 2 rfl rfl ?_;(conv=>whnf);refine hS.laX 3 rfl rfl ?_;(conv=>whnf);refine hS.new (fun b9 w' hb9 hS=>?_);(conv=>whnf);refine hS.st 4 rfl (lbO rfl) rfl (fun w' hS=>?_);replace hS:=hS.sel [0,4,1] (by decide);replace hS:St w No w' [blk b2 41 (zao zaP),blk b9 41 (zao ⟨1,x1,y1,x2,y2,0⟩),blk b 9 [.string (bs t),.string (bs a1),.string (bs a2)]]:=hS;have hkey:=zvN hw hra hrb;generalize hp:(⟨_,_,_,_,_,_⟩:PktS)=p at hkey hS;have hS:St w No _ (blk b2 41 (zao zaP)::blk b9 41 (zao p)::_):=hS;(conv=>whnf);refine hS.laX 1 rfl rfl ?_;(conv=>whnf);refine (zeU p _ ((hE.sub rfl).ext hS.ext fun _ h=>h.elim) (ht.no hS.ext) (hN.no hS.ext)).mono ?_;rintro v w8 ⟨rfl,hx⟩;replace hS:=hS.no hx;clear hx;cases hpe:p.err with
  | succ j =>
   have hbad:=zda hkey (.inl (by omega));rw [if_neg (by omega)];(conv=>whnf)
   (refine zah tabOk mixed [] ((· = b2)) [0,1,2,3] (by kernel_rfl) ?_;rintro w1 rfl;replace hS:=hS.drew)
   have hK:=hS.ref (· = b2);(conv=>whnf);refine hS.ldrF (hE.at_ 1 rfl) id (fun e=>Nat.ne_of_lt (Nat.lt_of_lt_of_le (zbO (hE.at_ 1 rfl)) hb2) e) ?_;(conv=>whnf);refine hS.stK hK 0 rfl (lbO rfl) rfl rfl (fun w' hK hS=>KeepC.mk hK ?_);(conv=>whnf);refine hS.laX 0 rfl rfl ?_;repeat' ((conv=>whnf);first|apply RetC.mk|refine rgO ?_|refine ixO ?_|(first|apply brD|apply zad|apply brN|apply brI)<;>(intro))
   exact ⟨⟨zaP,false,rfl,hbad⟩,hS.ext⟩
  | zero =>
   rw [if_pos rfl];(conv=>whnf);refine zuS ?_;(conv=>whnf);refine zad (fun h1=>?_) (fun h1=>?_)
   ·have hbad:=zda hkey (.inr (.inl h1));(conv=>whnf)
    (refine zah tabOk mixed [] ((· = b2)) [0,1,2,3] (by kernel_rfl) ?_;rintro w1 rfl;replace hS:=hS.drew)
    have hK:=hS.ref (· = b2);(conv=>whnf);refine hS.ldrF (hE.at_ 1 rfl) id (fun e=>Nat.ne_of_lt (Nat.lt_of_lt_of_le (zbO (hE.at_ 1 rfl)) hb2) e) ?_;(conv=>whnf);refine hS.stK hK 0 rfl (lbO rfl) rfl rfl (fun w' hK hS=>KeepC.mk hK ?_);(conv=>whnf);refine hS.laX 0 rfl rfl ?_;repeat' ((conv=>whnf);first|apply RetC.mk|refine rgO ?_|refine ixO ?_|(first|apply brD|apply zad|apply brN|apply brI)<;>(intro))
    exact ⟨⟨zaP,false,rfl,hbad⟩,hS.ext⟩
   cases ka with
   | false =>
    have hbad:=zda hkey (.inr (.inr (.inl rfl)));(conv=>whnf)
    (refine zah tabOk mixed [] ((· = b2)) [0,1,2,3] (by kernel_rfl) ?_;rintro w1 rfl;replace hS:=hS.drew)
    have hK:=hS.ref (· = b2);(conv=>whnf);refine hS.ldrF (hE.at_ 1 rfl) id (fun e=>Nat.ne_of_lt (Nat.lt_of_lt_of_le (zbO (hE.at_ 1 rfl)) hb2) e) ?_;(conv=>whnf);refine hS.stK hK 0 rfl (lbO rfl) rfl rfl (fun w' hK hS=>KeepC.mk hK ?_);(conv=>whnf);refine hS.laX 0 rfl rfl ?_;repeat' ((conv=>whnf);first|apply RetC.mk|refine rgO ?_|refine ixO ?_|(first|apply brD|apply zad|apply brN|apply brI)<;>(intro))
    exact ⟨⟨zaP,false,rfl,hbad⟩,hS.ext⟩
   | true =>
    cases kb with
    | false =>
     have hbad:=zda hkey (.inr (.inr (.inr rfl)));(conv=>whnf)
     (refine zah tabOk mixed [] ((· = b2)) [0,1,2,3] (by kernel_rfl) ?_;rintro w1 rfl;replace hS:=hS.drew)
     have hK:=hS.ref (· = b2);(conv=>whnf);refine hS.ldrF (hE.at_ 1 rfl) id (fun e=>Nat.ne_of_lt (Nat.lt_of_lt_of_le (zbO (hE.at_ 1 rfl)) hb2) e) ?_;(conv=>whnf);refine hS.stK hK 0 rfl (lbO rfl) rfl rfl (fun w' hK hS=>KeepC.mk hK ?_);(conv=>whnf);refine hS.laX 0 rfl rfl ?_;repeat' ((conv=>whnf);first|apply RetC.mk|refine rgO ?_|refine ixO ?_|(first|apply brD|apply zad|apply brN|apply brI)<;>(intro))
     exact ⟨⟨zaP,false,rfl,hbad⟩,hS.ext⟩
    | true =>
     (conv=>whnf);refine hS.laX 1 rfl rfl ?_;(conv=>whnf);refine hS.st 0 rfl (lbO rfl) rfl (fun w' hS=>?_);(conv=>whnf);refine hS.laX 0 rfl rfl ?_;repeat' ((conv=>whnf);first|apply RetC.mk|refine rgO ?_|refine ixO ?_|(first|apply brD|apply zad|apply brN|apply brI)<;>(intro))
     exact ⟨⟨p,true,rfl,zkJ hkey hpe h1⟩,hS.ext⟩
theorem zaB (n:Int) (hn:I64 n) (w:World):CallC Tryz.prog 46 #[.int .i64 n] w fun v w'=>v = .string (bs (Lib.itoa n))∧Ext No w w':=by
 obtain ⟨h1,h2⟩:=hn;have he:Lib.itoa n=if n < 0 then 45::Lib.decDigits n.natAbs else Lib.decDigits n.toNat:=rfl
 have hl:=Lib.itoa_length_le n h1 h2;refine zaa tabOk Tryz.func46 (by kernel_rfl) rfl Tryz.ntmps46 (lbO rfl) ?_;have hS:=St.start w No;(conv=>whnf);refine brD (fun h=>?_) (fun h=>?_)
 ·obtain ⟨m,rfl⟩:∃ m:Nat,n = -(m:Int):=⟨(-n).toNat,by omega⟩;rw [if_pos (by omega),show (-(m:Int)).natAbs=m by omega] at he;(conv=>whnf);refine (zi1 18 m (by omega) (by omega) _).mono ?_;rintro v w1 ⟨rfl,hx⟩;replace hS:=hS.no hx;rw [he,List.length_cons] at hl;(conv=>whnf);refine zbp (a:=[45]) (by simp;omega) ?_;repeat' ((conv=>whnf);first|apply RetC.mk|refine nzO ?_|refine rgO ?_|refine ixO ?_|(first|apply brD|apply zad|apply brN|apply brI)<;>(intro))
  rw [he];exact ⟨rfl,hS.ext⟩
 ·obtain ⟨m,rfl⟩:∃ m:Nat,n=m:=⟨n.toNat,by omega⟩;rw [if_neg (by omega),Int.toNat_natCast] at he;(conv=>whnf);refine rgO ?_;rw [show (0:Int) - (m:Int) = -(m:Int) by omega];(conv=>whnf);refine (zi1 18 m (by omega) (by omega) _).mono ?_;rintro v w1 ⟨rfl,hx⟩;replace hS:=hS.no hx;repeat' ((conv=>whnf);first|apply RetC.mk|refine nzO ?_|refine rgO ?_|refine ixO ?_|(first|apply brD|apply zad|apply brN|apply brI)<;>(intro))
  rw [he];exact ⟨rfl,hS.ext⟩
theorem zhw (w:List UInt8) (sep:List UInt8):∀ l:List (List UInt8),l≠[]→Lib.join (l++[w]) sep=Lib.join l sep++sep++w
 | [],h=>absurd rfl h
 | [x],_=>by
  rw [List.singleton_append,zcu,Lib.join_one,Lib.join_one];simp
 | x::y::r,_=>by
  have ih:=zhw w sep (y::r) (by simp);rw [List.cons_append,List.cons_append,zcu,zcu,← List.cons_append,ih];simp
theorem zoG (n:Int) {k:Nat}(hk:k≤4):Lib.join (za7 n k) [43]=[]↔za7 n k=[]:=by
 constructor
 ·intro h;cases hw:za7 n k with
  | nil=>rfl
  | cons w ws =>
   exfalso;have h3:=(zeo hk (show w∈za7 n k by rw [hw];exact List.mem_cons_self)).1;have hm:=zdT (sep:=[43]) (za7 n k) (show w∈za7 n k by rw [hw];exact List.mem_cons_self);rw [h,List.length_nil] at hm;omega
 ·intro h;rw [h];rfl
theorem zrF {n:Int}(hn:I64 n) (m:Nat) : -9223372036854775808≤n.tdiv (m:Int)∧n.tdiv (m:Int)≤9223372036854775807:=by
 obtain ⟨h1,h2⟩:=hn;rcases Int.le_total 0 n with h|h
 ·rw [Int.tdiv_eq_ediv_of_nonneg h];have:=Int.ediv_le_self (a:=n) (m:Int) h;have:=Int.ediv_nonneg h (Int.natCast_nonneg m);omega
 ·obtain ⟨j,rfl⟩:∃ j:Nat,n = -(j:Int):=⟨(-n).toNat,by omega⟩;rw [Int.neg_tdiv,Int.tdiv_eq_ediv_of_nonneg (Int.natCast_nonneg j)];have:=Int.ediv_le_self (a:=(j:Int)) (m:Int) (Int.natCast_nonneg j);have:=Int.ediv_nonneg (Int.natCast_nonneg j) (Int.natCast_nonneg m);omega
theorem zjJ (n:Int) (hn:I64 n) (w:World):CallC Tryz.prog 89 #[.int .i64 n] w fun v w'=>v = .string (bs (zcS n))∧Ext No w w':=by
 refine zaa tabOk Tryz.func89 (by kernel_rfl) rfl Tryz.ntmps89 (lbO rfl) ?_;have hS:=St.start w No;(conv=>whnf);refine hS.lit (cs:=fnames.map fun l=>.string (bs l)) Tryz.underlying22 (sz:=1) (by kernel_rfl) (z:=.string (bs [])) (by kernel_rfl) rfl rfl (by rfl) (fun bl w' hbl hS=>?_);(conv=>whnf)
 refine zaL tabOk (fun σ w' q=>∃ (k:Nat),σ=[(6,.int .i64 (k:Int)),(5,.int .i64 ((2 ^ k:Nat):Int)),(4,.string (bs (Lib.join (za7 n k) [43]))),(3,.slice (some ⟨bl,0,none⟩) 4 4),(0,.int .i64 n)]∧q=4 - k∧k≤4∧St w No w' [blk bl 9 (fnames.map fun l=>.string (bs l))])
  (σ':=[(6,.int .i64 ((0:Nat):Int)),(5,.int .i64 ((2 ^ 0:Nat):Int)),(4,.string (bs [])),(3,.slice (some ⟨bl,0,none⟩) 4 4),(0,.int .i64 n)]) (n:=4) ⟨rfl,rfl,rfl,rfl,rfl,trivial⟩ ⟨0,rfl,rfl,Nat.zero_le _,hS⟩ ?_
 clear hS;rintro _ w1 q ⟨k,rfl,rfl,hk,hS⟩;have hjl:=zft n hk;have hjn:=zoG n hk;(conv=>whnf);refine brD (fun h3=>?_) (fun h3=>?_)
 ·have hk4:k < 4:=by omega
  have hst:=zgS n k;have hjl1:=zft n (show k+1≤4 by omega);have h2k:2 ^ k≤2 ^ 3∧1≤2 ^ k:=⟨Nat.pow_le_pow_right (by decide) (by omega),Nat.one_le_pow _ _ (by decide)⟩;have h2s:2 ^ (k+1)=2 * 2 ^ k:=by rw [Nat.pow_succ,Nat.mul_comm]
  obtain ⟨t1,t2⟩:=zrF hn (2 ^ k)
  have hfb:((n.tdiv ((2 ^ k:Nat):Int)).tmod 2 == 1)=zuk n k:=by
   unfold zuk;rw [Bool.eq_iff_iff,beq_iff_eq,decide_eq_true_iff]
  have hat:(fnames.map fun l=>Value.string (bs l))[0+k * 1]?=some (.string (bs (fnames.getD k []))):=by
   rw [Nat.zero_add,Nat.mul_one,List.getElem?_map,List.getD_eq_getElem?_getD,List.getElem?_eq_getElem (show k < fnames.length from hk4)];rfl
  (conv=>whnf);refine NzC.mk (by omega) ?_;refine RngC.mk t1 t2 ?_;(conv=>whnf);refine nzO ?_;(conv=>whnf);rw [hfb];refine brI (fun h4=>?_) (fun h4=>?_)
  ·rw [if_pos h4] at hst;(conv=>whnf);refine zuS ?_;(conv=>whnf);refine zad (fun h5=>?_) (fun h5=>?_)
   ·have hne:za7 n k≠[]:=fun e=>h5 (hjn.2 e)
    have hj:Lib.join (za7 n (k+1)) [43]=Lib.join (za7 n k) [43]++[43]++fnames.getD k []:=by rw [hst,zhw _ _ _ hne]
    rw [hj] at hjl1;simp only [List.length_append] at hjl1;(conv=>whnf);refine zbp (b:=[43]) (by simp;omega) ?_;(conv=>whnf);refine ixO ?_;(conv=>whnf);refine hS.ld 0 rfl hat ?_;(conv=>whnf);refine zbp (by simp only [List.length_append];omega) ?_;rw [← hj];(conv=>whnf);refine rgO ?_;(conv=>whnf);refine rgO ?_;(conv=>whnf);refine LoopE.mk ⟨_,[(6,.int .i64 ((k+1:Nat):Int)),(5,.int .i64 ((2 ^ (k+1):Nat):Int)),(4,_),(3,_),(0,_)],?_,⟨rfl,by rw [h2s,Int.natCast_mul];rfl,rfl,rfl,rfl,trivial⟩,⟨k+1,rfl,rfl,by omega,hS⟩⟩;omega
   ·have hnil:za7 n k=[]:=hjn.1 h5;have hj:Lib.join (za7 n (k+1)) [43]=fnames.getD k []:=by rw [hst,hnil,List.nil_append,Lib.join_one]
    have h5:Lib.join (za7 n k) [43]=[]:=h5;rw [h5];rw [hj] at hjl1;(conv=>whnf);refine ixO ?_;(conv=>whnf);refine hS.ld 0 rfl hat ?_;(conv=>whnf);refine zbp (a:=[]) (by simp only [List.length_nil];omega) ?_;rw [List.nil_append,← hj];(conv=>whnf);refine rgO ?_;(conv=>whnf);refine rgO ?_;(conv=>whnf);refine LoopE.mk ⟨_,[(6,.int .i64 ((k+1:Nat):Int)),(5,.int .i64 ((2 ^ (k+1):Nat):Int)),(4,_),(3,_),(0,_)],?_,⟨rfl,by rw [h2s,Int.natCast_mul];rfl,rfl,rfl,rfl,trivial⟩,⟨k+1,rfl,rfl,by omega,hS⟩⟩;omega
  ·rw [if_neg (by rw [h4];decide),List.append_nil] at hst;rw [← hst];(conv=>whnf);refine rgO ?_;(conv=>whnf);refine rgO ?_;(conv=>whnf);refine LoopE.mk ⟨_,[(6,.int .i64 ((k+1:Nat):Int)),(5,.int .i64 ((2 ^ (k+1):Nat):Int)),(4,_),(3,_),(0,_)],?_,⟨rfl,by rw [h2s,Int.natCast_mul];rfl,rfl,rfl,rfl,trivial⟩,⟨k+1,rfl,rfl,by omega,hS⟩⟩;omega
 ·obtain rfl:k=4:=by omega
  unfold zcS;(conv=>whnf);refine zbt ?_;(conv=>whnf);refine brD (fun h5=>?_) (fun h5=>?_)
  ·rw [if_pos (hjn.1 h5)];repeat' ((conv=>whnf);first|apply RetC.mk|refine nzO ?_|refine rgO ?_|refine ixO ?_|(first|apply brD|apply zad|apply brN|apply brI)<;>(intro))
   exact ⟨rfl,hS.ext⟩
  ·rw [if_neg (fun e=>h5 (hjn.2 e))];repeat' ((conv=>whnf);first|apply RetC.mk|refine nzO ?_|refine rgO ?_|refine ixO ?_|(first|apply brD|apply zad|apply brN|apply brI)<;>(intro))
   exact ⟨rfl,hS.ext⟩
def PktS.IP (p:PktS):Prop:=I64 p.proto∧I64 p.sa∧I64 p.sp∧I64 p.da∧I64 p.dp∧I64 p.flags
theorem zdu (p:PktS) (hp:p.IP) (w:World):CallC Tryz.prog 44 #[.agg (zao p).toArray] w fun v w'=>v = .string (bs p.text)∧Ext No w w':=by
 obtain ⟨pr,sa,sp,da,dp,fl⟩:=p;obtain ⟨i0,i1,i2,i3,i4,i5⟩:=hp;dsimp only at i0 i1 i2 i3 i4 i5;have e1:=Lib.itoa_length_le sa i1.1 i1.2;have e2:=Lib.itoa_length_le sp i2.1 i2.2;have e3:=Lib.itoa_length_le da i3.1 i3.2;have e4:=Lib.itoa_length_le dp i4.1 i4.2;have e5:=zhI fl;unfold PktS.text zeD;refine zaa tabOk Tryz.func44 (by kernel_rfl) rfl Tryz.ntmps44 (lbO rfl) ?_;have hS:=St.start w No;(conv=>whnf);refine hS.new (fun b w' hb hS=>?_);replace hS:St w No w' [blk b 41 (zao ⟨pr,sa,sp,da,dp,fl⟩)]:=hS;(conv=>whnf)
 (refine zah tabOk mixed [] (No) [0,1,2,5,6,7,11,12,13,17,18,19,3,4,8,9,10,14,15,16,20,21,22] (by kernel_rfl) ?_;rintro w1 rfl;replace hS:=hS.drew)
 have hK:=hS.ref No;(conv=>whnf);refine hS.ldF 0 rfl rfl id ?_;(conv=>whnf);refine hS.ldF 0 rfl rfl id ?_;(conv=>whnf);refine hS.ldF 0 rfl rfl id ?_;(conv=>whnf);refine hS.ldF 0 rfl rfl id ?_;(conv=>whnf);refine (zaB sa i1 _).mono ?_;rintro v w3 ⟨rfl,hx⟩;replace hS:=hS.no hx;replace hK:=hK.trans hx;refine KeepC.mk hK ?_;clear hx;(conv=>whnf);refine zbp (b:=[58]) (by simp;omega) ?_;(conv=>whnf);refine (zaB sp i2 _).mono ?_;rintro v w3 ⟨rfl,hx⟩;replace hS:=hS.no hx;replace hK:=hK.trans hx;refine KeepC.mk hK ?_;clear hx;(conv=>whnf);refine zbp (by simp;omega) ?_;(conv=>whnf);refine zbp (b:=[32]) (by simp;omega) ?_;(conv=>whnf);refine (zaB da i3 _).mono ?_;rintro v w3 ⟨rfl,hx⟩;replace hS:=hS.no hx;replace hK:=hK.trans hx;refine KeepC.mk hK ?_;clear hx;(conv=>whnf);refine zbp (by simp;omega) ?_;(conv=>whnf);refine zbp (b:=[58]) (by simp;omega) ?_;(conv=>whnf);refine (zaB dp i4 _).mono ?_;rintro v w3 ⟨rfl,hx⟩;replace hS:=hS.no hx;replace hK:=hK.trans hx;refine KeepC.mk hK ?_;clear hx;(conv=>whnf);refine zbp (by simp;omega) ?_;(conv=>whnf);refine hS.ld 0 rfl rfl ?_;(conv=>whnf);refine brD (fun h1=>?_) (fun h1=>?_)
 ·rw [if_pos (by exact h1)];(conv=>whnf);refine zbp (a:=[117,100,112,32]) (by simp;omega) ?_;repeat' ((conv=>whnf);first|apply RetC.mk|refine nzO ?_|refine rgO ?_|refine ixO ?_|(first|apply brD|apply zad|apply brN|apply brI)<;>(intro))
  exact ⟨by simp,hS.ext⟩
 ·rw [if_neg (by exact h1)];(conv=>whnf);refine zbp (a:=[116,99,112,32]) (by simp;omega) ?_;(conv=>whnf);refine zbp (b:=[32]) (by simp;omega) ?_;(conv=>whnf);refine hS.ld 0 rfl rfl ?_;(conv=>whnf);refine (zjJ fl i5 _).mono ?_;rintro v w5 ⟨rfl,hx⟩;replace hS:=hS.no hx;(conv=>whnf);refine zbp (by simp;omega) ?_;repeat' ((conv=>whnf);first|apply RetC.mk|refine nzO ?_|refine rgO ?_|refine ixO ?_|(first|apply brD|apply zad|apply brN|apply brI)<;>(intro))
  exact ⟨by simp,hS.ext⟩
structure Base (E:Nat→Addr) (W0:World):Prop where
 errs:Errs W0 E W0.heap.size allErrs
 hand:Handle W0
 pow:Pow10 W0
 prot:Protos W0
 maxl:MaxL W0
 numv:NumV W0
 names:NamesV W0
 text:∀ k,1≤k→k < 12→W0.cell? ⟨(E k).block,(E k).off,(E k).spot⟩=some (.string (bs (zdO k)))
theorem zt1:Codec 1 zcw:=⟨fun _=>rfl,fun _=>rfl,by decide⟩
section
variable {w w' : World} {X : WorldA} {W : WorldS} {E : Nat → Addr} {m : Nat} {W0 : World}
theorem Stands.base {X':WorldA}{W':WorldS}(h:Stands E W0.heap.size m w X W) (hx:Ext No W0 w) (k:Turns w w' (zag X W) (zag X' W')):Ext No W0 w':=hx.then k.ext fun b hb=>.inr (h.high b hb)
theorem zm8 (l:List UInt8) (w:World) (hl:l.length≤100000) (hV:NumV w) (ht:Pow10 w) :
  CallC Tryz.prog 172 #[.string (bs l)] w fun v w'=>(∃ n k,v = .tuple #[.int .i64 n,.bool k]∧I64 n∧(k=true↔0≤zbD l 5)∧(0≤zbD l 5→n=zbD l 5))∧Ext No w w':=by
 refine zaa tabOk Tryz.func172 (by kernel_rfl) rfl Tryz.ntmps172 (lbO rfl) ?_;have hS:=St.start w No;(conv=>whnf);refine (zjr l w hl hV).mono ?_;rintro v w1 ⟨⟨n,e,rfl,hn,hcase⟩,hx⟩;replace hS:=hS.no hx;rcases hcase with ⟨ha,rfl⟩ | ⟨ha,t,u,rfl⟩
 ·obtain ⟨k1,k2⟩:=zkw 5 (by omega) ha;(conv=>whnf);refine brD (fun h5=>?_) (fun h5=>?_)
  ·have h5:l.length≤5:=by
    have:=zaN l;omega
   (conv=>whnf);refine brD (fun h6=>?_) (fun h6=>?_)
   ·have h6:0≤n:=by omega
    (conv=>whnf);refine (zb9 n hn.1 hn.2 _ (ht.no hS.ext)).mono ?_;rintro v w2 ⟨rfl,hx⟩;replace hS:=hS.no hx;(conv=>whnf);refine zbt ?_;repeat' ((conv=>whnf);first|apply RetC.mk|refine rgO ?_|refine ixO ?_|(first|apply brD|apply zad|apply brN|apply brI)<;>(intro))
    refine ⟨⟨_,_,rfl,hn,?_,k2⟩,hS.ext⟩;rw [← k1,decide_eq_true_iff];exact ⟨fun h=>⟨⟨h5,h⟩,h6⟩,fun h=>h.1.2⟩
   ·have h6:¬ 0≤n:=by omega
    repeat' ((conv=>whnf);first|apply RetC.mk|refine rgO ?_|refine ixO ?_|(first|apply brD|apply zad|apply brN|apply brI)<;>(intro))
    refine ⟨⟨_,_,rfl,hn,?_,k2⟩,hS.ext⟩;rw [← k1];exact ⟨fun h=>(by cases h),fun h=>absurd h.2 h6⟩
  ·have h5:¬ l.length≤5:=by
    have:=zaN l;omega
   repeat' ((conv=>whnf);first|apply RetC.mk|refine rgO ?_|refine ixO ?_|(first|apply brD|apply zad|apply brN|apply brI)<;>(intro))
   refine ⟨⟨_,_,rfl,hn,?_,k2⟩,hS.ext⟩;rw [← k1];exact ⟨fun h=>(by cases h),fun h=>absurd h.1.1 h5⟩
 ·have hneg:=zeG (most:=5) (by omega) ha;repeat' ((conv=>whnf);first|apply RetC.mk|refine rgO ?_|refine ixO ?_|(first|apply brD|apply zad|apply brN|apply brI)<;>(intro))
  exact ⟨⟨_,_,rfl,hn,⟨fun h=>(by cases h),fun h=>absurd h (by omega)⟩,fun h=>absurd h (by omega)⟩,hS.ext⟩
theorem zkL:∀ {f:List UInt8}{ws:List (List UInt8)},f.length≠ws.length→zco f ws=none
 | [],[],h=>absurd rfl h
 | [],_::_,_=>rfl
 | _::_,[],_=>rfl
 | c::f,w::ws,h=>by
  unfold zco;rw [zkL (f:=f) (ws:=ws) (fun e=>h (by rw [List.length_cons,List.length_cons,e]))];split<;>rfl
theorem zqX {f:List UInt8}{ws:List (List UInt8)}{k:Nat}{c:UInt8}{t:List UInt8}(hf:f[k]?=some c) (hw:ws[k]?=some t):zco (f.drop k) (ws.drop k)=if zbD t 5 < 0∨(c=115∧zbD t 5 > 1) then none else (zco (f.drop (k+1)) (ws.drop (k+1))).map fun l=>zbD t 5::l:=by
 obtain ⟨l1,e1⟩:=List.getElem?_eq_some_iff.1 hf;obtain ⟨l2,e2⟩:=List.getElem?_eq_some_iff.1 hw;rw [List.drop_eq_getElem_cons l1,List.drop_eq_getElem_cons l2,e1,e2];rfl
theorem zmF {G:List UInt8→Prop}{a:Option Addr}{n c:Nat}(f:List UInt8) (ws:List (List UInt8)) (hx:Slc w 1 zbe G a n ws) (hf:f.length≤10) (hws:∀ t∈ws,t.length≤100000) (hV:NumV w) (ht:Pow10 w) :
  CallC Tryz.prog 81 #[.string (bs f),.slice a n c] w fun v w'=>(∃ a' d xs k,v = .tuple #[.slice a' xs.length d,.bool k]∧zco f ws=(if k=true then some xs else none)∧(zaf 3 1 zcw (.slice a' xs.length d) xs).holds w'∧zc0 w w' (.slice a' xs.length d))∧Ext No w w':=by
 have hsz:=zaN f;have hl:=hx.len;refine zaa tabOk Tryz.func81 (by kernel_rfl) rfl Tryz.ntmps81 (lbO rfl) ?_;have hS:=St.start w No;have nilN:∀ w:World,(zaf 3 1 zcw (.slice none 0 0) ([]:List Int)).holds w:=fun w=>zcy _ _ _
 conv=>whnf
 refine zad (fun h1=>?_) (fun h1=>?_)
 ·repeat' ((conv=>whnf);first|apply RetC.mk|refine rgO ?_|refine ixO ?_|(first|apply brD|apply zad|apply brN|apply brI)<;>(intro))
  exact ⟨⟨none,0,[],false,rfl,by rw [zkL (by omega)];rfl,nilN _,fun g hg=>by cases hg⟩,hS.ext⟩
 have hfn:f.length=n:=by omega
 have hS:=hS.add (zaj (e:=3) (enc:=zcw) (sz:=1) (v:=.slice none 0 0) (xs:=[])) (nilN _) (by simp [zaf,own,Value.ownBlock]) (by simp [zaf,own,Value.ownBlock]);(conv=>whnf)
 refine zaL tabOk (fun σ w' q=>∃ (k:Nat) (a':Option Addr) (d:Nat) (xs:List Int),σ=[(17,.int .i64 (k:Int)),(16,.int .i64 (n:Int)),(15,.slice a n c),(4,.slice a' k d),(0,.string (bs f))]∧q=n - k∧k≤n∧xs.length=k∧zco f ws=(zco (f.drop k) (ws.drop k)).map (fun l=>xs++l)∧St w No w' [zaf 3 1 zcw (.slice a' k d) xs])
  (σ':=[(17,.int .i64 ((0:Nat):Int)),(16,.int .i64 (n:Int)),(15,.slice a n c),(4,.slice none 0 0),(0,.string (bs f))]) (n:=n) ⟨rfl,rfl,rfl,rfl,rfl,trivial⟩ ⟨0,none,0,[],rfl,rfl,Nat.zero_le _,rfl,by simp,hS⟩ ?_
 clear hS;rintro _ w1 q ⟨k,a',d,xs,rfl,rfl,hk,hxs,hi,hS⟩;(conv=>whnf);refine brD (fun h3=>?_) (fun h3=>?_)
 ·obtain ⟨b0,o0,t,hat,_,rfl,_,hc⟩:=hx.at (k:=k) (by omega);obtain ⟨ch,hch⟩:∃ x,f[k]?=some x:=⟨_,List.getElem?_eq_getElem (by omega)⟩;have hst:=zqX hch hat;(conv=>whnf);refine ixO ?_;(conv=>whnf);refine hS.ldr (hc 0 _ rfl) id ?_;(conv=>whnf);refine (zm8 t _ (hws t (List.mem_of_getElem? hat)) (hV.no hS.ext) (ht.no hS.ext)).mono ?_;rintro v w2 ⟨⟨x,j,rfl,hj,i1,i2⟩,hx'⟩;replace hS:=hS.no hx';cases j with
  | false =>
   have hneg:zbD t 5 < 0:=Int.not_le.1 fun h=>(by cases i1.2 h)
   rw [if_pos (.inl hneg)] at hst;repeat' ((conv=>whnf);first|apply RetC.mk|refine rgO ?_|refine ixO ?_|(first|apply brD|apply zad|apply brN|apply brI)<;>(intro))
   exact ⟨⟨none,0,[],false,rfl,by rw [hi,hst];rfl,nilN _,fun g hg=>by cases hg⟩,hS.ext⟩
  | true =>
   have h0:=i1.1 rfl;obtain rfl:=i2 h0;(conv=>whnf);refine zsz (j:=k) Tryz.underlying9 rfl hch ?_;(conv=>whnf);refine eqC ?_
   have hcc:((ch.toNat:Int) == 115)=decide (ch=115):=by
    rw [Bool.eq_iff_iff,beq_iff_eq,decide_eq_true_iff];exact ⟨fun h=>UInt8.toNat_inj.1 (by show ch.toNat=115;omega),fun h=>by rw [h];rfl⟩
   rw [hcc]
   have bad:ch=115→zbD t 5 > 1→zco f ws=none:=fun e1 e2=>by
    rw [if_pos (.inr ⟨e1,e2⟩)] at hst;rw [hi,hst];rfl
   have good:¬ (ch=115∧zbD t 5 > 1)→zco f ws=(zco (f.drop (k+1)) (ws.drop (k+1))).map (fun l=>(xs++[zbD t 5])++l):=fun e=>by
    rw [if_neg (fun h=>h.elim (fun h=>by omega) e)] at hst;rw [hi,hst,Option.map_map];congr 1
    funext l
    simp
   have step:∀ {Q:Prop},((zco f ws=(zco (f.drop (k+1)) (ws.drop (k+1))).map (fun l=>(xs++[zbD t 5])++l))→Q)→¬ (ch=115∧zbD t 5 > 1)→Q:=fun hq e=>hq (good e)
   clear good hst hi;(conv=>whnf);refine brD (fun h5=>?_) (fun h5=>?_)
   ·(conv=>whnf)
    refine brD (fun h6=>?_) (fun h6=>?_)
    ·repeat' ((conv=>whnf);first|apply RetC.mk|refine rgO ?_|refine ixO ?_|(first|apply brD|apply zad|apply brN|apply brI)<;>(intro))
     exact ⟨⟨none,0,[],false,rfl,by rw [bad h5 h6];rfl,nilN _,fun g hg=>by cases hg⟩,hS.ext⟩
    ·refine step (fun hi=>?_) (fun h=>h6 h.2);(conv=>whnf);refine hS.lit (cs:=zcw (zbD t 5)) Tryz.underlying47 (sz:=1) (by kernel_rfl) (z:=.int .i64 0) (by kernel_rfl) rfl rfl (by rfl) (fun bl w' hbl hS=>?_);have hy:Slc w' 1 zcw (fun _=>True) (some ⟨bl,0,none⟩) 1 [zbD t 5]:=Slc.of_blk zt1 (hS.blk 1 rfl) rfl (by decide) (fun _ _=>trivial) rfl;(conv=>whnf);refine hS.appS zt1 0 Tryz.underlying47 (bytes:=8) (by kernel_rfl) (z:=.int .i64 0) (by kernel_rfl) rfl rfl hy (by unfold maxLen;omega) (by omega) (fun a2 c2 w' hS=>?_);rw [hxs] at hS ⊢;replace hS:St w No w' [zaf 3 1 zcw (.slice a2 (k+1) c2) (xs++[zbD t 5]),blk bl 3 (zcw (zbD t 5))]:=hS;replace hS:=hS.keep 1;(conv=>whnf);refine rgO ?_;(conv=>whnf);refine LoopE.mk ⟨_,[(17,.int .i64 ((k+1:Nat):Int)),(16,_),(15,_),(4,_),(0,_)],?_,⟨rfl,rfl,rfl,rfl,rfl,trivial⟩,⟨k+1,a2,c2,xs++[zbD t 5],rfl,rfl,by omega,by rw [List.length_append,hxs];rfl,hi,hS⟩⟩;omega
   ·refine step (fun hi=>?_) (fun h=>h5 h.1);(conv=>whnf);refine hS.lit (cs:=zcw (zbD t 5)) Tryz.underlying47 (sz:=1) (by kernel_rfl) (z:=.int .i64 0) (by kernel_rfl) rfl rfl (by rfl) (fun bl w' hbl hS=>?_);have hy:Slc w' 1 zcw (fun _=>True) (some ⟨bl,0,none⟩) 1 [zbD t 5]:=Slc.of_blk zt1 (hS.blk 1 rfl) rfl (by decide) (fun _ _=>trivial) rfl;(conv=>whnf);refine hS.appS zt1 0 Tryz.underlying47 (bytes:=8) (by kernel_rfl) (z:=.int .i64 0) (by kernel_rfl) rfl rfl hy (by unfold maxLen;omega) (by omega) (fun a2 c2 w' hS=>?_);rw [hxs] at hS ⊢;replace hS:St w No w' [zaf 3 1 zcw (.slice a2 (k+1) c2) (xs++[zbD t 5]),blk bl 3 (zcw (zbD t 5))]:=hS;replace hS:=hS.keep 1;(conv=>whnf);refine rgO ?_;(conv=>whnf);refine LoopE.mk ⟨_,[(17,.int .i64 ((k+1:Nat):Int)),(16,_),(15,_),(4,_),(0,_)],?_,⟨rfl,rfl,rfl,rfl,rfl,trivial⟩,⟨k+1,a2,c2,xs++[zbD t 5],rfl,rfl,by omega,by rw [List.length_append,hxs];rfl,hi,hS⟩⟩;omega
 ·obtain rfl:k=n:=by omega
  rw [List.drop_of_length_le (by omega),List.drop_of_length_le (by omega)] at hi;repeat' ((conv=>whnf);first|apply RetC.mk|refine rgO ?_|refine ixO ?_|(first|apply brD|apply zad|apply brN|apply brI)<;>(intro))
  rw [← hxs];exact ⟨⟨a',d,xs,true,rfl,by rw [hi];simp [zco],by rw [hxs];exact hS.get 0 rfl,by rw [hxs];exact hS.freshAt 0 rfl⟩,hS.ext⟩
end
structure Sits (E:Nat→Addr) (q m:Nat) (w:World) (X:WorldA) (W:WorldS) (bp:Nat) (a:Option Addr) (n:Nat) (xs:List Int):Prop where
 st:Stands E q m w X W
 ply:Blk w bp 90 [.pointer (some ⟨X.w,0,none⟩)]
 plo:¬ inF (zag X W) bp
 slc:Slc w 1 zcw (fun v=>0≤v∧v≤99999) a n xs
 out:0 < n→∀ b0 o0,a=some ⟨b0,o0,none⟩→¬ inF (zag X W) b0
section
variable {w w' : World} {X : WorldA} {W : WorldS} {E : Nat → Addr} {q m bp n c : Nat} {a : Option Addr} {xs : List Int}
theorem Sits.cell (h:Sits E q m w X W bp a n xs):w.cell? ⟨bp,0,none⟩=some (.pointer (some ⟨X.w,0,none⟩)):=h.ply.cell 0
theorem Sits.at0 (h:Sits E q m w X W bp a n xs) {k:Nat}(hk:k < n):∃ b0 o0 x,a=some ⟨b0,o0,none⟩∧xs[k]?=some x∧(0≤x∧x≤99999)∧¬ inF (zag X W) b0∧w.cell? ⟨b0,o0+k * 1,none⟩=some (.int .i64 x):=by
 obtain ⟨b0,o0,x,hat,hg,ha,_,hc⟩:=h.slc.at hk;exact ⟨b0,o0,x,ha,hat,hg,h.out (by omega) b0 o0 ha,hc.one 0 rfl⟩
theorem zuH (h:Sits E q m w X W bp a 1 xs):CallC Tryz.prog 139 #[.pointer (some ⟨bp,0,none⟩),.slice a 1 c] w (zr1 E w X W (W.deliver (at0 xs 0))):=by
 obtain ⟨b0,o0,x0,rfl,hat,hg,ho,hc⟩:=h.at0 (k:=0) (by omega);rw [zbi hat];have hplo:=h.plo;refine zaa tabOk Tryz.func139 (by kernel_rfl) rfl Tryz.ntmps139 (lbO rfl) ?_;have hS:=St.start w No;(conv=>whnf)
 (refine zah tabOk mixed [] (inF (zag X W)) [0,1,2,3,4,5,6,7,8] (by kernel_rfl) ?_;rintro w1 rfl;replace hS:=hS.drew)
 conv=>whnf
 refine Ev.ldFc h.cell hplo ?_;(conv=>whnf);refine ixO ?_;(conv=>whnf);refine Ev.ldFc hc ho ?_;(conv=>whnf);refine (zhb x0 (h.st.no (Ext.drawn _ _ _))).mono ?_;rintro v w2 ⟨rfl,X',hw,hk⟩;refine KeepC.mk hk.ext ?_;repeat' ((conv=>whnf);first|apply RetC.mk|refine rgO ?_|refine ixO ?_|(first|apply brD|apply zad|apply brN|apply brI)<;>(intro))
 exact ⟨rfl,X',hw,(Turns.of_no h.st.has (Ext.drawn _ _ _)).trans hk⟩
theorem zr5 (h:Sits E q m w X W bp a 1 xs):CallC Tryz.prog 141 #[.pointer (some ⟨bp,0,none⟩),.slice a 1 c] w (zr1 E w X W (W.drop (at0 xs 0))):=by
 obtain ⟨b0,o0,x0,rfl,hat,hg,ho,hc⟩:=h.at0 (k:=0) (by omega);rw [zbi hat];have hplo:=h.plo;refine zaa tabOk Tryz.func141 (by kernel_rfl) rfl Tryz.ntmps141 (lbO rfl) ?_;have hS:=St.start w No;(conv=>whnf)
 (refine zah tabOk mixed [] (inF (zag X W)) [0,1,2,3,4,5,6,7,8] (by kernel_rfl) ?_;rintro w1 rfl;replace hS:=hS.drew)
 conv=>whnf
 refine Ev.ldFc h.cell hplo ?_;(conv=>whnf);refine ixO ?_;(conv=>whnf);refine Ev.ldFc hc ho ?_;(conv=>whnf);refine (zqn x0 (h.st.no (Ext.drawn _ _ _))).mono ?_;rintro v w2 ⟨rfl,X',hw,hk⟩;refine KeepC.mk hk.ext ?_;repeat' ((conv=>whnf);first|apply RetC.mk|refine rgO ?_|refine ixO ?_|(first|apply brD|apply zad|apply brN|apply brI)<;>(intro))
 exact ⟨rfl,X',hw,(Turns.of_no h.st.has (Ext.drawn _ _ _)).trans hk⟩
theorem zpR (h:Sits E q m w X W bp a 1 xs):CallC Tryz.prog 143 #[.pointer (some ⟨bp,0,none⟩),.slice a 1 c] w (zr1 E w X W (W.twice (at0 xs 0))):=by
 obtain ⟨b0,o0,x0,rfl,hat,hg,ho,hc⟩:=h.at0 (k:=0) (by omega);rw [zbi hat];have hplo:=h.plo;refine zaa tabOk Tryz.func143 (by kernel_rfl) rfl Tryz.ntmps143 (lbO rfl) ?_;have hS:=St.start w No;(conv=>whnf)
 (refine zah tabOk mixed [] (inF (zag X W)) [0,1,2,3,4,5,6,7,8] (by kernel_rfl) ?_;rintro w1 rfl;replace hS:=hS.drew)
 conv=>whnf
 refine Ev.ldFc h.cell hplo ?_;(conv=>whnf);refine ixO ?_;(conv=>whnf);refine Ev.ldFc hc ho ?_;(conv=>whnf);refine (zpt x0 (h.st.no (Ext.drawn _ _ _))).mono ?_;rintro v w2 ⟨rfl,X',hw,hk⟩;refine KeepC.mk hk.ext ?_;repeat' ((conv=>whnf);first|apply RetC.mk|refine rgO ?_|refine ixO ?_|(first|apply brD|apply zad|apply brN|apply brI)<;>(intro))
 exact ⟨rfl,X',hw,(Turns.of_no h.st.has (Ext.drawn _ _ _)).trans hk⟩
theorem zr3 (h:Sits E q m w X W bp a 1 xs):CallC Tryz.prog 145 #[.pointer (some ⟨bp,0,none⟩),.slice a 1 c] w (zr1 E w X W (W.down (at0 xs 0))):=by
 obtain ⟨b0,o0,x0,rfl,hat,hg,ho,hc⟩:=h.at0 (k:=0) (by omega);rw [zbi hat];have hplo:=h.plo;refine zaa tabOk Tryz.func145 (by kernel_rfl) rfl Tryz.ntmps145 (lbO rfl) ?_;have hS:=St.start w No;(conv=>whnf)
 (refine zah tabOk mixed [] (inF (zag X W)) [0,1,2,3,4,5,6,7,8] (by kernel_rfl) ?_;rintro w1 rfl;replace hS:=hS.drew)
 conv=>whnf
 refine Ev.ldFc h.cell hplo ?_;(conv=>whnf);refine ixO ?_;(conv=>whnf);refine Ev.ldFc hc ho ?_;(conv=>whnf);refine (zrA x0 (h.st.no (Ext.drawn _ _ _))).mono ?_;rintro v w2 ⟨rfl,hk⟩;refine KeepC.mk hk.ext ?_;repeat' ((conv=>whnf);first|apply RetC.mk|refine rgO ?_|refine ixO ?_|(first|apply brD|apply zad|apply brN|apply brI)<;>(intro))
 exact ⟨rfl,X,rfl,(Turns.of_no h.st.has (Ext.drawn _ _ _)).trans hk⟩
theorem zuN (h:Sits E q m w X W bp a 1 xs):CallC Tryz.prog 147 #[.pointer (some ⟨bp,0,none⟩),.slice a 1 c] w (zr1 E w X W (W.up (at0 xs 0))):=by
 obtain ⟨b0,o0,x0,rfl,hat,hg,ho,hc⟩:=h.at0 (k:=0) (by omega);rw [zbi hat];have hplo:=h.plo;refine zaa tabOk Tryz.func147 (by kernel_rfl) rfl Tryz.ntmps147 (lbO rfl) ?_;have hS:=St.start w No;(conv=>whnf)
 (refine zah tabOk mixed [] (inF (zag X W)) [0,1,2,3,4,5,6,7,8] (by kernel_rfl) ?_;rintro w1 rfl;replace hS:=hS.drew)
 conv=>whnf
 refine Ev.ldFc h.cell hplo ?_;(conv=>whnf);refine ixO ?_;(conv=>whnf);refine Ev.ldFc hc ho ?_;(conv=>whnf);refine (zrS x0 (h.st.no (Ext.drawn _ _ _))).mono ?_;rintro v w2 ⟨rfl,X',hw,hk⟩;refine KeepC.mk hk.ext ?_;repeat' ((conv=>whnf);first|apply RetC.mk|refine rgO ?_|refine ixO ?_|(first|apply brD|apply zad|apply brN|apply brI)<;>(intro))
 exact ⟨rfl,X',hw,(Turns.of_no h.st.has (Ext.drawn _ _ _)).trans hk⟩
theorem zrr (h:Sits E q m w X W bp a 2 xs) (hm:m+34 * (at0 xs 1).toNat≤40000000):CallC Tryz.prog 137 #[.pointer (some ⟨bp,0,none⟩),.slice a 2 c] w (zr1 E w X W (W.ticks (at0 xs 0) (at0 xs 1).toNat)):=by
 obtain ⟨b0,o0,x0,rfl,hat,hg,ho,hc⟩:=h.at0 (k:=0) (by omega);obtain ⟨b1,o1,x1,hae,hat1,hg1,_,hc1⟩:=h.at0 (k:=1) (by omega);cases hae;rw [zbi hat,zbi hat1];have hplo:=h.plo;obtain ⟨k1,rfl⟩:∃ k:Nat,x1=k:=⟨x1.toNat,by omega⟩;refine zaa tabOk Tryz.func137 (by kernel_rfl) rfl Tryz.ntmps137 (lbO rfl) ?_;have hS:=St.start w No;(conv=>whnf)
 (refine zah tabOk mixed [] (inF (zag X W)) [0,1,2,3,4,5,6,7,8,9,10,11] (by kernel_rfl) ?_;rintro w1 rfl;replace hS:=hS.drew)
 conv=>whnf
 refine Ev.ldFc h.cell hplo ?_;(conv=>whnf);refine ixO ?_;(conv=>whnf);refine Ev.ldFc hc ho ?_;(conv=>whnf);refine ixO ?_;(conv=>whnf);refine Ev.ldFc hc1 ho ?_;(conv=>whnf);refine (zoP x0 k1 (h.st.no (Ext.drawn _ _ _)) (by rw [zbi hat1] at hm;simpa using hm)).mono ?_;rintro v w2 ⟨rfl,X',hw,hk⟩;refine KeepC.mk hk.ext ?_;repeat' ((conv=>whnf);first|apply RetC.mk|refine rgO ?_|refine ixO ?_|(first|apply brD|apply zad|apply brN|apply brI)<;>(intro))
 exact ⟨rfl,X',hw,(Turns.of_no h.st.has (Ext.drawn _ _ _)).trans hk⟩
theorem zsG (h:Sits E q m w X W bp a 2 xs):CallC Tryz.prog 149 #[.pointer (some ⟨bp,0,none⟩),.slice a 2 c] w (zr1 E w X W (W.cut (at0 xs 0) (at0 xs 1))):=by
 obtain ⟨b0,o0,x0,rfl,hat,hg,ho,hc⟩:=h.at0 (k:=0) (by omega);obtain ⟨b1,o1,x1,hae,hat1,hg1,_,hc1⟩:=h.at0 (k:=1) (by omega);cases hae;rw [zbi hat,zbi hat1];have hplo:=h.plo;obtain ⟨k1,rfl⟩:∃ k:Nat,x1=k:=⟨x1.toNat,by omega⟩;refine zaa tabOk Tryz.func149 (by kernel_rfl) rfl Tryz.ntmps149 (lbO rfl) ?_;have hS:=St.start w No;(conv=>whnf)
 (refine zah tabOk mixed [] (inF (zag X W)) [0,1,2,3,4,5,6,7,8,9,10,11] (by kernel_rfl) ?_;rintro w1 rfl;replace hS:=hS.drew)
 conv=>whnf
 refine Ev.ldFc h.cell hplo ?_;(conv=>whnf);refine ixO ?_;(conv=>whnf);refine Ev.ldFc hc ho ?_;(conv=>whnf);refine ixO ?_;(conv=>whnf);refine Ev.ldFc hc1 ho ?_;(conv=>whnf);refine (zsD x0 k1 (h.st.no (Ext.drawn _ _ _))).mono ?_;rintro v w2 ⟨rfl,hk⟩;refine KeepC.mk hk.ext ?_;repeat' ((conv=>whnf);first|apply RetC.mk|refine rgO ?_|refine ixO ?_|(first|apply brD|apply zad|apply brN|apply brI)<;>(intro))
 exact ⟨rfl,X,rfl,(Turns.of_no h.st.has (Ext.drawn _ _ _)).trans hk⟩
def Cmd.act (c:Cmd) (xs:List Int) (W:WorldS):Nat × WorldS:=match c with
 | .tick=>W.ticks (at0 xs 0) (at0 xs 1).toNat
 | .go=>W.deliver (at0 xs 0)
 | .lose=>W.drop (at0 xs 0)
 | .twice=>W.twice (at0 xs 0)
 | .down=>W.down (at0 xs 0)
 | .up=>W.up (at0 xs 0)
 | _=>W.cut (at0 xs 0) (at0 xs 1)
theorem ztA {d:Cmd}(hd:d∈zeK) (h:Sits E q m w X W bp a n xs) (hn:n=d.form.length) (hm:d = .tick→m+34 * (at0 xs 1).toNat≤40000000):CallC Tryz.prog (zjy d) #[.pointer (some ⟨bp,0,none⟩),.slice a n c] w (zr1 E w X W (d.act xs W)):=by
 subst hn;simp only [zeK,List.mem_cons,List.not_mem_nil,or_false] at hd;rcases hd with rfl|rfl|rfl|rfl|rfl|rfl|rfl
 ·exact zrr h (hm rfl)
 ·exact zuH h
 ·exact zr5 h
 ·exact zpR h
 ·exact zr3 h
 ·exact zuN h
 ·exact zsG h
theorem zuP (e:Value) (w:World):CallC Tryz.prog 232 #[e] w fun v w'=>v = .tuple #[.string (bs tOk),e]∧w=w':=by
 refine zaa tabOk Tryz.func232 (by kernel_rfl) rfl Tryz.ntmps232 (lbO rfl) ?_;repeat' ((conv=>whnf);first|apply RetC.mk|refine rgO ?_|refine ixO ?_|(first|apply brD|apply zad|apply brN|apply brI)<;>(intro))
 exact ⟨rfl,rfl⟩
abbrev zfV (E:Nat→Addr) (w:World) (X:WorldA) (W:WorldS) (r:(List UInt8 × Nat) × WorldS) (v:Value) (w':World):Prop:=v = .tuple #[.string (bs r.1.1),zc9 E r.1.2]∧∃ X',X'.w=X.w∧Turns w w' (zag X W) (zag X' r.2)
theorem Cmd.does_act {d:Cmd}(hd:d∈zeK) (xs:List Int) (W:WorldS):d.does xs W=((tOk,(d.act xs W).1),(d.act xs W).2):=by
 simp only [zeK,List.mem_cons,List.not_mem_nil,or_false] at hd;rcases hd with rfl|rfl|rfl|rfl|rfl|rfl|rfl<;>rfl
theorem zrd {d:Cmd}{bf:Nat}(hd:d∈zeK) (hf:Blk w bf 273 [fnV (zjy d) []]) (h:Sits E q m w X W bp a n xs) (hn:n=d.form.length) (hm:d = .tick→m+34 * (at0 xs 1).toNat≤40000000) :
  CallC Tryz.prog 231 #[.pointer (some ⟨bp,0,none⟩),.slice a n c,.pointer (some ⟨bf,0,none⟩)] w (zfV E w X W (d.does xs W)):=by
 rw [Cmd.does_act hd];refine zaa tabOk Tryz.func231 (by kernel_rfl) rfl Tryz.ntmps231 (lbO rfl) ?_;(conv=>whnf);refine ldc (hf.cell 0) ?_;(conv=>whnf);refine (ztA hd h hn hm).mono ?_;rintro v w2 ⟨rfl,X',hw,hk⟩;(conv=>whnf);refine (zuP _ _).mono ?_;rintro v w3 ⟨rfl,rfl⟩;repeat' ((conv=>whnf);first|apply RetC.mk|refine rgO ?_|refine ixO ?_|(first|apply brD|apply zad|apply brN|apply brI)<;>(intro))
 exact ⟨rfl,X',hw,hk⟩
end
theorem zgq {n:Nat}(sep:List UInt8):∀ {xs:List (List UInt8)},(∀ x∈xs,x.length≤n)→(Lib.joinTail sep xs).length≤xs.length * (n+sep.length)
 | [],_=>Nat.le_of_eq (Nat.zero_mul _).symm
 | x::xs,h=>by
  have h1:=h x List.mem_cons_self;have h2:=zgq sep (xs:=xs) fun y hy=>h y (List.mem_cons_of_mem _ hy)
  have e:Lib.joinTail sep (x::xs)=sep++x++Lib.joinTail sep xs:=rfl;rw [e,List.length_append,List.length_append,List.length_cons,Nat.succ_mul];omega
theorem zjW {n:Nat}{sep:List UInt8}{xs:List (List UInt8)}(h:∀ x∈xs,x.length≤n):(Lib.join xs sep).length≤xs.length * (n+sep.length):=by
 cases xs with
 | nil=>exact Nat.le_of_eq (Nat.zero_mul _).symm
 | cons x xs =>
  have h1:=h x List.mem_cons_self;have h2:=zgq sep (xs:=xs) fun y hy=>h y (List.mem_cons_of_mem _ hy)
  rw [Lib.join_cons,List.length_append,List.length_cons,Nat.succ_mul];omega
theorem zlp {xs:List CellS}{k:Nat}{x:CellS}(h:xs[k]?=some x):zaI (xs.take (k+1))=zaI (xs.take k)+if x.f.proto≠0 then 1 else 0:=by
 unfold zaI;rw [List.take_add_one,h,List.filter_append,List.length_append];by_cases hx:x.f.proto=0<;>simp [hx]
theorem zgP (xs:List CellS):zaI xs≤xs.length:=List.length_filter_le _ _
def zva (e:Int × Int):Prop:=I64 e.1∧I64 e.2
theorem zmf {e:Int × Int}(h:zva e):(zex e).length≤43:=by
 have e1:=Lib.itoa_length_le e.1 h.1.1 h.1.2;have e2:=Lib.itoa_length_le e.2 h.2.1 h.2.2;unfold zex;rw [List.length_append,List.length_append,List.length_singleton];omega
section
variable {w w' : World} {X : WorldA} {W : WorldS} {E : Nat → Addr} {q m bp n c : Nat} {a : Option Addr} {xs : List Int}
theorem zke {G:CellS→Prop}{cs:List CellS}(hx:Slc w 10 zac G a n cs) (hn:n≤1000):CallC Tryz.prog 162 #[.slice a n c] w fun v w'=>v = .int .i64 (zaI cs:Nat)∧Ext No w w':=by
 have hl:=hx.len;refine zaa tabOk Tryz.func162 (by kernel_rfl) rfl Tryz.ntmps162 (lbO rfl) ?_;have hS:=St.start w No;(conv=>whnf)
 refine zaL tabOk (fun σ w' q=>∃ k:Nat,σ=[(8,.int .i64 (k:Int)),(7,.int .i64 n),(6,.slice a n c),(3,.int .i64 ((zaI (cs.take k):Nat):Int))]∧q=n - k∧k≤n∧St w No w' [])
  (σ':=[(8,.int .i64 ((0:Nat):Int)),(7,.int .i64 n),(6,.slice a n c),(3,.int .i64 ((zaI (cs.take 0):Nat):Int))]) (n:=n) ⟨rfl,rfl,rfl,rfl,trivial⟩ ⟨0,rfl,rfl,Nat.zero_le _,hS⟩ ?_
 clear hS;rintro _ w1 q ⟨k,rfl,rfl,hk,hS⟩;(conv=>whnf);refine brD (fun h3=>?_) (fun h3=>?_)
 ·obtain ⟨b0,o0,x,hxk,hgx,rfl,_,hc⟩:=hx.at (k:=k) (by omega);have hst:=zlp hxk;have hle:=zgP (cs.take k);rw [List.length_take] at hle;(conv=>whnf);refine ixO ?_;(conv=>whnf);refine hS.lar (l:=zac x) rfl hc id ?_;(conv=>whnf);refine hS.new (fun bx w' hb hS=>?_);(conv=>whnf);refine hS.st 0 rfl (lbO rfl) rfl (fun w' hS=>?_);replace hS:St w No w' [blk bx 209 (zac x)]:=hS;(conv=>whnf);refine hS.ld 0 rfl rfl ?_;(conv=>whnf);refine brN (fun h4=>?_) (fun h4=>?_)
  ·rw [if_pos (by simpa using h4)] at hst;(conv=>whnf);refine rgO ?_;(conv=>whnf);refine rgO ?_;(conv=>whnf);refine LoopE.mk ⟨_,[(8,.int .i64 ((k+1:Nat):Int)),(7,_),(6,_),(3,.int .i64 ((zaI (cs.take k)+1:Nat):Int))],?_,⟨rfl,rfl,rfl,rfl,trivial⟩,⟨k+1,by rw [hst],rfl,by omega,hS.keep 0⟩⟩;omega
  ·rw [if_neg (by simpa using h4)] at hst;(conv=>whnf);refine rgO ?_;(conv=>whnf);refine LoopE.mk ⟨_,[(8,.int .i64 ((k+1:Nat):Int)),(7,_),(6,_),(3,_)],?_,⟨rfl,rfl,rfl,rfl,trivial⟩,⟨k+1,by rw [hst];rfl,rfl,by omega,hS.keep 0⟩⟩;omega
 ·obtain rfl:k=n:=by omega
  rw [List.take_of_length_le (by omega)];repeat' ((conv=>whnf);first|apply RetC.mk|refine rgO ?_|refine ixO ?_|(first|apply brD|apply zad|apply brN|apply brI)<;>(intro))
  exact ⟨rfl,hS.ext⟩
theorem zn3 {es:List (Int × Int)}(hx:Slc w 2 zbG zva a n es) (hn:n≤1000) (ht:Pow10 w):CallC Tryz.prog 171 #[.slice a n c] w fun v w'=>v = .string (bs (zdC es))∧Ext No w w':=by
 have hl:=hx.len;have hgood:=hx.good;refine zaa tabOk Tryz.func171 (by kernel_rfl) rfl Tryz.ntmps171 (lbO rfl) ?_;have hS:=(St.start w No).addNil 9 1 zbe;(conv=>whnf)
 refine zaL tabOk (fun σ w' q=>∃ (k:Nat) (a':Option Addr) (c':Nat),σ=[(8,.int .i64 (k:Int)),(7,.int .i64 n),(6,.slice a n c),(3,.slice a' k c')]∧q=n - k∧k≤n∧(k=0→a'=none)∧St w No w' [zaf 9 1 zbe (.slice a' k c') ((es.map zex).take k)])
  (σ':=[(8,.int .i64 ((0:Nat):Int)),(7,.int .i64 n),(6,.slice a n c),(3,.slice none 0 0)]) (n:=n) ⟨rfl,rfl,rfl,rfl,trivial⟩ ⟨0,none,0,rfl,rfl,Nat.zero_le _,fun _=>rfl,hS⟩ ?_
 clear hS;rintro _ w1 q ⟨k,a',c',rfl,rfl,hk,ha,hS⟩;(conv=>whnf);refine brD (fun h3=>?_) (fun h3=>?_)
 ·obtain ⟨b0,o0,x,hxk,hgx,rfl,hb0,hc⟩:=hx.at (k:=k) (by omega);have hT:¬ w.heap.size≤b0:=Nat.not_le.2 hb0;have hlk:((es.map zex).take k).length=k:=by rw [List.length_take,List.length_map];omega
  have hst:(es.map zex).take (k+1)=(es.map zex).take k++[zex x]:=by rw [List.take_add_one,List.getElem?_map,hxk];rfl
  have e1:=Lib.itoa_length_le x.1 hgx.1.1 hgx.1.2;have e2:=Lib.itoa_length_le x.2 hgx.2.1 hgx.2.2;(conv=>whnf);refine ixO ?_;(conv=>whnf);refine hS.lar (l:=zbG x) rfl hc id ?_;(conv=>whnf);refine hS.new (fun bx w' hb hS=>?_);(conv=>whnf);refine hS.st 1 rfl (lbO rfl) rfl (fun w' hS=>?_);replace hS:St w No w' [zaf 9 1 zbe (.slice a' k c') ((es.map zex).take k),blk bx 157 (zbG x)]:=hS;have hbx:¬ (Value.slice a' k c').ownBlock=some bx:=fun he=>hS.apartAt 1 0 rfl rfl (by decide) bx (List.mem_singleton.2 rfl) (by simp [zaf,own,he])
  conv=>whnf
  (refine zah tabOk mixed [] (fun b=>(Value.slice a' k c').ownBlock=some b) [0,1,2,5,6,3,4,7,8,9,10,11] (by kernel_rfl) ?_;rintro w1 rfl;replace hS:=hS.drew)
  have hK:=hS.ref (fun b=>(Value.slice a' k c').ownBlock=some b);(conv=>whnf);refine hS.ldF 1 rfl rfl hbx ?_;(conv=>whnf);refine hS.ldF 1 rfl rfl hbx ?_;(conv=>whnf);refine (zb9 x.1 hgx.1.1 hgx.1.2 _ (ht.no hS.ext)).mono ?_;rintro v w2 ⟨rfl,hx'⟩;replace hS:=hS.no hx';replace hK:=hK.trans hx'.of_no;refine KeepC.mk hK ?_;clear hx';(conv=>whnf);refine zbp (b:=[32]) (by simp;omega) ?_;(conv=>whnf);refine (zb9 x.2 hgx.2.1 hgx.2.2 _ (ht.no hS.ext)).mono ?_;rintro v w2 ⟨rfl,hx'⟩;replace hS:=hS.no hx';replace hK:=hK.trans hx'.of_no;refine KeepC.mk hK ?_;clear hx';(conv=>whnf);refine zbp (by simp;omega) ?_;(conv=>whnf);refine hS.litX Tryz.underlying22 (sz:=1) (by kernel_rfl) (z:=.string (bs [])) (by kernel_rfl) rfl rfl (cs:=zbe (zex x)) (by rfl) (fun b9 w3 hb9 hx3 hS=>?_);replace hK:=hK.trans hx3.of_no;refine KeepC.mk hK ?_;clear hx3;(conv=>whnf);refine hS.appX zfP 0 (ys:=[zex x]) (G:=fun _=>True) Tryz.underlying22 (bytes:=16) (by kernel_rfl) (z:=.string (bs [])) (by kernel_rfl) rfl rfl (Slc.of_blk zfP (hS.blk 2 rfl) rfl (by simp) (fun _ _=>trivial) rfl) (by rw [hlk];unfold maxLen;omega) (by rw [hlk];omega) (fun a2 c2 w4 hx4 hS=>?_);replace hK:=hK.trans hx4;refine KeepC.mk hK ?_;clear hx4 hK;rw [hlk] at hS ⊢;replace hS:=hS.keep 1;replace hS:St w No w4 [zaf 9 1 zbe (.slice a2 (k+1) c2) ((es.map zex).take (k+1))]:=by rw [hst];exact hS
  (conv=>whnf);refine rgO ?_;(conv=>whnf);refine LoopE.mk ⟨_,[(8,.int .i64 ((k+1:Nat):Int)),(7,_),(6,_),(3,_)],?_,⟨rfl,rfl,rfl,rfl,trivial⟩,⟨k+1,a2,c2,rfl,rfl,by omega,fun h=>absurd h (by omega),hS⟩⟩;omega
 ·obtain rfl:k=n:=by omega
  rw [List.take_of_length_le (by rw [List.length_map];omega)] at hS;cases es with
  | nil =>
   obtain rfl:k=0:=hl.symm;obtain rfl:=ha rfl;repeat' ((conv=>whnf);first|apply RetC.mk|refine rgO ?_|refine ixO ?_|(first|apply brD|apply zad|apply brN|apply brI)<;>(intro))
   exact ⟨rfl,hS.ext⟩
  | cons x es =>
   obtain ⟨b,rfl⟩:=zkd (hS.get 0 rfl) (by simp);have hcap:=zmQ (hS.get 0 rfl)
   have hcells:CellsAt w1 b 0 (((x::es).map zex).map fun l=>.string (bs l)):=by
    have:=zgY zfP (hS.get 0 rfl)
    rwa [ze0] at this
   have hjl:=zjW (n:=43) (sep:=[44,32]) (xs:=(x::es).map zex) fun y hy=>by
    obtain ⟨e,he,rfl⟩:=List.mem_map.1 hy;exact zmf (hgood e he)
   have hml:((x::es).map zex).length=k:=by rw [List.length_map];exact hl
   have hk0:0 < k:=by rw [← hl];exact Nat.succ_pos _
   rw [hml] at hjl;have h43:k * (43+[44,32].length)≤1000 * 45:=Nat.mul_le_mul hn (Nat.le_refl _);(conv=>whnf);refine (zlg ((x::es).map zex) [44,32] _ hml hcells hk0 hcap (by omega) (by omega)).mono ?_;rintro v w2 ⟨rfl,hx'⟩;replace hS:=hS.no hx';repeat' ((conv=>whnf);first|apply RetC.mk|refine rgO ?_|refine ixO ?_|(first|apply brD|apply zad|apply brN|apply brI)<;>(intro))
   exact ⟨rfl,hS.ext⟩
end
section
variable {w w' : World} {X : WorldA} {W : WorldS} {E : Nat → Addr} {q m bp n c : Nat} {a : Option Addr} {xs : List Int}
theorem Stands.node (h:Stands E q m w X W) {x:Int}{N:NodeS}(hx:x=0∨x=1) (hN:(W.side x).node=some N):Has w (zaC (X.side x).A N)∧NOk m N:=by
 refine ⟨?_,((h.ok.side hx).node N hN).1⟩;have h1:=(h.half hx).1;rw [zb2 hN] at h1;have h2:Has w (zaC (X.side x).A N++[blk (X.side x).A.b 253 (zaE (W.side x).byt)]):=h1.right;exact h2.left
def zuA (w:World) (X:WorldA) (W:WorldS) (m:Nat) (f:FuncId) (fN:NodeS→Int):Prop:=∀ (x:Int) (N:NodeS) (w':World),Ext No w w'→(W.side x).node=some N→Has w' (zaC (X.side x).A N)→NOk m N→CallC Tryz.prog f #[.pointer (some ⟨(X.side x).A.n,0,none⟩)] w' fun v w''=>v = .int .i64 (fN N)∧Ext No w' w''
theorem zn9:zuA w X W m 161 (fun N=>(zaI N.tab.cells:Nat)):=by
 intro x N w' _ _ hH hO;refine zaa tabOk Tryz.func161 (by kernel_rfl) rfl Tryz.ntmps161 (lbO rfl) ?_;have hS:=St.start w' No;(conv=>whnf);refine (zpu hH hO.tab.len).mono ?_;rintro v w2 ⟨a',c',rfl,hx,ho,hf⟩;replace hS:=hS.no hx;(conv=>whnf);refine (zke (zap (G:=fun _=>True) zau ho (fun _ _=>trivial)) (by omega)).mono ?_;rintro v w3 ⟨rfl,hx⟩;replace hS:=hS.no hx;repeat' ((conv=>whnf);first|apply RetC.mk|refine rgO ?_|refine ixO ?_|(first|apply brD|apply zad|apply brN|apply brI)<;>(intro))
 exact ⟨rfl,hS.ext⟩
theorem zlT:zuA w X W m 164 (fun N=>(zaI N.mir.cells:Nat)):=by
 intro x N w' _ _ hH hO;refine zaa tabOk Tryz.func164 (by kernel_rfl) rfl Tryz.ntmps164 (lbO rfl) ?_;have hS:=St.start w' No;(conv=>whnf);refine (znW hH hO.mir).mono ?_;rintro v w2 ⟨a',c',rfl,hx,ho,hf⟩;replace hS:=hS.no hx;(conv=>whnf);refine (zke (zap (G:=fun _=>True) zau ho (fun _ _=>trivial)) (by omega)).mono ?_;rintro v w3 ⟨rfl,hx⟩;replace hS:=hS.no hx;repeat' ((conv=>whnf);first|apply RetC.mk|refine rgO ?_|refine ixO ?_|(first|apply brD|apply zad|apply brN|apply brI)<;>(intro))
 exact ⟨rfl,hS.ext⟩
theorem znd:zuA w X W m 166 (fun N=>N.role.epoch):=by
 intro x N w' _ _ hH hO;refine zaa tabOk Tryz.func166 (by kernel_rfl) rfl Tryz.ntmps166 (lbO rfl) ?_;have hS:=hH.start;(conv=>whnf);refine hS.ld 0 rfl rfl ?_;(conv=>whnf);refine (zbq (hS.blk 1 rfl)).mono ?_;rintro v w2 ⟨rfl,rfl⟩;repeat' ((conv=>whnf);first|apply RetC.mk|refine rgO ?_|refine ixO ?_|(first|apply brD|apply zad|apply brN|apply brI)<;>(intro))
 exact ⟨rfl,Ext.refl _ _⟩
theorem zoj:zuA w X W m 168 (fun N=>(N.cell.li:Nat)):=by
 intro x N w' _ _ hH hO;refine zaa tabOk Tryz.func168 (by kernel_rfl) rfl Tryz.ntmps168 (lbO rfl) ?_;have hS:=St.start w' No;(conv=>whnf);refine (zrc hH).mono ?_;rintro v w2 ⟨rfl,hx⟩;repeat' ((conv=>whnf);first|apply RetC.mk|refine rgO ?_|refine ixO ?_|(first|apply brD|apply zad|apply brN|apply brI)<;>(intro))
 exact ⟨rfl,hx⟩
theorem zgM {f:FuncId}{bf:Nat}{fN:NodeS→Int}(hf:Blk w bf 279 [fnV f []]) (h:Sits E q m w X W bp a 1 xs) (hP:Pow10 w) (hI:∀ N,NOk m N→I64 (fN N)) (hk:zuA w X W m f fN) :
  CallC Tryz.prog 242 #[.pointer (some ⟨bp,0,none⟩),.slice a 1 c,.pointer (some ⟨bf,0,none⟩)] w (zfV E w X W (zbM W (at0 xs 0) fN,W)):=by
 obtain ⟨b0,o0,x0,rfl,hat,hg,ho,hc⟩:=h.at0 (k:=0) (by omega);rw [zbi hat];refine zaa tabOk Tryz.func242 (by kernel_rfl) rfl Tryz.ntmps242 (lbO rfl) ?_;have hS:=St.start w No;(conv=>whnf)
 (refine zah tabOk mixed [] (No) [0,1,2,3,4,5,6,7,8,9,10,11,12] (by kernel_rfl) ?_;rintro w1 rfl;replace hS:=hS.drew)
 conv=>whnf
 refine Ev.ldFc h.cell id ?_;(conv=>whnf);refine ixO ?_;(conv=>whnf);refine Ev.ldFc hc id ?_;(conv=>whnf);refine (zmu x0 (h.st.no (Ext.drawn _ _ _))).mono ?_;rintro v w2 ⟨rfl,hx⟩;refine KeepC.mk hx ?_;have hx2:Ext No w w2:=(Ext.drawn No _ _).trans hx;by_cases hu:W.upErr x0=0
 ·obtain ⟨hn,N,hN⟩:=zcE hu;obtain ⟨hH,hO⟩:=(h.st.no hx2).node hn hN;have hi:=hI N hO
  have hres:zbM W x0 fN=(Lib.itoa (fN N),0):=by
   unfold zbM;rw [hN];exact if_pos hu
  rw [hres,hu,if_pos rfl];(conv=>whnf);refine ldc ((hf.cell 0).trans rfl |> fun e=>hx2.cell e id) ?_;(conv=>whnf);refine (hk x0 N w2 hx2 hN hH hO).mono ?_;rintro v w3 ⟨rfl,hx3⟩;replace hx2:=hx2.trans hx3;(conv=>whnf);refine (zb9 _ hi.1 hi.2 _ (hP.no hx2)).mono ?_;rintro v w4 ⟨rfl,hx4⟩;replace hx2:=hx2.trans hx4;repeat' ((conv=>whnf);first|apply RetC.mk|refine rgO ?_|refine ixO ?_|(first|apply brD|apply zad|apply brN|apply brI)<;>(intro))
  exact ⟨rfl,X,rfl,Turns.of_no h.st.has hx2⟩
 ·have hres:zbM W x0 fN=([],W.upErr x0):=by
   unfold zbM;split
   ·rfl
   ·rw [if_neg hu]
  rw [hres,if_neg hu];obtain ⟨j,hj⟩:∃ j,W.upErr x0=j+1:=⟨W.upErr x0 - 1,by omega⟩;rw [hj];repeat' ((conv=>whnf);first|apply RetC.mk|refine rgO ?_|refine ixO ?_|(first|apply brD|apply zad|apply brN|apply brI)<;>(intro))
  exact ⟨rfl,X,rfl,Turns.of_no h.st.has hx2⟩
theorem zrm (h:Sits E q m w X W bp a n xs) (hP:Pow10 w):CallC Tryz.prog 153 #[.pointer (some ⟨bp,0,none⟩),.slice a n c] w (zfV E w X W ((Lib.itoa (W.fly.length:Nat),0),W)):=by
 have hfl:=h.st.ok.fly;refine zaa tabOk Tryz.func153 (by kernel_rfl) rfl Tryz.ntmps153 (lbO rfl) ?_;(conv=>whnf);refine ldc h.cell ?_;(conv=>whnf);refine (ztn h.st.has).mono ?_;rintro v w2 ⟨rfl,rfl⟩;(conv=>whnf);refine (zb9 _ (by omega) (by omega) _ hP).mono ?_;rintro v w2 ⟨rfl,hx⟩;repeat' ((conv=>whnf);first|apply RetC.mk|refine rgO ?_|refine ixO ?_|(first|apply brD|apply zad|apply brN|apply brI)<;>(intro))
 exact ⟨rfl,X,rfl,Turns.of_no h.st.has hx⟩
theorem zlA (h:Sits E q m w X W bp a n xs) (hE:EpW W) (hP:Pow10 w):CallC Tryz.prog 158 #[.pointer (some ⟨bp,0,none⟩),.slice a n c] w (zfV E w X W ((if W.to < 0 then ze9 else Lib.itoa W.to++[32]++Lib.itoa W.epoch,0),W)):=by
 have hto:=h.st.ok.to;have hep:=hE.sw.i64;have e1:=Lib.itoa_length_le W.to (by omega) (by omega);have e2:=Lib.itoa_length_le W.epoch hep.1 hep.2;refine zaa tabOk Tryz.func158 (by kernel_rfl) rfl Tryz.ntmps158 (lbO rfl) ?_;(conv=>whnf);refine ldc h.cell ?_;(conv=>whnf);refine (znO h.st.has).mono ?_;rintro v w2 ⟨rfl,hx⟩;(conv=>whnf);refine brD (fun h1=>?_) (fun h1=>?_)
 ·rw [if_pos h1];repeat' ((conv=>whnf);first|apply RetC.mk|refine rgO ?_|refine ixO ?_|(first|apply brD|apply zad|apply brN|apply brI)<;>(intro))
  exact ⟨rfl,X,rfl,Turns.of_no h.st.has hx⟩
 ·rw [if_neg h1];(conv=>whnf);refine (zb9 _ (by omega) (by omega) _ (hP.no hx)).mono ?_;rintro v w3 ⟨rfl,hx3⟩;replace hx:=hx.trans hx3;(conv=>whnf);refine zbp (b:=[32]) (by simp;omega) ?_;(conv=>whnf);refine (zb9 _ hep.1 hep.2 _ (hP.no hx)).mono ?_;rintro v w4 ⟨rfl,hx4⟩;replace hx:=hx.trans hx4;(conv=>whnf);refine zbp (by simp;omega) ?_;repeat' ((conv=>whnf);first|apply RetC.mk|refine rgO ?_|refine ixO ?_|(first|apply brD|apply zad|apply brN|apply brI)<;>(intro))
  exact ⟨rfl,X,rfl,Turns.of_no h.st.has hx⟩
theorem zlE (h:Sits E q m w X W bp a n xs) (hE:EpW W) (hP:Pow10 w):CallC Tryz.prog 170 #[.pointer (some ⟨bp,0,none⟩),.slice a n c] w (zfV E w X W ((zdC W.events,0),W)):=by
 refine zaa tabOk Tryz.func170 (by kernel_rfl) rfl Tryz.ntmps170 (lbO rfl) ?_;(conv=>whnf);refine ldc h.cell ?_;(conv=>whnf);refine (znw h.st).mono ?_;rintro v w2 ⟨a',c',rfl,hx,ho,hf⟩;(conv=>whnf);refine (zn3 (zap zkF ho fun e he=>⟨by rcases (hE.ev e he).1 with h|h<;>rw [h]<;>exact ⟨by decide,by decide⟩,(hE.ev e he).2.i64⟩) h.st.ok.events (hP.no hx)).mono ?_;rintro v w3 ⟨rfl,hx3⟩;repeat' ((conv=>whnf);first|apply RetC.mk|refine rgO ?_|refine ixO ?_|(first|apply brD|apply zad|apply brN|apply brI)<;>(intro))
 exact ⟨rfl,X,rfl,Turns.of_no h.st.has (hx.trans hx3)⟩
theorem zlR (h:Sits E q m w X W bp a 1 xs):CallC Tryz.prog 155 #[.pointer (some ⟨bp,0,none⟩),.slice a 1 c] w (zfV E w X W ((zcP W (at0 xs 0),0),W)):=by
 obtain ⟨b0,o0,x0,rfl,hat,hg,ho,hc⟩:=h.at0 (k:=0) (by omega);rw [zbi hat];refine zaa tabOk Tryz.func155 (by kernel_rfl) rfl Tryz.ntmps155 (lbO rfl) ?_;have hS:=St.start w No;(conv=>whnf)
 (refine zah tabOk mixed [] (No) [0,1,2,3,4,5,6,7,8,9,10,11,12] (by kernel_rfl) ?_;rintro w1 rfl;replace hS:=hS.drew)
 conv=>whnf
 refine Ev.ldFc h.cell id ?_;(conv=>whnf);refine ixO ?_;(conv=>whnf);refine Ev.ldFc hc id ?_;(conv=>whnf);refine (zmu x0 (h.st.no (Ext.drawn _ _ _))).mono ?_;rintro v w2 ⟨rfl,hx⟩;refine KeepC.mk hx ?_;have hx2:Ext No w w2:=(Ext.drawn No _ _).trans hx;by_cases hu:W.upErr x0=0
 ·obtain ⟨hn,N,hN⟩:=zcE hu;obtain ⟨hH,hO⟩:=(h.st.no hx2).node hn hN
  have hres:zcP W x0=if N.role.active=true then zu1 else tNo:=by
   unfold zcP;rw [hN];exact if_pos hu
  rw [hres,hu,if_pos rfl];have hS:=hH.start;(conv=>whnf);refine hS.ld 0 rfl rfl ?_;(conv=>whnf);refine (zby (hS.blk 1 rfl)).mono ?_;rintro v w3 ⟨rfl,rfl⟩;(conv=>whnf);refine brI (fun h1=>?_) (fun h1=>?_)
  ·rw [if_pos h1];repeat' ((conv=>whnf);first|apply RetC.mk|refine rgO ?_|refine ixO ?_|(first|apply brD|apply zad|apply brN|apply brI)<;>(intro))
   exact ⟨rfl,X,rfl,Turns.of_no h.st.has hx2⟩
  ·rw [if_neg (by rw [h1];decide)];repeat' ((conv=>whnf);first|apply RetC.mk|refine rgO ?_|refine ixO ?_|(first|apply brD|apply zad|apply brN|apply brI)<;>(intro))
   exact ⟨rfl,X,rfl,Turns.of_no h.st.has hx2⟩
 ·have hres:zcP W x0=zrJ:=by
   unfold zcP;split
   ·rfl
   ·rw [if_neg hu]
  rw [hres,if_neg hu];obtain ⟨j,hj⟩:∃ j,W.upErr x0=j+1:=⟨W.upErr x0 - 1,by omega⟩;rw [hj];repeat' ((conv=>whnf);first|apply RetC.mk|refine rgO ?_|refine ixO ?_|(first|apply brD|apply zad|apply brN|apply brI)<;>(intro))
  exact ⟨rfl,X,rfl,Turns.of_no h.st.has hx2⟩
theorem zqL (h:Sits E q m w X W bp a n xs) (hP:∀ w' X' W',X'.w=X.w→Turns w w' (zag X W) (zag X' W')→Pow10 w'):CallC Tryz.prog 151 #[.pointer (some ⟨bp,0,none⟩),.slice a n c] w (zfV E w X W ((Lib.itoa (W.fly.length:Nat),0),W.land W.fly.length)):=by
 have hfl:=h.st.ok.fly;have hcell:=h.cell;have hplo:=h.plo;have hst0:=h.st;refine zaa tabOk Tryz.func151 (by kernel_rfl) rfl Tryz.ntmps151 (lbO rfl) ?_;(conv=>whnf)
 refine zaL tabOk (fun σ w' r=>∃ (i:Nat) (X4:WorldA) (V4:WorldS),σ=[(6,.int .i64 i),(0,.pointer (some ⟨bp,0,none⟩))]∧r=V4.fly.length∧i+V4.fly.length=W.fly.length∧X4.w=X.w∧Stands E q m w' X4 V4∧Turns w w' (zag X W) (zag X4 V4)∧W.land W.fly.length=V4.land V4.fly.length)
  (σ':=[(6,.int .i64 ((0:Nat):Int)),(0,.pointer (some ⟨bp,0,none⟩))]) (n:=W.fly.length) ⟨rfl,rfl,trivial⟩ ⟨0,X,W,rfl,rfl,Nat.zero_add _,rfl,hst0,Turns.refl hst0.has,rfl⟩ ?_
 rintro _ w4 r ⟨i,X4,V4,rfl,rfl,hi,hw4,hst4,hT4,hr4⟩;have hcell4:w4.cell? ⟨bp,0,none⟩=some (.pointer (some ⟨X4.w,0,none⟩)):=by rw [hw4];exact hT4.ext.cell hcell hplo
 conv=>whnf
 refine ldc hcell4 ?_;(conv=>whnf);refine (zhb 0 hst4).mono ?_;rintro v w5 ⟨rfl,X5,hw5,hT5⟩;cases hf:V4.fly.length with
 | zero =>
  rw [zjN hf] at hT5 ⊢;have hT6:=hT4.trans hT5;(conv=>whnf);obtain rfl:i=W.fly.length:=by omega
  refine (zb9 _ (by omega) (by omega) _ (hP _ _ _ (hw5.trans hw4) hT6)).mono ?_;rintro v w6 ⟨rfl,hx⟩;repeat' ((conv=>whnf);first|apply RetC.mk|refine rgO ?_|refine ixO ?_|(first|apply brD|apply zad|apply brN|apply brI)<;>(intro))
  rw [hr4,hf];exact ⟨rfl,X5,hw5.trans hw4,hT6.trans (Turns.of_no hT6.has hx)⟩
 | succ l =>
  obtain ⟨hd1,hd2⟩:=zl6 hf;rw [hd1];(conv=>whnf);refine rgO ?_;(conv=>whnf);refine LoopE.mk ⟨_,[(6,.int .i64 ((i+1:Nat):Int)),(0,_)],?_,⟨rfl,rfl,trivial⟩,⟨i+1,X5,(V4.deliver 0).2,rfl,rfl,by omega,hw5.trans hw4,hst4.turns hT5 (hst4.ok.deliver 0),hT4.trans hT5,?_⟩⟩
  ·omega
  ·rw [hr4,hf,hd2];show (if V4.fly.length=0 then _ else _)=_;rw [if_neg (by omega)]
end
section
variable {w w' : World} {X : WorldA} {W : WorldS} {E : Nat → Addr} {q m bp n c : Nat} {a : Option Addr} {xs : List Int} {W0 : World}
theorem NOk.asks {N:NodeS}(h:NOk m N):I64 (zaI N.tab.cells:Nat)∧I64 (zaI N.mir.cells:Nat)∧I64 N.role.epoch∧I64 (N.cell.li:Nat):=by
 have h1:=zgP N.tab.cells;have h2:=zgP N.mir.cells;have h3:=h.tab.len;have h4:=h.mir;have h5:=h.role.e0;have h6:=h.role.e1;have h7:=h.li;exact ⟨⟨by omega,by omega⟩,⟨by omega,by omega⟩,⟨by omega,by omega⟩,⟨by omega,by omega⟩⟩
def zuy (E:Nat→Addr) (q m:Nat) (X:WorldA) (W:WorldS) (w:World) (d:Cmd) (cs:List Value):Prop :=
 (∃ f,cs=[.string (bs d.form),fnV f []]∧∀ {w':World} {bp c:Nat} {a:Option Addr} {xs:List Int},Ext No w w'→Sits E q m w' X W bp a d.form.length xs→(d = .tick→m+34 * (at0 xs 1).toNat≤40000000)→CallC Tryz.prog f #[.pointer (some ⟨bp,0,none⟩),.slice a d.form.length c] w' (zfV E w' X W (d.does xs W))) ∨
 (∃ f b,cs=[.string (bs d.form),fnV f [.pointer (some ⟨b,0,none⟩)]]∧∀ {w':World} {bp c:Nat} {a:Option Addr} {xs:List Int},Ext No w w'→Sits E q m w' X W bp a d.form.length xs→(d = .tick→m+34 * (at0 xs 1).toNat≤40000000)→CallC Tryz.prog f #[.pointer (some ⟨bp,0,none⟩),.slice a d.form.length c,.pointer (some ⟨b,0,none⟩)] w' (zfV E w' X W (d.does xs W)))
theorem IsAct.runs {d:Cmd}{cs:List Value}(hd:d∈zeK) (h:IsAct w d cs):zuy E q m X W w d cs:=by
 obtain ⟨b,rfl,hB⟩:=h;exact .inr ⟨_,b,rfl,fun hx hs hm=>zrd hd (hx.blk hB id) hs rfl hm⟩
theorem IsLook.runs {d:Cmd}{cs:List Value}(hd:d∈zd0) (h:IsLook w d cs) (hE:EpW W) (hP:∀ w',Ext No w w'→Pow10 w') (hA:∀ w2 w' X' W',Ext No w w2→X'.w=X.w→Turns w2 w' (zag X W) (zag X' W')→Pow10 w'):zuy E q m X W w d cs:=by
 unfold IsLook at h;simp only [zd0,List.mem_cons,List.not_mem_nil,or_false] at hd;rcases hd with rfl|rfl|rfl|rfl|rfl|rfl|rfl|rfl|rfl
 ·rw [if_neg (by decide)] at h;exact .inl ⟨_,h,fun hx hs _=>zqL hs fun w' X' W' hw k=>hA _ w' X' W' hx hw k⟩
 ·rw [if_neg (by decide)] at h;exact .inl ⟨_,h,fun hx hs _=>zrm hs (hP _ hx)⟩
 ·rw [if_neg (by decide)] at h;exact .inl ⟨_,h,fun hx hs _=>zlR hs⟩
 ·rw [if_neg (by decide)] at h;exact .inl ⟨_,h,fun hx hs _=>zlA hs hE (hP _ hx)⟩
 ·rw [if_pos (by decide)] at h;obtain ⟨b,rfl,hB⟩:=h;exact .inr ⟨_,b,rfl,fun hx hs _=>zgM (hx.blk hB id) hs (hP _ hx) (fun N hN=>hN.asks.1) zn9⟩
 ·rw [if_pos (by decide)] at h;obtain ⟨b,rfl,hB⟩:=h;exact .inr ⟨_,b,rfl,fun hx hs _=>zgM (hx.blk hB id) hs (hP _ hx) (fun N hN=>hN.asks.2.1) zlT⟩
 ·rw [if_pos (by decide)] at h;obtain ⟨b,rfl,hB⟩:=h;exact .inr ⟨_,b,rfl,fun hx hs _=>zgM (hx.blk hB id) hs (hP _ hx) (fun N hN=>hN.asks.2.2.1) znd⟩
 ·rw [if_pos (by decide)] at h;obtain ⟨b,rfl,hB⟩:=h;exact .inr ⟨_,b,rfl,fun hx hs _=>zgM (hx.blk hB id) hs (hP _ hx) (fun N hN=>hN.asks.2.2.2) zoj⟩
 ·rw [if_neg (by decide)] at h;exact .inl ⟨_,h,fun hx hs _=>zlE hs hE (hP _ hx)⟩
theorem zkB {s:List UInt8}{p:PktS}{f:PktS→Nat × PktS × WorldS}(h:readPk s=(p,false)):carryS s f W=(([],1),W):=by
 unfold carryS;rw [h];exact if_pos rfl
theorem zg7 {s:List UInt8}{p:PktS}{f:PktS→Nat × PktS × WorldS}(h:readPk s=(p,true)) (he:(f p).1≠0):carryS s f W=(([],(f p).1),(f p).2.2):=by
 unfold carryS;rw [h,if_neg (fun h=>by cases h),if_pos he]
theorem zei {s:List UInt8}{p:PktS}{f:PktS→Nat × PktS × WorldS}(h:readPk s=(p,true)) (he:(f p).1=0):carryS s f W=((if (f p).2.1.err=0 then (f p).2.1.text else [],(f p).2.1.err),(f p).2.2):=by
 unfold carryS;rw [h,if_neg (fun h=>by cases h),if_neg (fun h=>h he)]
theorem ziU (B:Base E W0) (h:Stands E W0.heap.size m w X W) (hx0:Ext No W0 w) (s:List UInt8) (hl:s.length≤100000) (hm:m+1≤50000000) :
  CallC Tryz.prog 76 #[.pointer (some ⟨bp,0,none⟩),.string (bs s),.func (.func 77) #[.pointer (some ⟨X.w,0,none⟩)] #[]] w (zfV E w X W (carryS s W.inside W)):=by
 refine zaa tabOk Tryz.func76 (by kernel_rfl) rfl Tryz.ntmps76 (lbO rfl) ?_;have hS:=St.start w No;(conv=>whnf);refine (zfz s hl w (B.maxl.no hx0) (B.numv.no hx0) (B.pow.no hx0) (B.names.no hx0) ((B.errs.ext hx0 fun _ h=>h.elim).sub rfl)).mono ?_;rintro v w1 ⟨⟨p,k,rfl,hp⟩,hx⟩;replace hS:=hS.no hx;have hrd:=zhj hp;(conv=>whnf);refine hS.new (fun b8 w' hb8 hS=>?_);(conv=>whnf);refine hS.st 0 rfl (lbO rfl) rfl (fun w' hS=>?_);replace hS:St w No w' [blk b8 41 (zao p)]:=hS;cases k with
 | false =>
  rw [zkB hrd];repeat' ((conv=>whnf);first|apply RetC.mk|refine rgO ?_|refine ixO ?_|(first|apply brD|apply zad|apply brN|apply brI)<;>(intro))
  exact ⟨rfl,X,rfl,Turns.of_no h.has hS.ext⟩
 | true =>
  (conv=>whnf);refine hS.laX 0 rfl rfl ?_;(conv=>whnf);refine (znV p (h.no hS.ext) hm).mono ?_;rintro v w2 ⟨rfl,hk⟩;have hT:=(Turns.of_no h.has hS.ext).trans hk;have hx2:=h.base hx0 hT;have hce:=@zg7 W s p W.inside hrd;have hcg:=@zei W s p W.inside hrd;generalize W.inside p=R at hk hT hce hcg ⊢;obtain ⟨e,y,W'⟩:=R;dsimp only at hk hT hce hcg ⊢;have hS2:=St.start w2 No;(conv=>whnf);refine hS2.new (fun b10 w' hb10 hS=>?_);(conv=>whnf);refine hS.st 0 rfl (lbO rfl) rfl (fun w' hS=>?_);replace hS:St w2 No w' [blk b10 41 (zao y)]:=hS;cases e with
  | succ j =>
   rw [hce (Nat.succ_ne_zero j)];repeat' ((conv=>whnf);first|apply RetC.mk|refine rgO ?_|refine ixO ?_|(first|apply brD|apply zad|apply brN|apply brI)<;>(intro))
   exact ⟨rfl,X,rfl,hT.trans (Turns.of_no hT.has hS.ext)⟩
  | zero =>
   rw [hcg rfl];(conv=>whnf);refine hS.laX 0 rfl rfl ?_;(conv=>whnf);have hx3:=hx2.trans hS.ext;refine (zeU y _ ((B.errs.ext hx3 fun _ h=>h.elim).sub rfl) (B.pow.no hx3) (B.names.no hx3)).mono ?_;rintro v w4 ⟨rfl,hx4⟩;replace hS:=hS.no hx4;repeat' ((conv=>whnf);first|apply RetC.mk|refine rgO ?_|refine ixO ?_|(first|apply brD|apply zad|apply brN|apply brI)<;>(intro))
   exact ⟨rfl,X,rfl,hT.trans (Turns.of_no hT.has hS.ext)⟩
theorem zhU (B:Base E W0) (h:Stands E W0.heap.size m w X W) (hx0:Ext No W0 w) (s:List UInt8) (hl:s.length≤100000) (hm:m+1≤50000000) :
  CallC Tryz.prog 76 #[.pointer (some ⟨bp,0,none⟩),.string (bs s),.func (.func 78) #[.pointer (some ⟨X.w,0,none⟩)] #[]] w (zfV E w X W (carryS s W.outside W)):=by
 refine zaa tabOk Tryz.func76 (by kernel_rfl) rfl Tryz.ntmps76 (lbO rfl) ?_;have hS:=St.start w No;(conv=>whnf);refine (zfz s hl w (B.maxl.no hx0) (B.numv.no hx0) (B.pow.no hx0) (B.names.no hx0) ((B.errs.ext hx0 fun _ h=>h.elim).sub rfl)).mono ?_;rintro v w1 ⟨⟨p,k,rfl,hp⟩,hx⟩;replace hS:=hS.no hx;have hrd:=zhj hp;(conv=>whnf);refine hS.new (fun b8 w' hb8 hS=>?_);(conv=>whnf);refine hS.st 0 rfl (lbO rfl) rfl (fun w' hS=>?_);replace hS:St w No w' [blk b8 41 (zao p)]:=hS;cases k with
 | false =>
  rw [zkB hrd];repeat' ((conv=>whnf);first|apply RetC.mk|refine rgO ?_|refine ixO ?_|(first|apply brD|apply zad|apply brN|apply brI)<;>(intro))
  exact ⟨rfl,X,rfl,Turns.of_no h.has hS.ext⟩
 | true =>
  (conv=>whnf);refine hS.laX 0 rfl rfl ?_;(conv=>whnf);refine (zlr p (h.no hS.ext) hm).mono ?_;rintro v w2 ⟨rfl,hk⟩;have hT:=(Turns.of_no h.has hS.ext).trans hk;have hx2:=h.base hx0 hT;have hce:=@zg7 W s p W.outside hrd;have hcg:=@zei W s p W.outside hrd;generalize W.outside p=R at hk hT hce hcg ⊢;obtain ⟨e,y,W'⟩:=R;dsimp only at hk hT hce hcg ⊢;have hS2:=St.start w2 No;(conv=>whnf);refine hS2.new (fun b10 w' hb10 hS=>?_);(conv=>whnf);refine hS.st 0 rfl (lbO rfl) rfl (fun w' hS=>?_);replace hS:St w2 No w' [blk b10 41 (zao y)]:=hS;cases e with
  | succ j =>
   rw [hce (Nat.succ_ne_zero j)];repeat' ((conv=>whnf);first|apply RetC.mk|refine rgO ?_|refine ixO ?_|(first|apply brD|apply zad|apply brN|apply brI)<;>(intro))
   exact ⟨rfl,X,rfl,hT.trans (Turns.of_no hT.has hS.ext)⟩
  | zero =>
   rw [hcg rfl];(conv=>whnf);refine hS.laX 0 rfl rfl ?_;(conv=>whnf);have hx3:=hx2.trans hS.ext;refine (zeU y _ ((B.errs.ext hx3 fun _ h=>h.elim).sub rfl) (B.pow.no hx3) (B.names.no hx3)).mono ?_;rintro v w4 ⟨rfl,hx4⟩;replace hS:=hS.no hx4;repeat' ((conv=>whnf);first|apply RetC.mk|refine rgO ?_|refine ixO ?_|(first|apply brD|apply zad|apply brN|apply brI)<;>(intro))
   exact ⟨rfl,X,rfl,hT.trans (Turns.of_no hT.has hS.ext)⟩
end
theorem zlz {l:List UInt8}{W:WorldS}(h:(Lib.cut l [32]).1=zbF):playS l W=carryS (Lib.cut l [32]).2.1 W.inside W:=by
 unfold playS;rw [if_pos h]
theorem zmM {l:List UInt8}{W:WorldS}(h:(Lib.cut l [32]).1≠zbF) (h2:(Lib.cut l [32]).1=zbm):playS l W=carryS (Lib.cut l [32]).2.1 W.outside W:=by
 unfold playS;rw [if_neg h,if_pos h2]
theorem zpk {l:List UInt8}{W:WorldS}(h:(Lib.cut l [32]).1≠zbF) (h2:(Lib.cut l [32]).1≠zbm) (h3:zcf ((zbg 32 l).headD [])=none):playS l W=(([],1),W):=by
 unfold playS;rw [if_neg h,if_neg h2,h3]
theorem zmj {l:List UInt8}{W:WorldS}{d:Cmd}(h:(Lib.cut l [32]).1≠zbF) (h2:(Lib.cut l [32]).1≠zbm) (h3:zcf ((zbg 32 l).headD [])=some d) (h4:zco d.form ((zbg 32 l).drop 1)=none):playS l W=(([],1),W):=by
 unfold playS;rw [if_neg h,if_neg h2,h3];dsimp only;rw [h4]
theorem zjl {l:List UInt8}{W:WorldS}{d:Cmd}{xs:List Int}(h:(Lib.cut l [32]).1≠zbF) (h2:(Lib.cut l [32]).1≠zbm) (h3:zcf ((zbg 32 l).headD [])=some d) (h4:zco d.form ((zbg 32 l).drop 1)=some xs):playS l W=d.does xs W:=by
 unfold playS;rw [if_neg h,if_neg h2,h3];dsimp only;rw [h4]
theorem zjc {l:List UInt8}{d:Cmd}{xs:List Int}(h3:zcf ((zbg 32 l).headD [])=some d) (h4:zco d.form ((zbg 32 l).drop 1)=some xs) (hd:d = .tick):zaT l=(at0 xs 1).toNat:=by
 subst hd;unfold zaT;rw [h3];dsimp only;rw [h4]
theorem zfA {s:List UInt8}{d:Cmd}:∀ {L:List Cmd},zcQ s L=some d→d∈L∧s=d.word
 | [],h=>by cases h
 | c::L,h=>by
  unfold zcQ at h;split at h
  ·cases h;rename_i e;exact ⟨List.mem_cons_self,e⟩
  ·exact ⟨List.mem_cons_of_mem _ (zfA h).1,(zfA h).2⟩
theorem zpa {s:List UInt8}{d:Cmd}(h:zcQ s zeK=some d):zcf s=some d:=by
 unfold zcf;rw [h]
theorem zig {s:List UInt8}(h:zcQ s zeK=none):zcf s=zcQ s zd0:=by
 unfold zcf;rw [h]
section
variable {w w' : World} {r : Nat} {L : List Cmd} {I : World → Cmd → List Value → Prop}
theorem IsAct.keep {d:Cmd}{cs:List Value}{b10:Nat}{vs:List Value}(h:IsAct w d cs) (hx:Ext (· = b10) w w') (hb:Blk w b10 176 vs):IsAct w' d cs:=by
 obtain ⟨b,e,hB⟩:=h;exact ⟨b,e,hx.blk hB (hB.ne hb (by decide))⟩
theorem IsLook.keep {d:Cmd}{cs:List Value}{b10:Nat}{vs:List Value}(h:IsLook w d cs) (hx:Ext (· = b10) w w') (hb:Blk w b10 176 vs):IsLook w' d cs:=by
 unfold IsLook at h ⊢;split at h
 ·rename_i e;rw [if_pos e];obtain ⟨b,e,hB⟩:=h;exact ⟨b,e,hx.blk hB (hB.ne hb (by decide))⟩
 ·rename_i e;rw [if_neg e];exact h
theorem IsAct.no {d:Cmd}{cs:List Value}(h:IsAct w d cs) (hx:Ext No w w'):IsAct w' d cs:=by
 obtain ⟨b,e,hB⟩:=h;exact ⟨b,e,hx.blk hB id⟩
theorem Finds.no (h:Finds w r L I) (hI:∀ {d cs},I w d cs→I w' d cs) (hx:Ext No w w'):Finds w' r L I:=by
 obtain ⟨l,n,hb,hall⟩:=h;refine ⟨l,n,(hx.block r (Array.getElem?_eq_some_iff.1 hb).1 id).trans hb,fun s=>?_⟩;rcases hall s with h | ⟨d,i,cs,h1,h2,h3,h4⟩
 ·exact .inl h
 ·exact .inr ⟨d,i,cs,h1,h2,h3,hI h4⟩
theorem Finds.look (h:Finds w r L I) (s:List UInt8) {k:Value→World→Prop}(h1:zcQ s L=none→k (.tuple #[.agg #[.string (bs []),.nilFunc],.bool false]) w) (h2:∀ d cs,zcQ s L=some d→I w d cs→k (.tuple #[.agg cs.toArray,.bool true]) w) :
  RunC Tryz.prog (Instr.lookup 178 (.map (some r)) (.string (bs s)) true) w k:=by
 obtain ⟨l,n,hb,hall⟩:=h;refine ⟨_,_,zq5 s hb,?_⟩;unfold ztf;rcases hall s with ⟨e1,e2⟩ | ⟨d,i,cs,e1,_,e3,e4⟩
 ·rw [e2];exact h1 e1
 ·rw [e3];exact h2 d cs e1 e4
theorem Finds.lookA (h:Finds w r zeK IsAct) (s:List UInt8) {k:Value→World→Prop}(h1:zcQ s zeK=none→k (.tuple #[.agg #[.string (bs []),.nilFunc],.bool false]) w)
  (h2:∀ d b,zcQ s zeK=some d→IsAct w d [.string (bs d.form),.func (.func 231) #[] #[.pointer (some ⟨b,0,none⟩)]]→k (.tuple #[.agg #[.string (bs d.form),.func (.func 231) #[] #[.pointer (some ⟨b,0,none⟩)]],.bool true]) w) :
  RunC Tryz.prog (Instr.lookup 178 (.map (some r)) (.string (bs s)) true) w k :=
 h.look s h1 fun d cs e hI=>by
  obtain ⟨b,rfl,hB⟩:=hI;exact h2 d b e ⟨b,rfl,hB⟩
theorem Finds.lookL (h:Finds w r zd0 IsLook) (s:List UInt8) {k:Value→World→Prop}(h1:zcQ s zd0=none→k (.tuple #[.agg #[.string (bs []),.nilFunc],.bool false]) w)
  (h2:∀ d b,zcQ s zd0=some d→IsLook w d [.string (bs d.form),.func (.func 242) #[] #[.pointer (some ⟨b,0,none⟩)]]→k (.tuple #[.agg #[.string (bs d.form),.func (.func 242) #[] #[.pointer (some ⟨b,0,none⟩)]],.bool true]) w)
  (h3:∀ d f,zcQ s zd0=some d→IsLook w d [.string (bs d.form),.func (.func f) #[] #[]]→k (.tuple #[.agg #[.string (bs d.form),.func (.func f) #[] #[]],.bool true]) w) :
  RunC Tryz.prog (Instr.lookup 178 (.map (some r)) (.string (bs s)) true) w k :=
 h.look s h1 fun d cs e hI=>by
  have hI':=hI;unfold IsLook at hI';split at hI'
  ·obtain ⟨b,rfl,hB⟩:=hI';exact h2 d b e hI
  ·subst hI';exact h3 d _ e hI
end
theorem Ev.St.newX {w0 w1 w:World}{S T:Nat→Prop}{H:List Ent}(h:St w0 S w H) (hK:Ext T w1 w) {t:TypeId}{cs:List Value}{k:Value→World→Prop}(hk:∀ b w',w.heap.size≤b→Ext No w w'→Ext T w1 w'→St w0 S w' (H++[Ev.blk b t cs])→k (.pointer (some ⟨b,0,none⟩)) w'):NewC w t cs k:=by
 refine ⟨hk w.heap.size _ (Nat.le_refl _) (Ext.push _ _ _ _) (hK.trans (Ext.push _ _ _ _)) (h.made (Ext.push _ _ _ _) (zab _ _ _) (show (w.heap.push _)[w.heap.size]?=_ by rw [Array.getElem?_push,if_pos rfl]) ?_)⟩;intro b hb;obtain rfl:b=w.heap.size:=by simpa [Ev.blk] using hb
 simp [zbk]
theorem Ev.St.stY {w0 w1 w:World}{S T:Nat→Prop}{H:List Ent}(h:St w0 S w H) (hK:Ext T w1 w) (i:Nat) {b o:Nat}{t:TypeId}{cs vs:List Value}{k:World→Prop}(hi:H[i]?=some (Ev.blk b t cs)) (hle:o+vs.length≤cs.length) (h1:vs.all zcN=true) (hT:T b)
  (hk:∀ w',Ext (· = b) w w'→Ext T w1 w'→St w0 S w' (H.set i (Ev.blk b t (zaO cs o vs)))→k w'):StC w b o vs k:=by
 have hb:=h.blk i hi;have hx:Ext (· = b) w (zbE w b t (zaO cs o vs)):=Ext.set (S:=(· = b)) (b:=b) rfl t _;exact ⟨t,cs,hb,hle,by simpa using h1,hk _ hx (hK.trans (hx.mono fun c hc=>hc ▸ hT)) (h.upd i hi hx (fun c hc=>by simp [Ev.blk,hc]) (zab _ _ _) (zcd hb.lt) (fun c hc=>.inl hc))⟩
section
variable {w w' : World} {X : WorldA} {W : WorldS} {E : Nat → Addr} {m bp : Nat} {W0 : World}
set_option maxHeartbeats 4000000 in
theorem zrj (B:Base E W0) (h:Stands E W0.heap.size m w X W) (hx0:Ext No W0 w) (hply:Blk w bp 90 [.pointer (some ⟨X.w,0,none⟩)]) (hplo:¬ inF (zag X W) bp) (hE:EpW W) (line:List UInt8) (hl:line.length≤100000) (hm:m+(34 * zaT line+1)≤40000000) :
  CallC Tryz.prog 34 #[.pointer (some ⟨bp,0,none⟩),.string (bs line)] w (zfV E w X W (playS line W)):=by
 have hcl:(Lib.cut line [32]).2.1.length≤line.length:=by
  obtain ⟨x,y,k,e,_,h2⟩:=zg5 line 32;rw [e];exact h2
 refine zaa tabOk Tryz.func34 (by kernel_rfl) rfl Tryz.ntmps34 (lbO rfl) ?_;have hS:=St.start w No;(conv=>whnf);refine (zly line 32 w hl (B.maxl.no hx0)).mono ?_;rintro v w1 ⟨rfl,hx1⟩;replace hS:=hS.no hx1;(conv=>whnf);refine zbt (b:=zbF) ?_;(conv=>whnf);refine brD (fun hni=>?_) (fun hni=>?_)
 ·skip
  rw [zlz hni];(conv=>whnf);refine ldc (hS.ext.cell (hply.cell 0) id) ?_;(conv=>whnf);refine (ziU B (h.no hS.ext) (hx0.trans hS.ext) _ (Nat.le_trans hcl hl) (by omega)).mono ?_;rintro v w2 ⟨rfl,X',hw2,hT2⟩;repeat' ((conv=>whnf);first|apply RetC.mk|refine rgO ?_|refine ixO ?_|(first|apply brD|apply zad|apply brN|apply brI)<;>(intro))
  exact ⟨rfl,X',hw2,(Turns.of_no h.has hS.ext).trans hT2⟩
 conv=>whnf
 refine zbt (b:=zbm) ?_;(conv=>whnf);refine brD (fun hno=>?_) (fun hno=>?_)
 ·skip
  rw [zmM hni hno];(conv=>whnf);refine ldc (hS.ext.cell (hply.cell 0) id) ?_;(conv=>whnf);refine (zhU B (h.no hS.ext) (hx0.trans hS.ext) _ (Nat.le_trans hcl hl) (by omega)).mono ?_;rintro v w2 ⟨rfl,X',hw2,hT2⟩;repeat' ((conv=>whnf);first|apply RetC.mk|refine rgO ?_|refine ixO ?_|(first|apply brD|apply zad|apply brN|apply brI)<;>(intro))
  exact ⟨rfl,X',hw2,(Turns.of_no h.has hS.ext).trans hT2⟩
 obtain ⟨t0,ws,hw⟩:=zcM 32 line;have hlen:∀ t∈t0::ws,t.length≤100000:=fun t ht=>Nat.le_trans (zea (c:=32) (l:=line) (hw ▸ ht)) hl
 have hwl:(t0::ws).length≤100001:=by
  rw [← hw];exact Nat.le_trans (ziA 32 line) (by omega)
 conv=>whnf
 refine (zgC line 32 w1 hl (B.maxl.no (hx0.trans hS.ext))).mono ?_;rintro v w2 ⟨⟨bw,rfl,hbw,hB⟩,hx2⟩;rw [hw] at hB ⊢;replace hS:=hS.made hx2 (zab _ _ _) hB (by intro g hg;obtain rfl:=List.mem_singleton.1 hg;exact ⟨hbw,hB.lt⟩);replace hS:St w No w2 [blk bw 9 ((t0::ws).map fun l=>.string (bs l))]:=hS;clear hx1 hx2 hB hbw;obtain ⟨n,hnl⟩:∃ n,(t0::ws).length=n:=⟨_,rfl⟩;rw [hnl] at hwl ⊢;have hn1:1≤n:=by rw [← hnl];exact Nat.succ_pos _
 have hP:∀ w',Ext No w w'→Pow10 w':=fun w' hx=>B.pow.no (hx0.trans hx)
 have hA:∀ w2 w3 X' W',Ext No w w2→X'.w=X.w→Turns w2 w3 (zag X W) (zag X' W')→Pow10 w3:=fun w2 w3 X' W' hx _ k=>B.pow.no ((h.no hx).base (hx0.trans hx) k)
 conv=>whnf
 refine DrawC.cut (fun σ w'=>∃ b10 cs k,σ=[(11,.bool k),(10,.pointer (some ⟨b10,0,none⟩)),(9,.slice (some ⟨bw,0,none⟩) n n),(0,.pointer (some ⟨bp,0,none⟩))]∧St w No w' [blk bw 9 ((t0::ws).map fun l=>.string (bs l)),blk b10 176 cs]∧((k=true∧∃ d,zcQ t0 zeK=some d∧IsAct w' d cs)∨(k=false∧zcQ t0 zeK=none∧cs=[.string (bs []),.nilFunc]))) ?_ ?_
 ·refine zeI tabOk mixed [] ((·≠bw)) (.take 1 (.take 2 (.take 3 (.alt 0 (.alt 4 (.take 5 (.take 6 (.take 7 (.alt 8 (.alt 9 (.take 10 .fin) .fin) .fin)))) (.alt 8 (.alt 4 (.take 5 (.take 6 (.take 7 (.alt 9 (.take 10 .fin) .fin)))) .fin) .fin)) (.alt 8 (.alt 0 (.alt 4 (.take 5 (.take 6 (.take 7 (.alt 9 (.take 10 .fin) .fin)))) .fin) .fin) .fin))))) (by kernel_rfl) ?_;rintro w3 rfl;replace hS:=hS.drew;have hK:=hS.ref (·≠bw);repeat' ((conv=>whnf);first|refine And.intro ?_ ?_|refine ixO ?_|refine hS.ldF 0 rfl (v:=.string (bs t0)) rfl (fun h=>h rfl) ?_|(refine (zsN _).mono ?_;rintro v w5 ⟨⟨r,rfl,hfd⟩,hx'⟩;replace hS:=hS.no hx';replace hK:=hK.trans hx'.of_no;clear hx';refine KeepC.mk hK ?_)|(refine hS.newX hK (fun b10 w' hb10 hxn hK hS=>KeepC.mk hK ?_);try (replace hfd:=hfd.no (fun h=>IsAct.no h hxn) hxn);try (replace hI:=IsAct.no hI hxn))|(refine hfd.lookA t0 (fun hd=>KeepC.mk hK ?_) (fun d b hd hI=>KeepC.mk hK ?_))|(have hbq:=hS.blk 1 rfl;refine hS.stY hK 1 rfl (lbO rfl) rfl (fun e=>hS.ne 1 0 rfl rfl (by decide) e) (fun w' hxs hK hS=>KeepC.mk hK ?_);try (replace hI:=IsAct.keep hI hxs hbq)))
  all_goals first|exact CutE.mk ⟨[(11,_),(10,_),(9,_),(0,_)],⟨rfl,rfl,rfl,rfl,trivial⟩,_,_,_,rfl,hS,.inr ⟨rfl,hd,rfl⟩⟩|exact CutE.mk ⟨[(11,_),(10,_),(9,_),(0,_)],⟨rfl,rfl,rfl,rfl,trivial⟩,_,_,_,rfl,hS,.inl ⟨rfl,_,hd,hI⟩⟩
 clear hS;rintro _ w7 ⟨b10,cs,k,rfl,hS,hk⟩;rcases hk with ⟨rfl,d,hd,hI⟩ | ⟨rfl,hna,rfl⟩
 ·have hk:((true=true∧∃ d,zcf t0=some d∧zuy E W0.heap.size m X W w7 d cs)∨(true=false∧zcf t0=none)):=.inl ⟨rfl,d,zpa hd,hI.runs (zfA hd).1⟩;clear hd hI
  obtain ⟨d,hd,hrun⟩:∃ d,zcf t0=some d∧zuy E W0.heap.size m X W w7 d cs:=by
   rcases hk with ⟨_,h⟩ | ⟨h,_⟩
   ·exact h
   ·cases h
  clear hk
  have hcase:∃ f caps,cs=[.string (bs d.form),.func (.func f) #[] caps]:=by
   rcases hrun with ⟨f,e,_⟩ | ⟨f,b,e,_⟩
   ·exact ⟨f,_,e⟩
   ·exact ⟨f,_,e⟩
  obtain ⟨f,caps,rfl⟩:=hcase;have hsl:Slc w7 1 zbe (fun t=>t.length≤100000) (some ⟨bw,0,none⟩) n (t0::ws):=Slc.of_blk zfP (hS.blk 0 rfl) hnl (by omega) (fun t ht=>hlen t ht) (by rw [ze0,Nat.mul_one,List.drop_zero,List.take_of_length_le (by rw [List.length_map];exact Nat.le_refl _)]);have hne:=hS.ne 1 0 rfl rfl (by decide);(conv=>whnf)
  (refine zah tabOk mixed [] No [0,1,2,3,4,5,6,7,8,9] (by kernel_rfl) ?_;rintro w1 rfl;replace hS:=hS.drew)
  (conv=>whnf);refine hS.ldF 1 rfl rfl id ?_;(conv=>whnf);refine ziW (j:=1) (hsl.no (Ext.drawn No w7 (w7.drawn+1))) (Nat.le_refl _) Tryz.underlying22 (by kernel_rfl) (by kernel_rfl) rfl hn1 (fun a1 c1 hsl1 hc1=>?_);(conv=>whnf);refine (zmF d.form ws hsl1 (by cases d<;>decide) (fun t ht=>hlen t (List.mem_cons_of_mem _ ht)) (B.numv.no (hx0.trans hS.ext)) (B.pow.no (hx0.trans hS.ext))).mono ?_;rintro v w8 ⟨⟨a2,c2,xs,k2,rfl,hnum,hown,hfr⟩,hx8⟩;refine KeepC.mk hx8 ?_;have hfr2:zc0 w w8 (.slice a2 xs.length c2):=fun g hg=>⟨Nat.le_trans hS.ext.size (hfr g hg).1,(hfr g hg).2⟩
  replace hS:=hS.no hx8;cases k2 with
  | false =>
   rw [if_neg (by decide)] at hnum;rw [zmj hni hno (by rw [hw];exact hd) (by rw [hw];exact hnum)];(conv=>whnf);(conv=>whnf)
   (refine zah tabOk mixed [] No [0,1,2] (by kernel_rfl) ?_;rintro w1 rfl;replace hS:=hS.drew)
   (conv=>whnf);refine Ev.ldFc ((B.errs.ext (hx0.trans hS.ext) fun _ h=>h.elim).at_ 1 rfl) id ?_;repeat' ((conv=>whnf);first|apply RetC.mk|refine rgO ?_|refine ixO ?_|(first|apply brD|apply zad|apply brN|apply brI)<;>(intro))
   exact ⟨rfl,X,rfl,Turns.of_no h.has hS.ext⟩
  | true =>
   rw [if_pos rfl] at hnum;obtain ⟨hxl,hxg⟩:=zdc hnum;rw [zjl hni hno (by rw [hw];exact hd) (by rw [hw];exact hnum)]
   have hsit:Sits E W0.heap.size m w8 X W bp a2 d.form.length xs:=by
    refine ⟨h.no hS.ext,hS.ext.blk hply id,hplo,?_,?_⟩
    ·rw [← hxl];refine zap zt1 hown (fun x hx=>?_);obtain ⟨i,hi⟩:=List.getElem?_of_mem hx;exact ⟨(hxg i x hi).1,(hxg i x hi).2.1⟩
    ·intro _ b0 o0 e hin;obtain ⟨g,hg,hbg⟩:=hin;have h1:=h.has.lt g hg b0 hbg;have h2:=(hfr2 b0 (by rw [e];rfl)).1;omega
   have htk:d = .tick→m+34 * (at0 xs 1).toNat≤40000000:=fun e=>by
    rw [← zjc (by rw [hw];exact hd) (by rw [hw];exact hnum) e];exact Nat.le_trans (by omega) hm
   rw [hxl];have hx78:=(Ext.drawn No w7 (w7.drawn+1)).trans hx8;rcases hrun with ⟨f2,e2,hc⟩ | ⟨f2,b2,e2,hc⟩
   ·obtain ⟨rfl,rfl⟩:f=f2∧caps = #[]:=by simpa [fnV] using e2
    (conv=>whnf);refine hS.ld 1 rfl rfl ?_;(conv=>whnf);refine (hc hx78 hsit htk).mono ?_;rintro v w9 ⟨rfl,X',hw9,hT9⟩;repeat' ((conv=>whnf);first|apply RetC.mk|refine rgO ?_|refine ixO ?_|(first|apply brD|apply zad|apply brN|apply brI)<;>(intro))
    exact ⟨rfl,X',hw9,(Turns.of_no h.has hS.ext).trans hT9⟩
   ·obtain ⟨rfl,rfl⟩:f=f2∧caps = #[.pointer (some ⟨b2,0,none⟩)]:=by simpa [fnV] using e2
    (conv=>whnf);refine hS.ld 1 rfl rfl ?_;(conv=>whnf);refine (hc hx78 hsit htk).mono ?_;rintro v w9 ⟨rfl,X',hw9,hT9⟩;repeat' ((conv=>whnf);first|apply RetC.mk|refine rgO ?_|refine ixO ?_|(first|apply brD|apply zad|apply brN|apply brI)<;>(intro))
    exact ⟨rfl,X',hw9,(Turns.of_no h.has hS.ext).trans hT9⟩
 have hne:=hS.ne 1 0 rfl rfl (by decide);have hne':=hS.ne 0 1 rfl rfl (by decide);(conv=>whnf);refine DrawC.cut (fun σ w'=>∃ cs k,σ=[(11,.bool k),(10,.pointer (some ⟨b10,0,none⟩)),(9,.slice (some ⟨bw,0,none⟩) n n),(0,.pointer (some ⟨bp,0,none⟩))]∧St w No w' [blk bw 9 ((t0::ws).map fun l=>.string (bs l)),blk b10 176 cs]∧((k=true∧∃ d,zcQ t0 zd0=some d∧IsLook w' d cs)∨(k=false∧zcQ t0 zd0=none))) ?_ ?_
 ·(refine zah tabOk mixed [] (fun b=>b=b10) [1,2,3,0,4,5,6,7,8,9] (by kernel_rfl) ?_;rintro w1 rfl;replace hS:=hS.drew)
  have hK:=hS.ref (fun b=>b=b10);(conv=>whnf);refine ixO ?_;(conv=>whnf);refine hS.ldF 0 rfl (v:=.string (bs t0)) rfl hne' ?_;(conv=>whnf);refine (zr9 _).mono ?_;rintro v w5 ⟨⟨r,rfl,hfd⟩,hx'⟩;replace hS:=hS.no hx';replace hK:=hK.trans hx'.of_no;clear hx';refine KeepC.mk hK ?_;(conv=>whnf);refine hfd.lookL t0 (fun hd=>KeepC.mk hK ?_) (fun d b hd hI=>KeepC.mk hK ?_) (fun d f hd hI=>KeepC.mk hK ?_)
  ·(conv=>whnf)
   refine hS.stY hK 1 rfl (lbO rfl) rfl rfl (fun w' hxs hK hS=>KeepC.mk hK ?_);(conv=>whnf);exact CutE.mk ⟨[(11,_),(10,_),(9,_),(0,_)],⟨rfl,rfl,rfl,rfl,trivial⟩,_,_,rfl,hS,.inr ⟨rfl,hd⟩⟩
  ·(conv=>whnf)
   have hbq:=hS.blk 1 rfl;refine hS.stY hK 1 rfl (lbO rfl) rfl rfl (fun w' hxs hK hS=>KeepC.mk hK ?_);(conv=>whnf);exact CutE.mk ⟨[(11,_),(10,_),(9,_),(0,_)],⟨rfl,rfl,rfl,rfl,trivial⟩,_,_,rfl,hS,.inl ⟨rfl,d,hd,hI.keep hxs hbq⟩⟩
  ·(conv=>whnf)
   have hbq:=hS.blk 1 rfl;refine hS.stY hK 1 rfl (lbO rfl) rfl rfl (fun w' hxs hK hS=>KeepC.mk hK ?_);(conv=>whnf);exact CutE.mk ⟨[(11,_),(10,_),(9,_),(0,_)],⟨rfl,rfl,rfl,rfl,trivial⟩,_,_,rfl,hS,.inl ⟨rfl,d,hd,hI.keep hxs hbq⟩⟩
 clear hS hne hne';rintro _ w7 ⟨cs,k,rfl,hS,hk⟩;rcases hk with ⟨rfl,d,hd,hI⟩ | ⟨rfl,hd⟩
 ·have hrun:zuy E W0.heap.size m X W w7 d cs:=hI.runs (zfA hd).1 hE (fun w' hx=>hP w' (hS.ext.trans hx)) (fun w2 w3 X' W' hx hw k=>hA w2 w3 X' W' (hS.ext.trans hx) hw k);rw [← zig hna] at hd;clear hI
  have hcase:∃ f caps,cs=[.string (bs d.form),.func (.func f) #[] caps]:=by
   rcases hrun with ⟨f,e,_⟩ | ⟨f,b,e,_⟩
   ·exact ⟨f,_,e⟩
   ·exact ⟨f,_,e⟩
  obtain ⟨f,caps,rfl⟩:=hcase;have hsl:Slc w7 1 zbe (fun t=>t.length≤100000) (some ⟨bw,0,none⟩) n (t0::ws):=Slc.of_blk zfP (hS.blk 0 rfl) hnl (by omega) (fun t ht=>hlen t ht) (by rw [ze0,Nat.mul_one,List.drop_zero,List.take_of_length_le (by rw [List.length_map];exact Nat.le_refl _)]);have hne:=hS.ne 1 0 rfl rfl (by decide);(conv=>whnf)
  (refine zah tabOk mixed [] No [0,1,2,3,4,5,6,7,8,9] (by kernel_rfl) ?_;rintro w1 rfl;replace hS:=hS.drew)
  (conv=>whnf);refine hS.ldF 1 rfl rfl id ?_;(conv=>whnf);refine ziW (j:=1) (hsl.no (Ext.drawn No w7 (w7.drawn+1))) (Nat.le_refl _) Tryz.underlying22 (by kernel_rfl) (by kernel_rfl) rfl hn1 (fun a1 c1 hsl1 hc1=>?_);(conv=>whnf);refine (zmF d.form ws hsl1 (by cases d<;>decide) (fun t ht=>hlen t (List.mem_cons_of_mem _ ht)) (B.numv.no (hx0.trans hS.ext)) (B.pow.no (hx0.trans hS.ext))).mono ?_;rintro v w8 ⟨⟨a2,c2,xs,k2,rfl,hnum,hown,hfr⟩,hx8⟩;refine KeepC.mk hx8 ?_;have hfr2:zc0 w w8 (.slice a2 xs.length c2):=fun g hg=>⟨Nat.le_trans hS.ext.size (hfr g hg).1,(hfr g hg).2⟩
  replace hS:=hS.no hx8;cases k2 with
  | false =>
   rw [if_neg (by decide)] at hnum;rw [zmj hni hno (by rw [hw];exact hd) (by rw [hw];exact hnum)];(conv=>whnf);(conv=>whnf)
   (refine zah tabOk mixed [] No [0,1,2] (by kernel_rfl) ?_;rintro w1 rfl;replace hS:=hS.drew)
   (conv=>whnf);refine Ev.ldFc ((B.errs.ext (hx0.trans hS.ext) fun _ h=>h.elim).at_ 1 rfl) id ?_;repeat' ((conv=>whnf);first|apply RetC.mk|refine rgO ?_|refine ixO ?_|(first|apply brD|apply zad|apply brN|apply brI)<;>(intro))
   exact ⟨rfl,X,rfl,Turns.of_no h.has hS.ext⟩
  | true =>
   rw [if_pos rfl] at hnum;obtain ⟨hxl,hxg⟩:=zdc hnum;rw [zjl hni hno (by rw [hw];exact hd) (by rw [hw];exact hnum)]
   have hsit:Sits E W0.heap.size m w8 X W bp a2 d.form.length xs:=by
    refine ⟨h.no hS.ext,hS.ext.blk hply id,hplo,?_,?_⟩
    ·rw [← hxl];refine zap zt1 hown (fun x hx=>?_);obtain ⟨i,hi⟩:=List.getElem?_of_mem hx;exact ⟨(hxg i x hi).1,(hxg i x hi).2.1⟩
    ·intro _ b0 o0 e hin;obtain ⟨g,hg,hbg⟩:=hin;have h1:=h.has.lt g hg b0 hbg;have h2:=(hfr2 b0 (by rw [e];rfl)).1;omega
   have htk:d = .tick→m+34 * (at0 xs 1).toNat≤40000000:=fun e=>by
    rw [← zjc (by rw [hw];exact hd) (by rw [hw];exact hnum) e];exact Nat.le_trans (by omega) hm
   rw [hxl];have hx78:=(Ext.drawn No w7 (w7.drawn+1)).trans hx8;rcases hrun with ⟨f2,e2,hc⟩ | ⟨f2,b2,e2,hc⟩
   ·obtain ⟨rfl,rfl⟩:f=f2∧caps = #[]:=by simpa [fnV] using e2
    (conv=>whnf);refine hS.ld 1 rfl rfl ?_;(conv=>whnf);refine (hc hx78 hsit htk).mono ?_;rintro v w9 ⟨rfl,X',hw9,hT9⟩;repeat' ((conv=>whnf);first|apply RetC.mk|refine rgO ?_|refine ixO ?_|(first|apply brD|apply zad|apply brN|apply brI)<;>(intro))
    exact ⟨rfl,X',hw9,(Turns.of_no h.has hS.ext).trans hT9⟩
   ·obtain ⟨rfl,rfl⟩:f=f2∧caps = #[.pointer (some ⟨b2,0,none⟩)]:=by simpa [fnV] using e2
    (conv=>whnf);refine hS.ld 1 rfl rfl ?_;(conv=>whnf);refine (hc hx78 hsit htk).mono ?_;rintro v w9 ⟨rfl,X',hw9,hT9⟩;repeat' ((conv=>whnf);first|apply RetC.mk|refine rgO ?_|refine ixO ?_|(first|apply brD|apply zad|apply brN|apply brI)<;>(intro))
    exact ⟨rfl,X',hw9,(Turns.of_no h.has hS.ext).trans hT9⟩
 ·rw [← zig hna] at hd;rw [zpk hni hno (by rw [hw];exact hd)];(conv=>whnf)
  (refine zah tabOk mixed [] No [0,1,2] (by kernel_rfl) ?_;rintro w1 rfl;replace hS:=hS.drew)
  (conv=>whnf);refine Ev.ldFc ((B.errs.ext (hx0.trans hS.ext) fun _ h=>h.elim).at_ 1 rfl) id ?_;repeat' ((conv=>whnf);first|apply RetC.mk|refine rgO ?_|refine ixO ?_|(first|apply brD|apply zad|apply brN|apply brI)<;>(intro))
  exact ⟨rfl,X,rfl,Turns.of_no h.has hS.ext⟩
end
theorem zpp {w:World}{a:Addr}{v:Value}(h:w.cell? a=some v):a=⟨a.block,a.off,none⟩:=by
 obtain ⟨b,o,s⟩:=a;cases s with
 | none=>rfl
 | some x =>
  unfold World.cell? at h;split at h
  ·simp at h
  ·cases h
theorem zvc (v : Value) (w : World) : (Go.method (Tryz.prog.types.size + Made.depth) 438 v "Error").run Tryz.prog w = .ok (404, v) w := by kernel_rfl
section
variable {w w' : World} {E : Nat → Addr} {W0 : World}
theorem znm {b o:Nat}{t:ByteArray}(h:w.cell? ⟨b,o,none⟩=some (.string t)):CallC Tryz.prog 404 #[.pointer (some ⟨b,o,none⟩)] w fun v w'=>v = .string t∧w=w':=by
 refine zaa tabOk Tryz.func404 (by kernel_rfl) rfl Tryz.ntmps404 (lbO rfl) ?_;(conv=>whnf);refine ldc (o:=o+0) h ?_;repeat' ((conv=>whnf);first|apply RetC.mk|refine rgO ?_|refine ixO ?_|(first|apply brD|apply zad|apply brN|apply brI)<;>(intro))
 exact ⟨rfl,rfl⟩
theorem zrq (e:Addr) (w:World) (hh:Handle w):CallC Tryz.prog 35 #[.iface 438 (.pointer (some e))] w fun v w'=>v = .iface 438 (.pointer (some e))∧Ext No w w':=by
 refine zaa tabOk Tryz.func35 (by kernel_rfl) rfl Tryz.ntmps35 (lbO rfl) ?_;have hS:=St.start w No;(conv=>whnf);refine hS.new (fun b w' hb hS=>?_);(conv=>whnf);refine (zjv e ⟨b,0,none⟩ _ (hh.ext hS.ext)).mono ?_;rintro v w2 ⟨rfl,hx⟩;replace hS:=hS.no hx;repeat' ((conv=>whnf);first|apply RetC.mk|refine rgO ?_|refine ixO ?_|(first|apply brD|apply zad|apply brN|apply brI)<;>(intro))
 exact ⟨rfl,hS.ext⟩
theorem Base.errs_at (B:Base E W0) {w:World}(hx:Ext No W0 w) (k:Nat) (h0:1≤k) (h1:k < 12):∃ b o,E k=⟨b,o,none⟩∧w.cell? ⟨b,o,none⟩=some (.string (bs (zdO k))):=by
 have h:=B.text k h0 h1;have e:=zpp h;refine ⟨(E k).block,(E k).off,e,?_⟩
 have e2:(E k).spot=none:=by
  have:=congrArg Addr.spot e;exact this
 rw [e2] at h;exact hx.cell h id
set_option maxHeartbeats 4000000 in
theorem zpi (B:Base E W0) (hx0:Ext No W0 w) (s:List UInt8) (hl:s.length≤100000) {a:Option Addr}{n c:Nat}{ls:List (List UInt8)}(hx:Slc w 1 zbe (fun t=>t.length≤100000) a n ls) (hcost:zcn ls≤40000000) :
  CallC Tryz.prog 9 #[.string (bs s),.slice a n c] w fun v w'=>(∃ a' c' e,v = .tuple #[.slice a' (scriptS s ls).2.length c',e]∧FaultV E w w' e (scriptS s ls).1.1 (scriptS s ls).1.2∧(zaf 9 1 zbe (.slice a' (scriptS s ls).2.length c') (scriptS s ls).2).holds w'∧zc0 w w' (.slice a' (scriptS s ls).2.length c'))∧Ext No w w':=by
 have hlen:=hx.len;have nilT:∀ w:World,(zaf 9 1 zbe (.slice none 0 0) ([]:List (List UInt8))).holds w:=fun w=>zcy _ _ _
 have hE0:∀ {w'},Ext No w w'→Errs w' E W0.heap.size allErrs:=fun hx=>B.errs.ext (hx0.trans hx) fun _ h=>h.elim
 unfold scriptS;rw [hlen];refine zaa tabOk Tryz.func9 (by kernel_rfl) rfl Tryz.ntmps9 (lbO rfl) ?_;have hS:=St.start w No;(conv=>whnf);refine brD (fun h1=>?_) (fun h1=>?_)
 ·rw [if_pos (show 100 < n by omega)];(conv=>whnf)
  (refine zah tabOk mixed [] No [0,1,2] (by kernel_rfl) ?_;rintro w1 rfl;replace hS:=hS.drew)
  (conv=>whnf);refine Ev.ldFc ((hE0 hS.ext).at_ 2 rfl) id ?_;repeat' ((conv=>whnf);first|apply RetC.mk|refine rgO ?_|refine ixO ?_|(first|apply brD|apply zad|apply brN|apply brI)<;>(intro))
  exact ⟨⟨none,0,_,rfl,.inl ⟨rfl,rfl⟩,nilT _,fun g hg=>by cases hg⟩,hS.ext⟩
 rw [if_neg (show ¬ 100 < n by omega)];(conv=>whnf);refine (zoZ s w hl (B.maxl.no hx0) (B.numv.no hx0) (B.pow.no hx0) (B.prot.no hx0) ((hE0 (Ext.refl _ _)).sub rfl)).mono ?_;rintro v w1 ⟨⟨a1,c1,e1,rfl,hf1,ho1,hfr1⟩,hx1⟩;replace hS:=hS.no hx1;have hfine:=@zjb s;generalize za4 s=R at hf1 ho1 hfr1 hfine ⊢;obtain ⟨rs,code,at_⟩:=R;dsimp only at hf1 ho1 hfr1 hfine ⊢;cases code with
 | succ j =>
  rw [if_pos (Nat.succ_ne_zero j)];obtain ⟨t,u,rfl⟩:=hf1.ne;repeat' ((conv=>whnf);first|apply RetC.mk|refine rgO ?_|refine ixO ?_|(first|apply brD|apply zad|apply brN|apply brI)<;>(intro))
  exact ⟨⟨none,0,_,rfl,hf1,nilT _,fun g hg=>by cases hg⟩,hS.ext⟩
 | zero =>
  rw [if_neg (fun h=>h rfl)]
  obtain rfl:e1 = .nilIface:=by
   rcases hf1 with ⟨_,h⟩ | ⟨_,h,_⟩
   ·exact h
   ·omega
  obtain ⟨hg,rfl⟩:=hfine rfl;have hgr:=fault_good.1 hg;clear hf1 hfine;(conv=>whnf);refine (zts (G:=fun _=>True) (zap zeQ ho1 (fun _ _=>trivial)) (by have:=hgr.1;omega) ((hE0 hS.ext).sub rfl) (hx0.trans hS.ext).size hg).mono ?_;rintro v w2 ⟨X,rfl,hx2,hst,hnew⟩;obtain ⟨hok0,hok1,hok⟩:=WOk.born hgr;have hEp:=EpW.born rs;have hS:St w No w2 (zag X (.born rs)):=hS.madeAll hx2 hst.has hnew;generalize WorldS.born rs=Wb at hst hnew hok hEp hS ⊢;clear hst hnew hx2 hok0 hok1 ho1 hfr1;(conv=>whnf);refine hS.new (fun bp w3 hbp hS=>?_);replace hS:=hS.perm List.perm_append_comm;(conv=>whnf);replace hS:=(hS.rowFirst 9 1 zbe).as (H':=[zaf 9 1 zbe (.slice none 0 0) [],blk bp 90 [.pointer (some ⟨X.w,0,none⟩)]]++zag X Wb) rfl
  refine zaL tabOk (fun σ w' r=>∃ (k:Nat) (a':Option Addr) (c':Nat) (X':WorldA),σ=[(40,.int .i64 k),(39,.int .i64 n),(38,.slice a n c),(10,.slice a' k c'),(9,.pointer (some ⟨bp,0,none⟩))]∧r=n - k∧k≤n∧X'.w=X.w∧St w No w' ([zaf 9 1 zbe (.slice a' k c') (runS (ls.take k) Wb).1,blk bp 90 [.pointer (some ⟨X.w,0,none⟩)]]++zag X' (runS (ls.take k) Wb).2))
   (σ':=[(40,.int .i64 ((0:Nat):Int)),(39,.int .i64 n),(38,.slice a n c),(10,.slice none 0 0),(9,.pointer (some ⟨bp,0,none⟩))]) (n:=n) ⟨rfl,rfl,rfl,rfl,rfl,trivial⟩ ⟨0,none,0,X,rfl,rfl,Nat.zero_le _,rfl,hS⟩ ?_
  clear hS;rintro _ w4 r ⟨k,a',c',X',rfl,rfl,hk,hw,hS⟩;(conv=>whnf);refine brD (fun h3=>?_) (fun h3=>?_)
  ·obtain ⟨b0,o0,t,hat,htl,rfl,hb0,hc⟩:=hx.at (k:=k) (by omega);have hst:=zpX hat Wb;have hcs:=znq hat;have hcl:=zra ls (k+1);obtain ⟨hok1,hEp1⟩:=zls (ls.take k) hok hEp (by omega);rw [Nat.zero_add] at hok1;have hrl:(runS (ls.take k) Wb).1.length=k:=by rw [zfq,List.length_take];omega
   have hm:zcn (ls.take k)+(34 * zaT t+1)≤40000000:=by omega
   clear hcl hcs;generalize runS (ls.take k) Wb=R at *
   have hsd:Stands E W0.heap.size (zcn (ls.take k)) w4 X' R.2:=⟨hS.has.right,hok1,(hE0 hS.ext).sub rfl,fun b hb=>Nat.le_trans hx0.size (by
    obtain ⟨e,he,hbe⟩:=hb;exact ((hS.may e (List.mem_append_right _ he) b hbe).1.elim (fun h=>h.elim) id))⟩
   have hplo:¬ inF (zag X' R.2) bp:=fun hin=>by
    obtain ⟨g,hg,hbg⟩:=hin;exact (List.pairwise_append.1 hS.apart).2.2 _ (List.mem_cons_of_mem _ List.mem_cons_self) g hg bp (List.mem_singleton.2 rfl) hbg
   obtain ⟨hok2,hEp2,hcode⟩:=ziY hok1 hEp1 hm;(conv=>whnf);refine ixO ?_;(conv=>whnf);refine hS.ldr (hc 0 _ rfl) id ?_;(conv=>whnf);refine (zrj B hsd (hx0.trans hS.ext) (by rw [hw];exact hS.blk 1 rfl) hplo hEp1 t htl hm).mono ?_;rintro v w5 ⟨rfl,X2,hX2,hT⟩;replace hX2:=hX2.trans hw;replace hS:=St.callAt (A:=[_,_]) (B:=[]) (H:=zag X' R.2) (by simpa using hS) hT;rw [List.append_nil] at hS;have htell:tellS t R.2=(if (playS t R.2).1.2=0 then (playS t R.2).1.1 else zdO (playS t R.2).1.2,(playS t R.2).2):=rfl;rw [htell] at hst;generalize playS t R.2=P at hst hS hcode ⊢;obtain ⟨⟨tx,j⟩,Z⟩:=P;dsimp only at hst hS hcode ⊢;cases j with
   | zero =>
    rw [if_pos rfl] at hst;replace hS:=hS.perm List.perm_append_comm;(conv=>whnf);refine hS.lit Tryz.underlying22 (sz:=1) (by kernel_rfl) (z:=.string (bs [])) (by kernel_rfl) rfl rfl (cs:=zbe tx) (by rfl) (fun b9 w4 hb9 hS=>?_);replace hS:=(hS.perm List.perm_append_comm).as (H':=[blk b9 9 (zbe tx)]++(zag X2 Z++[zaf 9 1 zbe (.slice a' k c') R.1,blk bp 90 [.pointer (some ⟨X.w,0,none⟩)]])) rfl;replace hS:=(hS.perm (List.Perm.append_left _ List.perm_append_comm)).as (H':=[blk b9 9 (zbe tx)]++([zaf 9 1 zbe (.slice a' k c') R.1,blk bp 90 [.pointer (some ⟨X.w,0,none⟩)]]++zag X2 Z)) rfl;(conv=>whnf);refine hS.appS zfP 1 (ys:=[tx]) (G:=fun _=>True) Tryz.underlying22 (bytes:=16) (by kernel_rfl) (z:=.string (bs [])) (by kernel_rfl) rfl rfl (Slc.of_blk zfP (hS.blk 0 rfl) rfl (by simp) (fun _ _=>trivial) rfl) (by rw [hrl];unfold maxLen;omega) (by rw [hrl];omega) (fun a2 c2 w5 hS=>?_);rw [hrl] at hS ⊢;replace hS:=(hS.as (H':=[_]++([zaf 9 1 zbe (.slice a2 (k+1) c2) (R.1++[tx]),blk bp 90 [.pointer (some ⟨X.w,0,none⟩)]]++zag X2 Z)) rfl).weaken (List.sublist_append_right _ _);(conv=>whnf);refine rgO ?_;(conv=>whnf);refine LoopE.mk ⟨_,[(40,.int .i64 ((k+1:Nat):Int)),(39,_),(38,_),(10,.slice a2 (k+1) c2),(9,_)],?_,⟨rfl,rfl,rfl,rfl,rfl,trivial⟩,⟨k+1,a2,c2,X2,rfl,rfl,by omega,hX2,by rw [hst];exact hS⟩⟩;omega
   | succ j =>
    rw [if_neg (Nat.succ_ne_zero j)] at hst;(conv=>whnf);refine (zrq _ _ (B.hand.ext (hx0.trans hS.ext))).mono ?_;rintro v w6 ⟨rfl,hx6⟩;replace hS:=hS.no hx6;obtain ⟨be,oe,hEe,hte⟩:=B.errs_at (hx0.trans hS.ext) (j+1) (by omega) hcode;rw [hEe];(conv=>whnf);refine ⟨_,_,zvc _ _,?_⟩;refine (znm hte).mono ?_;rintro v w7 ⟨rfl,rfl⟩;replace hS:=hS.perm List.perm_append_comm;(conv=>whnf);refine hS.lit Tryz.underlying22 (sz:=1) (by kernel_rfl) (z:=.string (bs [])) (by kernel_rfl) rfl rfl (cs:=zbe (zdO (j+1))) (by rfl) (fun b9 w4 hb9 hS=>?_);replace hS:=(hS.perm List.perm_append_comm).as (H':=[blk b9 9 (zbe (zdO (j+1)))]++(zag X2 Z++[zaf 9 1 zbe (.slice a' k c') R.1,blk bp 90 [.pointer (some ⟨X.w,0,none⟩)]])) rfl;replace hS:=(hS.perm (List.Perm.append_left _ List.perm_append_comm)).as (H':=[blk b9 9 (zbe (zdO (j+1)))]++([zaf 9 1 zbe (.slice a' k c') R.1,blk bp 90 [.pointer (some ⟨X.w,0,none⟩)]]++zag X2 Z)) rfl;(conv=>whnf);refine hS.appS zfP 1 (ys:=[(zdO (j+1))]) (G:=fun _=>True) Tryz.underlying22 (bytes:=16) (by kernel_rfl) (z:=.string (bs [])) (by kernel_rfl) rfl rfl (Slc.of_blk zfP (hS.blk 0 rfl) rfl (by simp) (fun _ _=>trivial) rfl) (by rw [hrl];unfold maxLen;omega) (by rw [hrl];omega) (fun a2 c2 w5 hS=>?_);rw [hrl] at hS ⊢;replace hS:=(hS.as (H':=[_]++([zaf 9 1 zbe (.slice a2 (k+1) c2) (R.1++[(zdO (j+1))]),blk bp 90 [.pointer (some ⟨X.w,0,none⟩)]]++zag X2 Z)) rfl).weaken (List.sublist_append_right _ _);(conv=>whnf);refine rgO ?_;(conv=>whnf);refine LoopE.mk ⟨_,[(40,.int .i64 ((k+1:Nat):Int)),(39,_),(38,_),(10,.slice a2 (k+1) c2),(9,_)],?_,⟨rfl,rfl,rfl,rfl,rfl,trivial⟩,⟨k+1,a2,c2,X2,rfl,rfl,by omega,hX2,by rw [hst];exact hS⟩⟩;omega
  ·obtain rfl:k=n:=by omega
   rw [List.take_of_length_le (by omega)] at hS;have hrl:(runS ls Wb).1.length=k:=by rw [zfq];exact hlen
   repeat' ((conv=>whnf);first|apply RetC.mk|refine rgO ?_|refine ixO ?_|(first|apply brD|apply zad|apply brN|apply brI)<;>(intro))
   rw [hrl];exact ⟨⟨a',c',_,rfl,.inl ⟨rfl,rfl⟩,hS.get 0 rfl,hS.freshAt 0 rfl⟩,hS.ext⟩
end
end Go.Proofs.YtogjajjdaoihdaaGreatDoor
