/-
  Texts of this claim, joined: PoolPA, PoolPB, PoolPC, AbrA, AbrB, PoolAb, PoolPD, PoolZU, Leave.
-/
import Derived.Test.YtggfpjldhglmeaaGreatDoorSidePlaysK
import Derived.Leaving
import Derived.Conc.Holds
import Derived.SevenTiedAt
set_option linter.unusedSectionVars false
set_option linter.unusedSimpArgs false
set_option linter.unusedVariables false
set_option maxRecDepth 20000
namespace Go.Proofs.YtggfpjldhglmeaaGreatDoor
open Go Tryz
namespace Pool
open Go.Conc Gap Ev Go.RowKit Go.Conc.Lib
local instance:Gap.Leaps:=uH
local instance OG:Kd:=⟨true⟩
def x9 (s:Option Addr × Nat × Nat):List Value:=[.slice s.1 s.2.1 s.2.2]
structure k9 (w:World)(a:Option Addr)(n:Nat)(ls:List (List Int)):Prop where
 len:ls.length=n
 rows:∃ss,bQ w 1 x9 (fun _=>True) a n ss∧∀(i:Nat) s ys,ss[i]?=some s→ls[i]?=some ys→s.2.1=ys.length∧s.2.1≤s.2.2∧bQ w 1 eY (fun v=>v≤9223372036854775807) s.1 s.2.1 ys
theorem k9.no {w w':World}{a:Option Addr}{n:Nat}{ls:List (List Int)}(h:k9 w a n ls)(hx:Ext No w w'):k9 w' a n ls :=
 ⟨h.len,let ⟨ss,h1,h2⟩:=h.rows;⟨ss,h1.no hx,fun i s ys x y=>let ⟨g1,g2,g3⟩:=h2 i s ys x y;⟨g1,g2,g3.no hx⟩⟩⟩
def U8 (rules:List RuleS)(ls:List (List Int))(i:Nat)(v err:Value)(e:bZ):Prop :=
 ∃ys s s',ls[i]?=some ys∧err=.nilIface∧v=.agg #[s,s']∧(∃a c,s=.slice a ys.length c)∧(∃a c,s'=.slice a ((WorldS.born rules).run ys).2.events.length c) ∧
  e=both (az 3 1 eY s ((WorldS.born rules).run ys).1) (az 81 2 fv s' ((WorldS.born rules).run ys).2.events)
section
variable {w w1:World}{E:Nat→Addr}{q b1 b2 n0 c0 n1 c1:Nat}{a0 a1:Option Addr}{G:RuleS→Prop}{rules:List RuleS}{ls:List (List Int)}
theorem TW {α:Type}{sz n:Nat}{enc:α→List Value}{G:α→Prop}{a:Option Addr}{xs:List α}(h:bQ w sz enc G a n xs)(hs:∀b o v,w.cell? ⟨b,o,none⟩=some v→w1.cell? ⟨b,o,none⟩=some v)(h0:∀x:α,∃v,(enc x)[0]?=some v):bQ w1 sz enc G a n xs :=
 ⟨h.len,h.max,fun k x hk=>by
  obtain⟨b,o,h1,h2,h3⟩:=h.cells k x hk;have h4:aH w1 b (o+k*sz) (enc x):=fun j v hj=>hs _ _ _ (h3 j v hj)
  obtain⟨v,xn⟩:=h0 x;exact⟨b,o,h1,sd (h4 0 v xn),h4⟩,h.lg⟩
theorem LY {α:Type}{e:TypeId}{sz:Nat}{enc:α→List Value}{v:Value}{xs:List α}(h:(az e sz enc v xs).holds w):∀b∈(az e sz enc v xs).aW,∃c t,w.heap[b]?=some (.cells c t (0,0)):=fun b hb=>by
 obtain⟨_,⟨h6,_⟩|⟨g',iX,cur,h6,_,h7,_⟩⟩:=h
 ·rw[h6]at hb;simp[az,own,Value.ownBlock]at hb
 ·rw[h6]at hb;obtain rfl:b=g':=by simpa[az,own,Value.ownBlock]using hb
  exact⟨_,_,h7⟩
theorem zpc (gK:w.cell? ⟨b1,0,none⟩=some (.slice a0 n0 c0))(hr:bQ w 5 eW G a0 n0 rules)(VL:w.cell? ⟨b2,0,none⟩=some (.slice a1 n1 c1))(hs:k9 w a1 n1 ls)(Cl:rules.length≤1000)(qR:∀ys∈ls,ys.length≤300)
  (hE:bF w E q cH) (hh:Handle w) (h0:(gg rules).1=0) (hn:n1≤100000) :
  E3 w n1 19 [.pointer (some ⟨b1,0,none⟩),.pointer (some ⟨b2,0,none⟩)] (U8 rules ls):=by
 intro i hi w1 see ee;obtain⟨ss,oV,iZ⟩:=hs.rows;obtain⟨ys,tQ⟩:∃ys,ls[i]?=some ys:=⟨_,List.getElem?_eq_getElem (by rw[hs.len];exact hi)⟩;obtain⟨bs0,os0,s,Dz,_,rfl,_,hsc⟩:=oV.at (k:=i) hi;obtain⟨lF,gZ,hy⟩:=iZ i s ys Dz tQ;have IG:=see _ _ _ gK;have II:=see _ _ _ VL;have cA:=see _ _ _ (hsc 0 _ rfl);have oU:bQ w1 5 eW G a0 n0 rules:=TW hr see fun x=>⟨_,rfl⟩
 have Ka:bQ w1 1 eY (fun v=>v≤9223372036854775807) s.1 s.2.1 ys:=TW hy see fun x=>⟨_,rfl⟩
 have Wx:Handle w1:=see _ _ _ hh;have sR:∀k,cH.contains k=true→w1.cell? ⟨nI k,0,none⟩=some (.iface 390 (.pointer (some (E k)))):=fun k hk=>see _ _ _ (hE.at_ k hk)
 have Ba:bF w1 E w1.heap.size cH:=⟨sR,fun k hk=>sd (sR k hk),fun k hk=>by
  obtain⟨o,h,x⟩:=ee _ (hE.row k hk).1;exact⟨⟨o,h,x⟩,(Array.getElem?_eq_some_iff.1 h).1⟩,hE.inj⟩
 have Oi:=qR ys (List.mem_of_getElem? tQ);obtain⟨sa,sn,sc⟩:=s
 change sn=_ at lF
 subst lF
 change ys.length≤sc at gZ
 change bQ w1 1 eY _ sa ys.length ys at Ka
 have cA:w1.cell? _=some (.slice sa ys.length sc):=cA;have xd:=hr.len;show aa prog 19 #[.int .i64 i,.pointer (some ⟨b1,0,none⟩),.pointer (some ⟨b2,0,none⟩)] w1 _;refine zN func19 ntmps19 ?_;have hS:=St.start w1 No;refine hS.new (fun b4 w2 I3 hS=>?_);refine hS.cK IG id ?_;refine(Ud (oU.no hS.ext) zo ((Ba.sub rfl).ext hS.ext fun _ h=>h.elim) hS.ext.size h0).mono ?_;rintro v w3 ⟨X,rfl,k3,aX,oQ⟩;replace hS:=(hS.qo k3 aX.has oQ).as (H':=[blk b4 43 [.slice none 0 0,.slice none 0 0]]++([]++cQ X (.born rules))) rfl;have bR:=aX.ok;unfold U8;generalize WorldS.born rules=V at hS bR ⊢;have Dm:=MN ys bR zo;refine hS.cK II id ?_;refine ao.mk zo zo ?_;refine hS.cK cA id ?_
 refine(zwC (m:=0) (Ka.no hS.ext) zo gZ (fun gQ b0 o0 ha hb=>by
  have h1:=hS.lJ (dJ.2 (.inr (dJ.2 (.inr hb))));obtain⟨b',o',_,_,_,e,aQ,_⟩:=Ka.at (k:=0) gQ;rw[ha]at e;injection e with e
  injection e with e
  omega) (St.qw hS (Ba.sub rfl) bR) (zsM Ba Wx hS.ext) zo).mono ?_
 rintro v w4 ⟨a8,c8,X2,rfl,V9,hk⟩;replace hS:=(St.uX hS hk).as (H':=[blk b4 43 [.slice none 0 0,.slice none 0 0],az 3 1 eY (.slice a8 ys.length c8) (V.run ys).1]++([]++cQ X2 (V.run ys).2)) rfl;generalize hQ:V.run ys=Q at hS Dm;rw[←V9];refine(zpv (St.qw hS (Ba.sub rfl) Dm)).mono ?_;rintro v w5 ⟨a9,c9,rfl,rW,JG,nR⟩;replace hS:=hS.qp rW JG nR;refine hS.sT 0 fun w6 hS=>?_
 replace hS:=hS.as (H':=([blk b4 43 [.slice a8 ys.length c8,.slice a9 Q.2.events.length c9],az 3 1 eY (.slice a8 ys.length c8) Q.1]++([]++cQ X2 Q.2))++[az 81 2 fv (.slice a9 Q.2.events.length c9) Q.2.events]) rfl;refine hS.lX 0 ?_;(conv=>whnf);have m1:az 3 1 eY (.slice a8 ys.length c8) Q.1∈([blk b4 43 [.slice a8 ys.length c8,.slice a9 Q.2.events.length c9],az 3 1 eY (.slice a8 ys.length c8) Q.1]++([]++cQ X2 Q.2))++[az 81 2 fv (.slice a9 Q.2.events.length c9) Q.2.events]:=List.mem_of_getElem? (i:=1) rfl;have m2:az 81 2 fv (.slice a9 Q.2.events.length c9) Q.2.events∈([blk b4 43 [.slice a8 ys.length c8,.slice a9 Q.2.events.length c9],az 3 1 eY (.slice a8 ys.length c8) Q.1]++([]++cQ X2 Q.2))++[az 81 2 fv (.slice a9 Q.2.events.length c9) Q.2.events]:=List.mem_append_right _ (List.mem_singleton.2 rfl);refine⟨hS.ext,.agg #[.slice a8 ys.length c8,.slice a9 Q.2.events.length c9],.nilIface,both (az 3 1 eY (.slice a8 ys.length c8) Q.1) (az 81 2 fv (.slice a9 Q.2.events.length c9) Q.2.events),rfl,⟨_,_,_,_,_,_,rfl⟩,.inl rfl,⟨ys,_,_,tQ,rfl,rfl,⟨_,_,rfl⟩,⟨_,_,by rw[hQ]⟩,by rw[hQ]⟩,zoz fq fq,⟨hS.each _ m1,hS.each _ m2⟩,fun b hb=>?_⟩;rcases List.mem_append.1 hb with hb|hb
 ·exact⟨(hS.may _ m1 b hb).1.resolve_left id,LY (hS.each _ m1) b hb⟩
 ·exact⟨(hS.may _ m2 b hb).1.resolve_left id,LY (hS.each _ m2) b hb⟩
end
end Pool
namespace Pool
open Go.Conc Gap Ev Go.RowKit Go.Conc.Lib
local instance:Gap.Leaps:=onLeaps
attribute [local instance] OG
def wa (rules:List RuleS)(n:Nat)(k:Int):Nat × Int:=if nB k n=0 then gg rules else (nB k n,-1)
def SQ (w:World)(bo n:Nat)(rules:List RuleS)(ls:List (List Int)):Prop:=∃xs:List rH,bQ w 2 A2 (fun _=>True) (some ⟨bo,0,none⟩) n xs ∧
 ∀(i:Nat) (ys:List Int),ls[i]?=some ys→∃x a c a' c',xs[i]?=some x∧x.1=.agg #[.slice a ys.length c,.slice a' ((WorldS.born rules).run ys).2.events.length c'] ∧
  bQ w 1 eY (fun _=>True) a ys.length ((WorldS.born rules).run ys).1∧bQ w 2 fv (fun _=>True) a' ((WorldS.born rules).run ys).2.events.length ((WorldS.born rules).run ys).2.events
section
variable {w:World}{E:Nat→Addr}{n0 c0 n1 c1:Nat}{a0 a1:Option Addr}{G:RuleS→Prop}{rules:List RuleS}{ls:List (List Int)}
theorem ztr (hr:bQ w 5 eW G a0 n0 rules)(hs:k9 w a1 n1 ls)(Cl:rules.length≤1000)(qR:∀ys∈ls,ys.length≤300)(hE:bF w E w.heap.size cH)(hh:Handle w)(k:Int) :
  aa prog 5 #[.slice a0 n0 c0,.slice a1 n1 c1,.int .i64 k] w fun v w'=>(∃ov ev,v=.tuple #[ov,ev]∧dS E w w' ev (wa rules n1 k).1 (wa rules n1 k).2∧((wa rules n1 k).1≠0→ov=.slice none 0 0)∧((wa rules n1 k).1=0→∃bo,ov=.slice (some ⟨bo,0,none⟩) n1 n1∧SQ w' bo n1 rules ls))∧Ext No w w':=by
 have hm:n1≤9223372036854775807:=let ⟨_,h,_⟩:=hs.rows;h.max;have hS:=St.start w No;unfold wa;refine zN func5 ntmps5 ?_;refine hS.new (fun b1 w' lp hS=>?_);refine hS.new (fun b2 w' jc hS=>?_);refine hS.lD 1 ?_;refine hS.cn (SZ k n1 _ ((hE.cells.sub rfl).ext hS.ext fun _ h=>h.elim)) fun w1 hS=>?_
 by_cases oU:nB k n1=0
 rotate_left
 ·rw[if_neg oU];obtain⟨j,hj⟩:∃j,nB k n1=j+1:=⟨nB k n1-1,by omega⟩;rw[hj];refine zE ?_;exact⟨⟨_,_,rfl,.inl ⟨rfl,rfl⟩,fun _=>rfl,fun h=>by cases h⟩,hS.ext⟩
 rw[if_pos oU,oU]
 have hk:1≤k∧k≤16∧n1≤100:=by
  unfold nB at oU;split at oU
  ·cases oU
  ·split at oU
   ·cases oU
   ·omega
 refine hS.lD 0 ?_;(conv=>whnf);by_cases h0:(gg rules).1=0
 rotate_left
 ·refine(zve (hr.no hS.ext) ((hE.sub rfl).ext hS.ext fun _ h=>h.elim) h0).mono ?_;rintro v w2 ⟨⟨e,rfl,hF⟩,fC⟩;have hsz:=hS.ext.size;obtain⟨j,hj⟩:∃j,(gg rules).1=j+1:=⟨(gg rules).1-1,by omega⟩;rw[hj]at hF ⊢;rcases hF with⟨e1,rfl⟩|⟨e1,e2,f,rfl,e3,e4⟩
  ·refine zE ?_;exact⟨⟨_,_,rfl,.inl ⟨e1,rfl⟩,fun _=>rfl,fun h=>by cases h⟩,hS.ext.trans fC⟩
  ·refine zE ?_;exact⟨⟨_,_,rfl,.inr ⟨e1,e2,f,rfl,Nat.le_trans hsz e3,e4⟩,fun _=>rfl,fun h=>by cases h⟩,hS.ext.trans fC⟩
 refine(Ud (hr.no hS.ext) (by have:=hr.len;omega) ((hE.sub rfl).ext hS.ext fun _ h=>h.elim) hS.ext.size h0).mono ?_;rintro v w2 ⟨X,rfl,fC,_,_⟩;replace hS:=hS.no fC;refine hS.lD 1 ?_;(conv=>whnf);have IL:=hE.ext hS.ext fun _ h=>h.elim
 have hall:=Uw (many:=n1) (workers:=k.toNat) zo zo zo (zpc (w:=w2) (c0:=c0) (c1:=c1) (b1:=b1) (b2:=b2) ((hS.blk 0 rfl).cell 0) (hr.no hS.ext) ((hS.blk 1 rfl).cell 0) (hs.no hS.ext) Cl qR IL (hh.ext hS.ext) h0 zo);rw[show((k.toNat:Nat):Int)=k by omega]at hall;refine hall.mono ?_;rintro v w3 ⟨bo,be,xs,es,rfl,z5,FZ,cT,sQ⟩;have ij:Ext No w w3:=hS.ext.trans cT.ext
 have qY:SQ w3 bo n1 rules ls:=⟨xs,fE Nu (cT.get 0 rfl) fun _ _=>trivial,fun i ys hi=>by
  have ez:i<n1:=by
   have:=(List.getElem?_eq_some_iff.1 hi).1;have:=hs.len;omega
  obtain⟨x,y,e,h1,h2,_,⟨ys',s,s',vt,_,hx,⟨a,c,rfl⟩,⟨a',c',rfl⟩,rfl⟩,_,⟨h3,h4⟩,_⟩:=sQ i ez;obtain rfl:=Option.some.inj (hi.symm.trans vt);exact⟨x,a,c,a',c',h1,hx,fE kU h3 fun _ _=>trivial,fE ua h4 fun _ _=>trivial⟩⟩
 unfold A3;rw[h0];refine zE ?_;exact⟨⟨_,_,rfl,.inl ⟨(Qp rules).2 h0,rfl⟩,fun h=>absurd rfl h,fun _=>⟨bo,rfl,qY⟩⟩,ij⟩
end
abbrev Sl:=Option Addr × Nat × Nat
def B0 (z:Sl × List Int):bZ:=az 3 1 eY (.slice z.1.1 z.1.2.1 z.1.2.2) z.2
def rE (zs:List (Sl × List Int)):bZ:=⟨zs.flatMap fun z=>(B0 z).aW,fun w=>∀z∈zs,(B0 z).holds w⟩
theorem QF (zs:List (Sl × List Int)):(rE zs).Local:=fun w w' hk h z hz=>fq w w' (fun b hb=>hk b (List.mem_flatMap.2 ⟨z,hz,hb⟩)) (h z hz)
theorem M5:cR 1 x9:=⟨fun _=>rfl,fun _=>rfl,by decide⟩
section
variable {w0 w:World}{S:Nat→Prop}{A:bZ}{zs:List (Sl × List Int)}{z:Sl × List Int}
theorem St.copy (h:St w0 S w [A,rE zs,B0 z]):St w0 S w [A,rE (zs++[z])]:=by
 have hf:∀b,b∈(rE (zs++[z])).aW→b∈(rE zs).aW∨b∈(B0 z).aW:=fun b hb=>by
  simp only[rE,List.flatMap_append,List.mem_append,List.flatMap_cons,List.flatMap_nil,List.append_nil]at hb;exact hb
 have h1:=h.dv [0] zd;refine St.add (H:=[A]) h1 (QF _) (fun y hy=>?_) (fun b hb=>?_) fun f dH b hb dk=>?_
 ·rcases List.mem_append.1 hy with hy|hy
  ·exact(h.get 1 rfl:(rE zs).holds w) y hy
  ·obtain rfl:=List.mem_singleton.1 hy;exact h.get 2 rfl
 ·rcases hf b hb with hb|hb
  ·exact h.may (rE zs) zi b hb
  ·exact h.may (B0 z) zi b hb
 ·obtain rfl:=List.mem_singleton.1 dH;have jY:=h.apart;rcases hf b dk with hc|hc
  ·exact mj m4 jY (i:=0) (j:=1) rfl rfl zd b hb hc
  ·exact mj m4 jY (i:=0) (j:=2) rfl rfl zd b hb hc
end
end Pool
section
open Ev Gap
variable [Gap.Leaps]
variable {w:World}
namespace Ev
section
variable {P:Program}{τ:Tab}{N:Nat}{σ:cr}
def F8 (P:Program)(τ:Tab)(N:Nat)(body:Code)(Q:EQ):Nat→cr→World→Prop
 | 0,_,_=>False
 | n+1,σ,w=>oP P τ N body (B7 (fun _=>F8 P τ N body Q n) Q) σ w
theorem yd (hτ:cO P τ)(n:Nat){body:Code}{Q:EQ}(h:F8 P τ N body Q n σ w):k7 P τ N body Q σ w:=by
 refine⟨fun a hf=>SB (fun n a w=>∃σ,Fits N σ a∧F8 P τ N body Q n σ w) ⟨σ,hf,h⟩ fun n a w ⟨σ,hf,hI⟩=>?_⟩;cases n with
 | zero=>exact hI.elim
 | succ n =>
  unfold F8 at hI;rw[wb]at hI;refine xM (vQ hτ body _ σ a w hf hI) fun e a w hq=>?_
  cases e with
  | normal =>
   obtain⟨σ₁,Jk,hq⟩:=hq;exact⟨n,Nat.lt_succ_self n,σ₁,Jk,hq⟩
  | exit id=>exact hq
  | ret=>exact hq
  | goto l=>exact hq.elim
  | panic ch=>exact hq.elim
  | outgrown=>exact hq.elim
end
end Ev
section
variable {P:Program}{t:TypeId}{l:List UInt8}{k:Value→Prop}{q q':IntKind}{i:Int}
theorem Km (hu:P.underlying t=some .string){x:UInt8}(hx:l[i.toNat]?=some x)(h0:0≤i)(hk:k (.int .u8 (x.toNat:Int))):aB P (Instr.index t (.string (bs l)) (.int q i)) k:=wu (j:=i.toNat) hu zo hx hk
theorem Ec (hu:P.underlying t=some .string){r:List UInt8}(hr:l.take i.toNat=r)(h0:0≤i∧i≤l.length)(hk:k (.string (bs r))):aB P (Instr.sliceAt t (.string (bs l)) none (some (.int q' i)) none) k:=pW (b:=i.toNat) hu zo zo hr hk
theorem Eb (hu:P.underlying t=some .string){r:List UInt8}(hr:l.drop i.toNat=r)(h0:0≤i∧i≤l.length)(hk:k (.string (bs r))):aB P (Instr.sliceAt t (.string (bs l)) (some (.int q' i)) none none) k:=vV (b:=i.toNat) hu zo zo hr hk
end
def rM:List UInt8:=[100,101,110,121,32,105,110,32,117,100,112,32,49,45,50]
section
theorem Ah:aa prog 60 #[.string (bs [100,101,110,121,32,105,110,32,117,100,112,32,49,45,50,10]),.string (bs [10])] w fun v w'=>v=.string (bs rM)∧w=w':=by
 refine zN func60 ntmps60 ?_;refine zN func119 ntmps119 ?_;refine zN func181 ntmps181 ?_;refine ag.mk zd zd ?_;refine Eb underlying9 rfl zd ?_;refine rF ?_;refine zE ?_;refine ag.mk zd zd ?_;refine Ec underlying9 rfl zd ?_;refine zE ?_;refine zE ?_
 exact⟨congrArg (fun l=>Value.string (bs l)) zd,rfl⟩
theorem Cf:aa prog 121 #[.string (bs [49,45,50]),.string (bs [45])] w fun v w'=>v=.tuple #[.string (bs [49]),.string (bs [50]),.bool true]∧Ext No w w':=by
 refine zN func121 ntmps121 ?_;have hS:=St.start w No;refine zN func182 ntmps182 ?_;refine(RX _ _ _).mono ?_;rintro v w' ⟨rfl,rfl⟩;rw[show Lib.indexByte [49,45,50] 45=1 from rfl];(conv=>whnf);refine hS.dr [] No [0,1,2,3,4,5,6,7,8,9,10,11] fun w1 hS=>?_
 refine Ec underlying9 rfl zd ?_;refine ag.mk zd zd ?_;refine Eb underlying9 rfl zd ?_;exact zF
theorem Rt {e:TypeId}{sz n b:Nat}{α:Type}{enc:α→List Value}{xs:List α}(h:(az e sz enc (.slice (some ⟨b,0,none⟩) n n) xs).holds w):bC w b e (xs.flatMap enc):=by
 obtain⟨ft,⟨h6,_⟩|⟨g',iX,cur,h6,_,h7,h8,h9,wN,A7⟩⟩:=h
 ·cases h6
 injection h6 with e1 e2 e3
 injection e1 with e1
 injection e1 with e1
 subst e1 e3;show w.heap[b]?=_;rw[h7,←A7,List.take_of_length_le (by simp[wN,e2])]
set_option maxHeartbeats 1000000 in
theorem Af:aa prog 59 #[.string (bs rM),.string (bs [10])] w fun v w'=>(∃b,v=.slice (some ⟨b,0,none⟩) 1 1∧w.heap.size≤b∧bC w' b 9 [.string (bs rM)])∧Ext No w w':=by
 have hS:=St.start w No;refine zN func59 ntmps59 ?_;refine zN func118 ntmps118 ?_;refine rF ?_;refine(Su _ 10 _).mono ?_;rintro v w1 ⟨rfl,rfl⟩;rw[show List.count 10 rM=0 from rfl];refine ag.mk zd zd ?_;refine ag.mk zd zd ?_;refine hS.mkSlice (n:=1) (xs:=[[]]) (enc:=Ny) (sz:=1) (bytes:=16) (e:=9) (z:=.string (bs [])) underlying56 zk zk zd zd zd rfl (by show(madeCells #[Value.string (bs [])] (1*1)).toList=_;rw[EN];rfl) (fun b w2 hb hS=>?_);refine ag.mk zd zd ?_;refine yd aj 1 ?_;refine ao.mk zd zd ?_;refine hS.jN Fh (k:=0) (x:=rM) 0 rfl rfl rfl rfl (fun w3 _ hS=>?_);refine ag.mk zd zd ?_;refine UQ (h:=1) underlying56 zk rfl zd ?_;refine zE ?_;exact⟨⟨b,rfl,hb,Rt (hS.get 0 rfl)⟩,hS.ext⟩
set_option maxHeartbeats 1000000 in
theorem Ag:aa prog 59 #[.string (bs rM),.string (bs [32])] w fun v w'=>(∃b,v=.slice (some ⟨b,0,none⟩) 4 4∧w.heap.size≤b∧bC w' b 9 [.string (bs [100,101,110,121]),.string (bs [105,110]),.string (bs [117,100,112]),.string (bs [49,45,50])])∧Ext No w w':=by
 have hS:=St.start w No;refine zN func59 ntmps59 ?_;refine zN func118 ntmps118 ?_;refine rF ?_;refine(Su _ 32 _).mono ?_;rintro v w1 ⟨rfl,rfl⟩;rw[show List.count 32 rM=3 from rfl];refine ag.mk zd zd ?_;refine ag.mk zd zd ?_;refine hS.mkSlice (n:=4) (xs:=[[],[],[],[]]) (enc:=Ny) (sz:=1) (bytes:=16) (e:=9) (z:=.string (bs [])) underlying56 zk zk zd zd zd rfl (by show(madeCells #[Value.string (bs [])] (4*1)).toList=_;rw[EN];rfl) (fun b w2 hb hS=>?_);refine ag.mk zd zd ?_;refine yd aj 4 ?_;refine(LQ rM 32 _).mono ?_;rintro v w' ⟨rfl,rfl⟩;rw[show Lib.indexByte rM 32=4 from rfl];refine ag.mk zd zd ?_;refine Ec underlying9 (r:=[100,101,110,121]) rfl zd ?_;refine ao.mk zd zd ?_;refine hS.jN Fh (k:=0) (x:=[100,101,110,121]) 0 rfl rfl rfl rfl (fun w3 _ hS=>?_);refine ag.mk zd zd ?_;refine Eb underlying9 (r:=[105,110,32,117,100,112,32,49,45,50]) rfl zd ?_;refine ag.mk zd zd ?_;refine(LQ [105,110,32,117,100,112,32,49,45,50] 32 _).mono ?_;rintro v w' ⟨rfl,rfl⟩;rw[show Lib.indexByte [105,110,32,117,100,112,32,49,45,50] 32=2 from rfl];refine ag.mk zd zd ?_;refine Ec underlying9 (r:=[105,110]) rfl zd ?_;refine ao.mk zd zd ?_;refine hS.jN Fh (k:=1) (x:=[105,110]) 0 rfl rfl rfl rfl (fun w3 _ hS=>?_);refine ag.mk zd zd ?_;refine Eb underlying9 (r:=[117,100,112,32,49,45,50]) rfl zd ?_;refine ag.mk zd zd ?_;refine(LQ [117,100,112,32,49,45,50] 32 _).mono ?_;rintro v w' ⟨rfl,rfl⟩;rw[show Lib.indexByte [117,100,112,32,49,45,50] 32=3 from rfl];refine ag.mk zd zd ?_;refine Ec underlying9 (r:=[117,100,112]) rfl zd ?_;refine ao.mk zd zd ?_;refine hS.jN Fh (k:=2) (x:=[117,100,112]) 0 rfl rfl rfl rfl (fun w3 _ hS=>?_);refine ag.mk zd zd ?_;refine Eb underlying9 (r:=[49,45,50]) rfl zd ?_;refine ag.mk zd zd ?_;refine ao.mk zd zd ?_;refine hS.jN Fh (k:=3) (x:=[49,45,50]) 0 rfl rfl rfl rfl (fun w3 _ hS=>?_);refine ag.mk zd zd ?_;refine UQ (h:=4) underlying56 zk rfl zd ?_;refine zE ?_;exact⟨⟨b,rfl,hb,Rt (hS.get 0 rfl)⟩,hS.ext⟩
theorem zzj (c:UInt8)(n:Int)(h:(c=49∧n=1)∨(c=50∧n=2)):aa prog 183 #[.string (bs [c])] w fun v w'=>v=.tuple #[.int .i64 n,.nilIface]∧Ext No w w':=by
 have hS:=St.start w No;rcases h with⟨rfl,rfl⟩|⟨rfl,rfl⟩
 all_goals
  refine zN func183 ntmps183 ?_;refine zN func217 ntmps217 ?_;refine Km underlying9 rfl zd ?_;refine Iq ?_;refine Km underlying9 rfl zd ?_;refine Iq ?_;refine zyb hS underlying9 underlying124 underlying5 (fun b cap w2 hb gZ hS=>?_);refine yd aj 2 ?_;refine ao.mk zd zd ?_;refine g9 ((hS.get 0 rfl:aH w2 b 0 ([_].flatMap j1)) 0 _ rfl) ?_;refine Vl (.inr (.inl rfl)) rfl ?_;refine VA ?_;refine ag.mk zd zd ?_;refine wo (kd:=.i64) zk underlying3 rfl ?_;refine ag.mk zd zd ?_;refine ag.mk zd zd ?_;refine Km underlying9 rfl zd ?_;refine Iq ?_;refine zE ?_;exact zF
theorem Nh (c:UInt8)(n:Int)(h:(c=49∧n=1)∨(c=50∧n=2)):aa prog 184 #[.int .i64 n] w fun v w'=>v=.string (bs [c])∧w=w':=by
 rcases h with⟨rfl,rfl⟩|⟨rfl,rfl⟩
 all_goals
  refine zN func184 ntmps184 ?_;refine zN func219 ntmps219 ?_;refine zN func258 ntmps258 ?_;refine zN func273 ntmps273 ?_;refine ag.mk zd zd ?_;refine wz (l:=Lib.digits36.data.toList) underlying9 rfl rfl zd zd rfl ?_;refine zE ?_;refine zE ?_;refine zE ?_;refine zE ?_;exact⟨congrArg (fun l=>Value.string (bs l)) zd,rfl⟩
theorem Ts (c:UInt8)(n:Int)(h:(c=49∧n=1)∨(c=50∧n=2)):aa prog 122 #[.string (bs [c])] w fun v w'=>v=.tuple #[.int .i64 n,.bool true]∧Ext No w w':=by
 refine zN func122 ntmps122 ?_;have hS:=St.start w No;refine hS.cn (zzj c n h) fun w1 hS=>?_
 refine(Nh c n h).mono ?_;rintro v w2 ⟨rfl,rfl⟩;refine rF ?_;rw[decide_eq_true rfl];exact zF
theorem zzx (hP:eL w){c:Nat}:aa prog 120 #[.slice (some ⟨12,0,none⟩) 3 c,.string (bs [117,100,112])] w fun v w'=>v=.int .i64 1∧w=w':=by
 refine zN func120 ntmps120 ?_;refine yd aj 2 ?_;refine ao.mk zd zd ?_;refine g9 (hP.one 0 rfl) ?_;refine rF ?_;refine ag.mk zd zd ?_;refine ao.mk zd zd ?_;refine g9 (hP.one 1 rfl) ?_;refine rF ?_;exact zH
set_option maxHeartbeats 1000000 in
theorem zys {b:Nat}(hc:aH w b 0 [.string (bs [100,101,110,121]),.string (bs [105,110]),.string (bs [117,100,112]),.string (bs [49,45,50])]):aa prog 185 #[.slice (some ⟨b,0,none⟩) 4 4,.string (bs [32])] w fun v w'=>v=.string (bs rM)∧Ext No w w':=by
 have hS:=St.start w No;refine zN func185 ntmps185 ?_;refine ag.mk zd zd ?_;refine bO.mk zd ?_;refine ag.mk zd zd ?_;refine ag.mk zd zd ?_;refine ag.mk zd zd ?_;refine ag.mk zd zd ?_;refine yd aj 5 ?_;refine ao.mk zd zd ?_;refine hS.cK (hc 0 _ rfl) id ?_;refine ag.mk zd zd ?_;refine ag.mk zd zd ?_;refine ag.mk zd zd ?_;refine ao.mk zd zd ?_;refine hS.cK (hc 1 _ rfl) id ?_;refine ag.mk zd zd ?_;refine ag.mk zd zd ?_;refine ag.mk zd zd ?_;refine ao.mk zd zd ?_;refine hS.cK (hc 2 _ rfl) id ?_;refine ag.mk zd zd ?_;refine ag.mk zd zd ?_;refine ag.mk zd zd ?_;refine ao.mk zd zd ?_;refine hS.cK (hc 3 _ rfl) id ?_;refine ag.mk zd zd ?_;refine ag.mk zd zd ?_;refine ag.mk zd zd ?_;refine hS.new (fun bB w2 hb cT=>?_);replace cT:St w No w2 [blk bB 337 [.pointer none,.slice none 0 0]]:=cT;refine(zsA (cT.blk 0 rfl) 15 zd zd).mono ?_;rintro v1 w3 ⟨g,cap,N5,lj⟩;replace lj:St w No w3 (wI bB g cap []):=Yk lj cT.ext fun d hd=>.inr (hd ▸ hb)
 refine ao.mk zd zd ?_;refine lj.cK (hc 0 _ rfl) id ?_;refine(Az (l:=[100,101,110,121]) lj (by simp;omega)).mono ?_;rintro v2 w4 ln;refine ztL underlying56 zk zd zd zd ?_;refine yd aj 4 ?_;refine ao.mk zd zd ?_;refine ln.cK (hc 1 _ rfl) id ?_;refine(Az (l:=[32]) ln (by simp;omega)).mono ?_;rintro v2 w4 ln;refine(Az (l:=[105,110]) ln (by simp;omega)).mono ?_;rintro v2 w4 ln;refine ag.mk zd zd ?_;refine ao.mk zd zd ?_;refine ln.cK (hc 2 _ rfl) id ?_;refine(Az (l:=[32]) ln (by simp;omega)).mono ?_;rintro v2 w4 ln;refine(Az (l:=[117,100,112]) ln (by simp;omega)).mono ?_;rintro v2 w4 ln;refine ag.mk zd zd ?_;refine ao.mk zd zd ?_;refine ln.cK (hc 3 _ rfl) id ?_;refine(Az (l:=[32]) ln (by simp;omega)).mono ?_;rintro v2 w4 ln;refine(Az (l:=[49,45,50]) ln (by simp;omega)).mono ?_;rintro v2 w4 ln;refine ag.mk zd zd ?_;have oR:w.heap.size≤g:=(ln.may _ (List.mem_cons_of_mem _ (List.mem_cons_self ..)) g (by simp[az,own,Value.ownBlock])).1.resolve_left id;refine(zow ln zd zd).mono ?_;rintro v8 w8 ⟨rfl,xw⟩;refine zE ?_;exact⟨congrArg (fun l=>Value.string (bs l)) zd,ln.ext.then xw fun d hd=>.inr (hd ▸ oR)⟩
end
abbrev ym:RuleS:=⟨false,false,1,1,2⟩
section
theorem zyu (hP:eL w):aa prog 123 #[.agg (eW ym).toArray] w fun v w'=>v=.string (bs rM)∧Ext No w w':=by
 refine zN func123 ntmps123 ?_;have hS:=St.start w No;refine hS.new (fun b w' hb hS=>?_);(conv=>whnf);refine hS.dr [] No [0,1,3,4,6,7,8,9,10,11,14,15,2,5,12,13,16,17,18,19,20] fun w1 hS=>?_
 refine hS.bU 0 rfl rfl id ?_;refine hS.bU 0 rfl rfl id ?_;refine hS.bU 0 rfl rfl id ?_;refine ao.mk zd zd ?_;refine hS.cV (hP.one 1 rfl) id id ?_;refine hS.bU 0 rfl rfl id ?_;refine hS.bU 0 rfl rfl id ?_;refine(Ue false [97,108,108,111,119] [100,101,110,121] _).mono ?_;rintro v w1 ⟨rfl,aU⟩;replace hS:=hS.no aU;have hK:=aU;refine ae.mk hK ?_;refine(Ue false [111,117,116] [105,110] _).mono ?_;rintro v w2 ⟨rfl,aU⟩;replace hS:=hS.no aU;replace hK:=hK.trans aU;refine ae.mk hK ?_;refine(Nh 49 1 (.inl ⟨rfl,rfl⟩)).mono ?_;rintro v w3 ⟨rfl,rfl⟩;refine ae.mk hK ?_;refine kt (b:=[45]) zd ?_;refine(Nh 50 2 (.inr ⟨rfl,rfl⟩)).mono ?_;rintro v w4 ⟨rfl,rfl⟩;refine ae.mk hK ?_;refine kt zd ?_;refine hS.fz (cs:=[.string (bs [100,101,110,121]),.string (bs [105,110]),.string (bs [117,100,112]),.string (bs [49,45,50])]) underlying56 (sz:=1) zk (z:=.string (bs [])) zk rfl rfl (by rfl) (fun bl w5 gY aU hS=>?_);replace hK:=hK.trans aU;refine ae.mk hK ?_;refine(zys ((hS.blk 1 rfl).cells rfl)).mono ?_;rintro v w6 ⟨rfl,aU⟩;replace hS:=hS.no aU;replace hK:=hK.trans aU;refine ae.mk hK ?_;exact zF
theorem zyI (hP:eL w):aa prog 61 #[.string (bs rM)] w fun v w'=>v=.tuple #[.agg (eW ym).toArray,.bool true]∧Ext No w w':=by
 refine zN func61 ntmps61 ?_;have hS:=St.start w No;refine hS.new (fun b2 w' jc hS=>?_);refine Ag.mono ?_;rintro v w1 ⟨⟨b,rfl,hb,hB⟩,hx⟩;replace hS:=hS.made hx (eh _ _ _) hB (by intro c hc;obtain rfl:=List.mem_singleton.1 hc;exact⟨hb,hB.lt⟩);(conv=>whnf);refine hS.dr [] No [0,1,2,3,4,5] fun w1 hS=>?_
 refine ao.mk zd zd ?_;refine hS.bU 1 rfl rfl id ?_;refine(zzx (hP.no hS.ext)).mono ?_;rintro v w2 ⟨rfl,rfl⟩;refine ae.mk (Ext.refl _ _) ?_;refine ao.mk zd zd ?_;refine hS.lD 1 ?_;refine Cf.mono ?_;rintro v w3 ⟨rfl,hx⟩;replace hS:=hS.no hx;refine hS.cn (Ts 49 1 (.inl ⟨rfl,rfl⟩)) fun w4 hS=>?_
 refine hS.cn (Ts 50 2 (.inr ⟨rfl,rfl⟩)) fun w5 hS=>?_
 conv=>whnf
 refine hS.dr [] ((·≠b)) [0,1,2,3,4,5,6,7,8,9,10,11,12,13] fun w1 hS=>?_
 have hK:=hS.ref (·≠b);refine ao.mk zd zd ?_;refine hS.bU 1 rfl rfl (fun h=>h rfl) ?_;refine rF ?_;refine ao.mk zd zd ?_;refine hS.bU 1 rfl rfl (fun h=>h rfl) ?_;refine rF ?_;refine hS.DZ hK (fun b13 w' hK hS=>ae.mk hK ?_);refine hS.kD hK 2 rfl zl rfl (hS.ne 2 1 rfl rfl zd) (fun w' hK hS=>ae.mk hK ?_);(conv=>whnf);refine hS.dr [] ((· = b2)) [0,1,3,2,4,5,6] fun w1 hS=>?_
 have hK:=hS.ref (· = b2);refine hS.fK 2 rfl rfl (hS.ne 2 0 rfl rfl zd) ?_;refine hS.fK 2 rfl rfl (hS.ne 2 0 rfl rfl zd) ?_;refine(zyu (hP.no hS.ext)).mono ?_;rintro v w6 ⟨rfl,hx⟩;replace hS:=hS.no hx;replace hK:=hK.trans hx.aF;refine ae.mk hK ?_;refine rF ?_;refine hS.kD hK 0 rfl zl rfl rfl (fun w' hK hS=>ae.mk hK ?_);refine hS.lX 0 ?_;exact zF
end
end
namespace Pool
open Go.Conc Gap Ev Go.RowKit Go.Conc.Lib
attribute [local instance] Kn
def zzc (_:Nat)(v err:Value)(e:bZ):Prop:=∃a c,err=.nilIface∧v=.slice a 1 c∧e=az 58 5 eW v [ym]
section
variable {w:World}{E:Nat→Addr}{q b2 bl:Nat}
section
local instance DV:Gap.Leaps:=uH
theorem zwJ (hP:eL w)(hE:kI w E q [2]):aa prog 30 #[.string (bs Ia)] w fun v w'=>(∃a c,v=.tuple #[.slice a 1 c,.nilIface]∧(az 58 5 eW (.slice a 1 c) [ym]).holds w'∧m7 w w' (.slice a 1 c))∧Ext No w w':=by
 refine zN func30 ntmps30 ?_;have hS:=St.start w No;refine rF ?_;refine Ah.mono ?_;rintro v w1 ⟨rfl,rfl⟩;refine Af.mono ?_;rintro v w2 ⟨⟨b,rfl,hb,hB⟩,hx⟩;replace hS:=hS.made hx (eh _ _ _) hB (by intro c hc;obtain rfl:=List.mem_singleton.1 hc;exact⟨hb,hB.lt⟩);have hS:=hS.add (fq (e:=58) (enc:=eW) (sz:=5) (v:=.slice none 0 0) (xs:=[])) (zoZ _) (by simp[az,own,Value.ownBlock]) (by simp[az,own,Value.ownBlock]);refine yd aj 2 ?_;refine ao.mk zd zd ?_;refine hS.lD 0 ?_;refine hS.cn (zyI (hP.no hS.ext)) fun w3 hS=>?_
 refine hS.new (fun b7 w' I4 hS=>?_);refine hS.sT 2 fun w' hS=>?_
 refine hS.lX 2 ?_;refine hS.lit (cs:=eW ym) underlying22 (sz:=5) zk (z:=.agg (eW HL).toArray) zk rfl rfl (by rfl) (fun bl w' gY hS=>?_);have hx:bQ w' 5 eW (fun _=>True) (some ⟨bl,0,none⟩) 1 [ym]:=bQ.bG vY (hS.blk 3 rfl) rfl zd (fun _ _=>trivial) rfl;refine hS.d8 vY 1 underlying22 (bytes:=32) zk (z:=.agg (eW HL).toArray) zk rfl rfl hx zd zd (fun a2 c2 w' hS=>?_);refine ag.mk zd zd ?_;(conv=>whnf);have hx:=fE (G:=fun _=>True) vY (hS.get 1 rfl) fun _ _=>trivial
 refine(Qx hx (hE.ext hS.ext fun _ h=>h.elim)).mono ?_;rintro v w3 ⟨hf,aU⟩;replace hS:=hS.no aU
 obtain rfl:v=.nilIface:=by
  rcases hf with⟨_,h⟩|⟨_,h,_⟩
  ·exact h
  ·exact absurd h zd
 refine zE ?_;exact⟨⟨a2,c2,rfl,hS.get 1 rfl,hS.du 1 rfl⟩,hS.ext⟩
theorem ztw (hB:w.cell? ⟨b2,0,none⟩=some (.slice (some ⟨bl,0,none⟩) 1 1))(hc:w.cell? ⟨bl,0,none⟩=some (.string (bs Ia)))(hP:eL w)(hE:kI w E q [2]) :
  E3 w 1 29 [.pointer (some ⟨b2,0,none⟩)] zzc:=by
 intro i hi w1 hs _;obtain rfl:i=0:=by omega
 have V2:eL w1:=fun i v hv=>hs _ _ _ (hP i v hv)
 have Ba:kI w1 E q [2]:=⟨fun k hk=>hs _ _ _ (hE.at_ k hk),hE.lt⟩;replace hB:=hs _ _ _ hB;replace hc:=hs _ _ _ hc;show aa prog 29 #[.int .i64 0,.pointer (some ⟨b2,0,none⟩)] w1 _;refine zN func29 ntmps29 ?_;refine g9 hB ?_;refine ao.mk zd zd ?_;refine g9 hc ?_;refine(zwJ V2 Ba).mono ?_;rintro v w' ⟨⟨a2,c2,rfl,ho,oQ⟩,hx⟩;refine zE ?_;refine⟨hx,.slice a2 1 c2,.nilIface,_,rfl,⟨a2,1,c2,rfl⟩,.inl rfl,⟨a2,c2,rfl,rfl,rfl⟩,fq,ho,fun b hb=>?_⟩;obtain⟨_,⟨h6,_⟩|⟨g',iX,cur,h6,_,h7,_⟩⟩:=ho
 ·rw[h6]at hb;simp[az,own,Value.ownBlock]at hb
 ·rw[h6]at hb oQ;obtain rfl:b=g':=by simpa[az,own,Value.ownBlock]using hb
  exact⟨(oQ b rfl).1,_,_,h7⟩
end
local instance DW:Gap.Leaps:=onLeaps
theorem zpI (hP:eL w)(hE:bF w E q [2,3]):aa prog 4 #[] w fun v w'=>v=.bool true∧Ext No w w':=by
 have hS:=St.start w No;refine zN func4 ntmps4 ?_;refine hS.lit (cs:=[.string (bs Ia)]) underlying56 (sz:=1) zk (z:=.string (bs [])) zk rfl rfl (by rfl) (fun bl w1 gY hS=>?_);refine zN func15 ntmps15 ?_;refine hS.new (fun b2 w' jc hS=>?_);refine hS.lD 1 ?_;refine(SZ 2 1 _ (hE.cells.ext hS.ext fun _ h=>h.elim)).mono ?_;rintro v w1 ⟨rfl,eH⟩;replace hS:=hS.no eH;rw[show nB 2 1=0 from rfl];refine hS.lD 1 ?_;refine(Uw (many:=1) (workers:=2) zd zd zd (ztw (w:=w1) (q:=q) (b2:=b2) ((hS.blk 1 rfl).cell 0) ((hS.blk 0 rfl).cell 0) (hP.no hS.ext) ((hE.cells.sub rfl).ext hS.ext fun _ h=>h.elim))).mono ?_;rintro v w2 ⟨bo,be,xs,ys,rfl,z5,FZ,cT,sQ⟩;have ij:Ext No w w2:=hS.ext.trans cT.ext;obtain⟨x,y,e,h1,h2,_,⟨a,c,hy,rX,rfl⟩,_,h3,_⟩:=sQ 0 zd;rw[rX]at h3;have qY:bQ w2 1 A2 (fun _=>True) (some ⟨bo,0,none⟩) 1 xs:=fE Nu (cT.get 0 rfl) fun _ _=>trivial
 have Jg:bQ w2 1 B4 (fun _=>True) (some ⟨be,0,none⟩) 1 ys:=fE Vd (cT.get 1 rfl) fun _ _=>trivial
 obtain⟨b0,o0,x',aU,_,kM,_,j5⟩:=qY.at (k:=0) zd;obtain rfl:=Option.some.inj (h1.symm.trans aU);injection kM with kM
 injection kM with e1 e2
 subst e1 e2;obtain⟨b0,o0,y',J9,_,kM,_,td⟩:=Jg.at (k:=0) zd;obtain rfl:=Option.some.inj (h2.symm.trans J9);injection kM with kM
 injection kM with e1 e2
 subst e1 e2;obtain⟨b0,o0,r,hr,_,ha,_,Wk⟩:=(fE (G:=fun _=>True) vY h3 fun _ _=>trivial).at (k:=0) zd;obtain rfl:r=ym:=(Option.some.inj hr).symm;subst ha;obtain⟨x,vB⟩:=x;obtain⟨y,FX⟩:=y
 change x=_ at rX
 change y=_ at hy
 subst rX hy;have j5:=j5 0 _ rfl;have td:=td 0 _ rfl;unfold A3;refine yd aj 2 ?_;refine ao.mk zd zd ?_;refine g9 td ?_;repeat' ((conv=>whnf);first|apply aI.mk|refine bO.mk zd ?_|refine ag.mk zo zo ?_|refine ao.mk zo zo ?_|(first|apply aM|apply ca|apply cE|apply cD)<;>(intro))
 refine g9 j5 ?_;repeat' ((conv=>whnf);first|apply aI.mk|refine bO.mk zd ?_|refine ag.mk zo zo ?_|refine ao.mk zo zo ?_|(first|apply aM|apply ca|apply cE|apply cD)<;>(intro))
 refine g9 j5 ?_;repeat' ((conv=>whnf);first|apply aI.mk|refine bO.mk zd ?_|refine ag.mk zo zo ?_|refine ao.mk zo zo ?_|(first|apply aM|apply ca|apply cE|apply cD)<;>(intro))
 refine g9 (Wk 4 _ rfl) ?_;refine zE ?_;exact⟨rfl,ij⟩
end
end Pool
namespace Pool
open Go.Conc Gap Ev Go.RowKit Go.Conc.Lib
local instance:Gap.Leaps:=onLeaps
attribute [local instance] OG
def oN (ls:List (List Int)):Nat:=(ls.map List.length).sum
theorem ztT (l m:List (List Int)):oN (l++m)=oN l+oN m:=by simp[oN]
theorem S6:∀{l:List (List Int)} {s:List Int},s∈l→s.length≤oN l
 | [],_,h=>by cases h
 | x::l,s,h=>by
  have e:oN (x::l)=x.length+oN l:=by simp[oN]
  rcases List.mem_cons.1 h with rfl|h
  ·omega
  ·have:=S6 h;omega
section
variable {w:World}{E:Nat→Addr}{n c0 c1:Nat}{a0 a:Option Addr}{rules:List RuleS}{ls:List (List Int)}
set_option maxHeartbeats 1000000 in
theorem Zl (hr:bQ w 5 eW (fun _=>True) a0 rules.length rules)(hs:k9 w a n ls)(aX:∀ys∈ls,ys.length≤140737488351232)(hP:eL w)(hE:bF w E w.heap.size cH)(hh:Handle w)(wk:Int) :
  BW prog 3 #[.slice a0 rules.length c0,.slice a n c1,.int .i64 wk] w fun v w'=>v=.bool true∧Ext No w w':=by
 obtain⟨hl,ss,oV,iZ⟩:=hs;have hm:=oV.max;have hmr:=hr.max;refine TR aj func3 rfl ntmps3 (XD rfl) ?_;have hS:=St.start w No;refine hS.cn (zpI hP (hE.sub rfl)) fun w1 hS=>?_
 apply aR<;>intro Cl
 ·exact zF
 apply aR<;>intro VD
 ·exact zF
 have hS:=hS.add (fq (e:=25) (enc:=x9) (sz:=1) (v:=.slice none 0 0) (xs:=[])) (sf _ _ _) (by simp[az,own,Value.ownBlock]) (by simp[az,own,Value.ownBlock]);have hS:=hS.add (QF []) (fun _ h=>by cases h) (by simp[rE]) (by simp[rE])
 refine d5 aj (fun σ w' q=>∃(k:Nat) (a1:Option Addr) (c2:Nat) (zs:List (Sl × List Int)),σ=[(10,.int .i64 (k:Int)),(9,.slice a1 k c2),(8,.int .i64 ((oN (ls.take k):Nat):Int)),(2,.int .i64 wk),(1,.slice a n c1),(0,.slice a0 rules.length c0)]∧q=n-k∧k≤n∧oN (ls.take k)≤300∧zs.map (·.2)=ls.take k∧(∀z∈zs,z.1.2.1=z.2.length)∧St w No w' [az 25 1 x9 (.slice a1 k c2) (zs.map (·.1)),rE zs])
  (σ':=[(10,.int .i64 ((0:Nat):Int)),(9,.slice none 0 0),(8,.int .i64 ((0:Nat):Int)),(2,.int .i64 wk),(1,.slice a n c1),(0,.slice a0 rules.length c0)]) (n:=n) ⟨rfl,rfl,rfl,rfl,rfl,rfl,trivial⟩ ⟨0,none,0,[],rfl,rfl,Nat.zero_le _,by simp[oN],rfl,fun _ h=>(by cases h),hS⟩ ?_
 rintro _ w1 q1 ⟨k,a1,c2,zs,rfl,rfl,hk,DF,qn,Ki,hS⟩;apply aR<;>intro h3
 ·obtain⟨b0,o0,s,Dz,_,rfl,_,hc⟩:=oV.at (k:=k) (by omega);obtain⟨ys,tQ⟩:∃ys,ls[k]?=some ys:=⟨_,List.getElem?_eq_getElem (by omega)⟩;obtain⟨lF,gZ,hy⟩:=iZ k s ys Dz tQ;obtain⟨sa,sn,sc⟩:=s
  change sn=_ at lF
  subst lF
  change ys.length≤sc at gZ
  change bQ w 1 eY _ sa ys.length ys at hy
  have cA:w.cell? _=some (.slice sa ys.length sc):=hc 0 _ rfl;have hmy:=aX ys (List.mem_of_getElem? tQ);have gv:ls.take (k+1)=ls.take k++[ys]:=by rw[List.take_add_one,tQ];rfl
  have FM:oN (ls.take (k+1))=oN (ls.take k)+ys.length:=by rw[gv,ztT];simp[oN]
  have Xv:zs.length=k:=by
   have:=congrArg List.length qn;rw[List.length_map,List.length_take]at this;omega
  refine DT ?_;refine hS.cK cA id ?_;refine Kw ?_;apply aR<;>intro h4
  ·exact zF
  have hS:=hS.add (fq (e:=3) (enc:=eY) (sz:=1) (v:=.slice none 0 0) (xs:=[])) (sf _ _ _) (by simp[az,own,Value.ownBlock]) (by simp[az,own,Value.ownBlock]);refine DT ?_;refine hS.cK cA id ?_;refine hS.d8 kU 2 (xs:=[]) underlying25 (bytes:=8) (by kernel_rfl) (z:=.int .i64 0) (by kernel_rfl) rfl rfl (hy.no hS.ext) (by unfold maxLen;simp;omega) (by simp;omega) (fun a7 c7 w7 hS=>?_);rw[show([]:List Int).length+ys.length=ys.length by simp]at hS ⊢;refine hS.lit (cs:=[.slice a7 ys.length c7]) underlying23 (sz:=1) (by kernel_rfl) (z:=.slice none 0 0) (by kernel_rfl) rfl rfl (by rfl) (fun bl w2 gY hS=>?_);have fC:bQ w2 1 x9 (fun _=>True) (some ⟨bl,0,none⟩) 1 [(a7,ys.length,c7)]:=bQ.bG M5 (hS.blk 3 rfl) rfl (by decide) (fun _ _=>trivial) rfl;have mU:(zs.map (·.1)).length=k:=by rw[List.length_map];exact Xv
  refine hS.d8 M5 0 underlying23 (bytes:=24) (by kernel_rfl) (z:=.slice none 0 0) (by kernel_rfl) rfl rfl fC (by rw[mU];unfold maxLen;omega) (by rw[mU];omega) (fun a2 c3 w3 hS=>?_);rw[mU]at hS ⊢;replace hS:=(hS.as (H':=[az 25 1 x9 (.slice a2 (k+1) c3) (zs.map (·.1)++[(a7,ys.length,c7)]),rE zs,B0 ((a7,ys.length,c7),ys)]++[_]) rfl).dv [0,1,2] (by decide);replace hS:=St.copy (z:=((a7,ys.length,c7),ys)) hS;refine Kw ?_;refine aD.mk ⟨_,[(10,.int .i64 ((k+1:Nat):Int)),(9,_),(8,.int .i64 ((oN (ls.take (k+1)):Nat):Int)),(2,_),(1,_),(0,_)],?_,⟨rfl,rfl,?_,rfl,rfl,rfl,trivial⟩,⟨k+1,a2,c3,zs++[((a7,ys.length,c7),ys)],rfl,rfl,by omega,by omega,by rw[List.map_append,qn,gv];rfl,fun z hz=>?_,by rw[List.map_append];exact hS⟩⟩
  ·omega
  ·show some (Value.int .i64 (((oN (ls.take k):Nat):Int)+((ys.length:Nat):Int)))=some (Value.int .i64 ((oN (ls.take (k+1)):Nat):Int));rw[FM];rfl
  ·rcases List.mem_append.1 hz with hz|hz
   ·exact Ki z hz
   ·obtain rfl:=List.mem_singleton.1 hz;rfl
 have rU:k=n:=by omega
 subst rU;rw[List.take_of_length_le (by omega)]at qn DF;have ij:=hS.ext
 have zS:k9 w1 a1 k ls:=⟨hl,zs.map (·.1),fE M5 (hS.get 0 rfl) fun _ _=>trivial,fun i s ys h1 h2=>by
  rw[List.getElem?_map]at h1;obtain⟨z,hz,rfl⟩:=Option.map_eq_some_iff.1 h1
  have e:z.2=ys:=by
   have:=congrArg (·[i]?) qn;simp only[List.getElem?_map,hz,h2,Option.map_some]at this;exact Option.some.inj this
  subst e;have hm:=List.mem_of_getElem? hz;have ho:=(hS.get 1 rfl:(rE zs).holds w1) z hm
  obtain⟨s0,jG⟩:∃s0,ss[i]?=some s0:=⟨_,List.getElem?_eq_getElem (by
   have:=(List.getElem?_eq_some_iff.1 h2).1;have:=oV.len;omega)⟩
  exact⟨Ki z hm,LX ho,fE kU ho (iZ i s0 z.2 jG h2).2.2.lg⟩⟩
 have qR:∀ys∈ls,ys.length≤300:=fun ys h=>Nat.le_trans (S6 h) DF
 refine(ZE (hr.no ij) (by omega)).mono ?_;rintro v w2 ⟨a3,c3,rfl,fC,uz,_⟩;replace ij:=ij.trans fC;have Xc:=fE (G:=fun _=>True) vY uz (fun _ _=>trivial);replace zS:=zS.no fC
 have IL:bF w2 E w2.heap.size cH:=by
  have h:=hE.ext ij fun _ h=>h.elim
  have hsz:=ij.size;exact⟨h.at_,fun k hk=>Nat.lt_of_lt_of_le (h.lt k hk) hsz,fun k hk=>⟨(h.row k hk).1,Nat.lt_of_lt_of_le (h.row k hk).2 hsz⟩,h.inj⟩
 refine(ztr Xc zS (by omega) qR IL (hh.ext ij) wk).mono ?_;rintro v w3 ⟨⟨ov,ev,rfl,hf,cj,heq⟩,k3⟩;replace ij:=ij.trans k3;have hS:=St.start w3 No;refine hS.cn (Yt wk k _) fun w4 hS=>?_
 refine hS.new (fun b14 w' We hS=>?_);refine hS.sT 0 fun w' hS=>?_
 have JX:=Zu wk k;by_cases oU:nB wk k=0
 rotate_left
 ·have IW:wa rules k wk=(nB wk k,-1):=by unfold wa;rw[if_neg oU]
  rw[IW]at hf cj heq;dsimp only at hf cj heq;refine hS.lD 0 ?_;(conv=>whnf);rw[show(((nB wk k:Nat):Int) == 0)=false by simp only[beq_eq_false_iff_ne,ne_eq];omega];refine hS.lD 0 ?_;apply aR<;>intro h7
  ·have fS:nB wk k<12∧(nB wk k=0→(-1:Int) = -1):=⟨JX,fun _=>rfl⟩;obtain rfl:=cj (by omega);refine hS.lX 0 ?_;refine hS.cn (Qq (hf.no hS.ext) fS.2 fS.1 ((hE.ext ij fun _ h=>h.elim).ext hS.ext fun _ h=>h.elim) ((hh.ext ij).ext hS.ext)) fun w9 hS=>?_
   refine zE ?_;exact⟨rfl,ij.trans hS.ext⟩
  ·exfalso;omega
 have IW:wa rules k wk=gg rules:=by unfold wa;rw[if_pos oU]
 rw[IW]at hf cj heq;rw[oU]at hS;refine hS.lD 0 ?_;refine hS.cn (Y0 (hr.no (ij.trans hS.ext))) fun w5 hS=>?_
 refine hS.sT 0 fun w' hS=>?_
 have fS:=Qp rules;refine hS.lD 0 ?_;apply aR<;>intro h7
 ·skip
  obtain rfl:=cj (by omega);refine hS.lX 0 ?_;refine hS.cn (Qq (hf.no hS.ext) fS.2 fS.1 ((hE.ext ij fun _ h=>h.elim).ext hS.ext fun _ h=>h.elim) ((hh.ext ij).ext hS.ext)) fun w9 hS=>?_
  refine zE ?_;exact⟨rfl,ij.trans hS.ext⟩
 have h0:(gg rules).1=0:=by omega
 obtain⟨bo,rfl,hall⟩:=heq h0
 obtain rfl:ev=.nilIface:=by
  rcases hf with⟨_,h⟩|⟨_,h,_⟩
  ·rw[h,h0];rfl
  ·omega
 replace hS:=hS.keep 0;obtain⟨xs,oq,sR⟩:=hall;(conv=>whnf);rw[show(((k:Nat):Int) != ((k:Nat):Int))=false by simp]
 refine d5 aj (fun σ w' q=>∃i:Nat,σ=[(15,.int .i64 (i:Int)),(12,.slice (some ⟨bo,0,none⟩) k k),(1,.slice a k c1),(0,.slice a0 rules.length c0)]∧q=k-i∧i≤k∧St w3 No w' [])
  (σ':=[(15,.int .i64 ((0:Nat):Int)),(12,.slice (some ⟨bo,0,none⟩) k k),(1,.slice a k c1),(0,.slice a0 rules.length c0)]) (n:=k) ⟨rfl,rfl,rfl,rfl,trivial⟩ ⟨0,rfl,rfl,Nat.zero_le _,hS⟩ ?_
 rintro _ w4 q ⟨i,rfl,rfl,hi,hS⟩;apply aR<;>intro h3
 ·obtain⟨b0,o0,s,Dz,_,rfl,_,hc⟩:=oV.at (k:=i) (by omega);obtain⟨ys,tQ⟩:∃ys,ls[i]?=some ys:=⟨_,List.getElem?_eq_getElem (by omega)⟩;obtain⟨lF,gZ,hy⟩:=iZ i s ys Dz tQ;obtain⟨sa,sn,sc⟩:=s
  change sn=_ at lF
  subst lF
  change bQ w 1 eY _ sa ys.length ys at hy
  have cA:w.cell? _=some (.slice sa ys.length sc):=hc 0 _ rfl;have yO:=ij.cell cA id;have hlen:=qR ys (List.mem_of_getElem? tQ);obtain⟨x,a5,c5,a6,c6,dB,rX,Dy,JV⟩:=sR i ys tQ;refine(Zj (c:=c0) (hr.no ij) h0 hS.ext).mono ?_;rintro v w5 ⟨Y,R,rfl,rW,zU,nR⟩;replace hS:=hS.qo rW zU.has nR;generalize WorldS.born rules=V at hS zU rX Dy JV;refine DT ?_;refine hS.cK yO id ?_;refine(zwO (hy.no ij) (by omega) (St.vI (P:=[]) (L:=[]) hS zU) (by omega) (by omega)).mono ?_;rintro v w6 ⟨a9,c9,Y2,R2,rfl,Wa,WB,pK⟩;replace hS:=St.sF (P:=[]) (L:=[]) hS WB;generalize V.run ys=Q at hS pK rX Dy JV;replace hS:=hS.as (H':=az 3 1 eY (.slice a9 ys.length c9) Q.1::iO Y2 Q.2 R2) rfl;rw[←Wa];obtain⟨b5,o5,x',J8,_,vd,_,wS⟩:=oq.at (k:=i) (by omega);obtain rfl:=Option.some.inj (dB.symm.trans J8);injection vd with vd
  injection vd with e1 e2
  subst e1 e2;obtain⟨x,vB⟩:=x
  change x=_ at rX
  subst rX;have j4:=wS 0 _ rfl;have nh:=wS 1 _ rfl;(conv=>whnf);refine hS.dr [] No [0,1,2,3,4,5,6,7,8,9,10,11,12,13,15,16,17,18,14,19,20,21] fun w1 hS=>?_
  have hK:=hS.ref No;have wO:=hS;refine DT ?_;refine hS.cV j4 id id ?_;refine(ZT (G:=fun _=>True) (Dy.no hS.ext) (fE kU (hS.get 0 rfl) fun _ _=>trivial)).mono ?_;rintro v w7 ⟨rfl,Bp⟩;replace hS:=hS.no Bp;replace hK:=hK.trans Bp;refine ae.mk hK ?_;rw[show decide (Q.1=Q.1)=true by simp];have hev:Q.2.events.length≤2000:=by have:=pK.ok.events;omega
  refine DT ?_;refine wO.cV nh id id ?_;refine wO.bU 1 rfl rfl id ?_;refine(YO (G:=fun _=>True) (JV.no hS.ext) (by omega)).mono ?_;rintro v w8 ⟨a2,c2,rfl,xw,WY,hf8⟩;replace hS:=hS.no xw;replace hK:=hK.trans xw;refine ae.mk hK ?_;refine(Y3 (G:=fun _=>True) (G':=fun _=>True) (fE ua WY fun _ _=>trivial) (fE ua (hS.get 6 rfl) fun _ _=>trivial)).mono ?_;rintro v w9 ⟨rfl,OC⟩;replace hS:=hS.no OC;replace hK:=hK.trans OC;refine ae.mk hK ?_;refine Kw ?_;refine aD.mk ⟨_,[(15,.int .i64 ((i+1:Nat):Int)),(12,_),(1,_),(0,_)],?_,⟨rfl,rfl,rfl,rfl,trivial⟩,⟨i+1,rfl,rfl,by omega,(St.start w3 No).no hS.ext⟩⟩;omega
 ·refine zE ?_;exact⟨rfl,ij.trans hS.ext⟩
end
end Pool
namespace Pool
open Go.Conc Gap Ev Go.RowKit Go.Conc.Lib
local instance F3:Gap.Leaps:=onLeaps
variable {P:Program}{v:Value}{W:World}
section
variable {Z O:Nat→Prop}{f:FuncId}{args:Array Value}{w:World}{R:Value→World→Prop}
def E9 (Z O:Nat→Prop)(R:Value→World→Prop)(v:Value)(W':World):Prop:=∃O' w',(∀b,O b→O' b)∧dx O' Z w' W'∧R v w'
theorem zrN {b:Frame}{fn:Func}{a:Act}{todo:List Item}  {W':World}(hn:b.kind=.normal)(hi:P.inits.idxOf? b.fn=none)(hd:a.defers=[])(hf:P.funcs[b.fn]?=some fn)(hr:(results fn a.tmps).run P W=.ok v W') :
  stepG P true (G { b.at a todo with mode:=.returning } []) W=.ended (.done v) W' (seen P b.fn ((results fn a.tmps).events P W #[])):=by
 simp[G,stepG,unwind,doReturn,Frame.at,hn,hd,hf,hr,hi,GStep.after]
theorem zxH (h:BW P f args w R)(hi:P.inits.idxOf? f=none)(hl:dx O Z w W):Gap.Way P true Z (HC P Z (E9 Z O R)) O (G (Frame.enter P f args .normal) []) W:=by
 obtain⟨fn,c,hf,sW,J7⟩:=h;rw[enter_at args hf sW]
 have leave:∀(a':Act) (w':World) (O':Nat→Prop) (W2:World) (todo:List Item),(∀x,O x→O' x)→dx O' Z w' W2→(a'.defers=[]∧∃v,Quiet P (results fn a'.tmps) w' v w'∧R v w') →
   Gap.Way P true Z (HC P Z (E9 Z O R)) O' (G { (base f).at a' todo with mode:=.returning } []) W2:=fun a' w' O' W2 todo iQ ft ⟨hd,v,hr,hp⟩=>by
  refine .stop fun W3 h3=>?_
  obtain⟨W4,Cn,kO,_⟩:=hr O' Z W3 (ft.rely h3);exact⟨rfl,v,W4,_,zrN (b:=base f) rfl hi hd hf Cn.run,Cn.guar fun e he=>mem_seen he,_,w',(fun b hb=>AJ b (iQ b hb)),kO,hp⟩
 refine J7 true Z _ _ W (base f) [] _ (by simp[base]) hl fun e a' w' O' W2 iQ ft q=>?_
 cases e with
 | normal=>exact .ctl rfl (fun _=>stepG_end) (leave a' w' O' W2 [] iQ ft q)
 | ret=>exact fun todo=>leave a' w' O' W2 todo iQ ft q
 | exit id=>exact q.elim
 | goto l=>exact q.elim
 | panic ch=>exact q.elim
 | outgrown=>exact q.elim
end
def nf (W:World)(b:Nat):Prop:=∃o,W.heap[b]?=some o∧mI o=true
def lY (W:World)(b:Nat):Prop:=∃o,W.heap[b]?=some o∧mI o=false
section
variable {a:Goroutine}
theorem GC (i:Nat):touchAt #[] i=none:=by simp[touchAt,Trace.act?]
theorem zv8 (i:Nat):Trace.g? #[] i=none:=by simp[Trace.g?]
theorem Z8:Calm P (lY W) (fun _=>False) #[a] W #[] (nf W):=by
 refine⟨⟨fun j g hj=>⟨fun _=>rfl,fun h0=>?_⟩,fun j hj=>rfl,?_,?_⟩⟩
 ·exfalso;have:=(Array.getElem?_eq_some_iff.1 hj).1;simp at this;omega
 ·refine⟨fun said ⟨i,j,h⟩=>?_,fun g b _ i a h=>?_,fun g _ b _ i a h=>?_,fun b h=>h.elim,fun i a h=>?_,fun i a h=>?_,fun i g h=>?_,fun op h=>?_,fun l b h=>h.elim⟩
  ·obtain⟨_,⟨a,_,h1,_⟩,_⟩:=h;simp[Trace.act?]at h1
  ·rw[GC]at h;cases h
  ·rw[GC]at h;cases h
  ·rw[GC]at h;cases h
  ·rw[GC]at h;cases h
  ·rw[zv8]at h;cases h
  ·simp at h
 ·refine⟨fun g h b cj h1 h2=>cj (h1.1.trans h2.1.symm),fun g b h1 h2=>?_,fun g b _ h=>h,fun b _ h=>h,fun g b h=>?_,fun b h=>?_,fun b h=>h.elim⟩
  ·obtain⟨o,e1,e2⟩:=h1.2;obtain⟨o',e3,e4⟩:=h2;rw[e1]at e3;cases e3;rw[e2]at e4;cases e4
  ·obtain⟨o,e1,_⟩:=h.2;exact(Array.getElem?_eq_some_iff.1 e1).1
  ·obtain⟨o,e1,_⟩:=h;exact(Array.getElem?_eq_some_iff.1 e1).1
end
section
variable {f:FuncId}{args:Array Value}  {R:Value→World→Prop}
theorem zs3 (h:BW P f args (Pool.view (nf W) (lY W) W) R)(hi:P.inits.idxOf? f=none) :
  ∃N last o w' t',runNT P (N+1) (solo (G (Frame.enter P f args .normal) []) W) #[]=(.ended o w',t')∧runN P N (solo (G (Frame.enter P f args .normal) []) W)=.next last∧step P last=.ended o w' ∧
   Go.Conc.Good P (fun v W'=>E9 (lY W) (nf W) R v W'∧∀b,lY W b→W'.heap[b]?=W.heap[b]?) last o w' t':=by
 have hl:dx (nf W) (lY W) (Pool.view (nf W) (lY W) W) W:=uJ fun b hb=>hb
 obtain⟨N1,m1,t1,cm,iC,gs',W1,eI,O',g',rfl,hC,h0,aX,hz⟩:=zyR (zxH h hi hl) (fun _=>False) #[G (Frame.enter P f args .normal) []] #[] none Z8 rfl
 have kj:∀W2,cv O' (lY W) W1 W2→HC P (lY W) (fun v W'=>E9 (lY W) (nf W) R v W'∧∀b,lY W b→W'.heap[b]?=W.heap[b]?) O' g' W2:=fun W2 h2=>by
  obtain⟨s1,v,W3,es,s2,s3,s4⟩:=aX W2 h2;refine⟨s1,v,W3,es,s2,s3,s4,fun b hb=>?_⟩;have aQ:=hC.core.apart.mf b hb;rw[s3.keep b (Nat.lt_of_lt_of_le aQ h2.size) fun h=>hC.core.apart.shr 0 b ⟨rfl,h⟩ hb,h2.keep b (.inr hb)];exact hz b hb
 obtain⟨N2,last,o,w',t',e1,e2,e3,e4⟩:=zxG (sl:=eI) hC h0 kj;rw[←solo_eq_crowd]at cm;refine⟨N1+N2,last,o,w',t',?_,?_,e3,e4⟩
 ·rw[Nat.add_assoc,runNT_add,cm];exact e1
 ·rw[runN_add,←runNT_fst P N1 _ #[],cm];exact e2
theorem zwc {W':World}{Q:Value→Prop}(h:E9 (lY W) (nf W) (fun v w'=>Q v∧Ext No (Pool.view (nf W) (lY W) W) w') v W')(hz:∀b,lY W b→W'.heap[b]?=W.heap[b]?):Q v∧Ext No W W':=by
 obtain⟨O',w',ho,hl,hq,hx⟩:=h;refine⟨hq,hl.os.symm.trans hx.os,hl.tape.symm.trans hx.tape,hl.output.symm.trans hx.output,?_,fun b hb _=>?_⟩
 ·have h1:=hx.size;have h2:(Pool.view (nf W) (lY W) W).heap.size=W.heap.size:=by simp[Pool.view]
  have:=hl.size;omega
 ·obtain⟨o,e⟩:∃o,W.heap[b]?=some o:=⟨_,Array.getElem?_eq_getElem hb⟩;cases bR:mI o with
  | true =>
   have hO:nf W b:=⟨o,e,bR⟩;obtain⟨o',g1,g2,_⟩:=hl.own b (ho b hO);have h3:=hx.block b (by simp[Pool.view];exact hb) id;rw[g2,←g1,h3,uK hO]
  | false=>exact hz b ⟨o,e,bR⟩
theorem zxN {b:Nat}{o:Obj}(h:W.heap[b]?=some o)(hk:mI o=true):(Pool.view (nf W) (lY W) W).heap[b]?=some o:=(uK ⟨o,h,hk⟩).trans h
theorem GR {b o:Nat}(h:W.cell? ⟨b,o,none⟩=some v):(Pool.view (nf W) (lY W) W).cell? ⟨b,o,none⟩=some v:=by
 refine BA ?_ h;unfold World.cell? at h;split at h
 ·rename_i x _ _ _ he;cases hk:mI _ with
  | true=>exact .inl ⟨_,he,hk⟩
  | false=>exact .inr ⟨_,he,hk⟩
 ·cases h
theorem Mq {α:Type}{sz n:Nat}{enc:α→List Value}{G:α→Prop}{a:Option Addr}{xs:List α}(h:bQ W sz enc G a n xs):bQ (Pool.view (nf W) (lY W) W) sz enc G a n xs :=
 ⟨h.len,h.max,fun k x hk=>let ⟨b,o,h1,h2,h3⟩:=h.cells k x hk;⟨b,o,h1,by simp[Pool.view];exact h2,fun j v hj=>GR (h3 j v hj)⟩,h.lg⟩
theorem zr2 {E:Nat→Addr}{q:Nat}{ks:List Nat}(h:bF W E q ks∧∀k,ks.contains k=true→∃c t,W.heap[(E k).block]?=some (.cells c t (0,0))):bF (Pool.view (nf W) (lY W) W) E q ks :=
 ⟨fun k hk=>GR (h.1.at_ k hk),h.1.lt,fun k hk=>let ⟨c,t,e⟩:=h.2 k hk;⟨⟨_,zxN e rfl,rfl⟩,(h.1.row k hk).2⟩,h.1.inj⟩
end
end Pool
section
variable [Gap.Leaps]
theorem holds_tied_goes (Lk:Looks){p:Pinned}{s:OpenSpec}{c:OpenClaim}(al:List (List PathCond))(kinds:List LaidKind)(tests:Bool)(wQ:Bool × String)(lk:Bool)
  (hc:c.holds p s) (Cu:∀D∈al,(c.withDomain D).holds p s) (hw:c.wfByText s=true) (J4:∀D∈al,(c.withDomain D).wfByText s=true)
  (J1:c.laidByTextAt Lk p kinds tests)
  (aX:c.start=.entering) (f7:c.noBlocks=false∧c.again=false) (hm:p.checked.prog.mainIs=some (wQ.1,wQ.2.toList)) (hn:(!wQ.1&&wQ.2.isEmpty&&!lk)=false)
  (hl:∀f fn,p.checked.prog.funcNamed c.func=some f→p.checked.prog.funcs[f]?=some fn→lk=p.checked.prog.looks []∧∀(j:Nat) t,fn.params[j]?=some t→p.checked.prog.wantsStandIn t=false)
  (hg:true=c.goesBy p.checked.prog) :
  Claim7.holds p (.plain s) { stood:={ row:=c,standIns:=[],harness:=wQ,looks:=lk },kinds:=[],alts:=al,goes:=true,laidByText:=true,laidKinds:=kinds,laidTests:=tests,laidLooks:=Lk }:=by
 have h6:∀r:OpenClaim,Claim7.isSixth { stood:={ row:=r,standIns:=[],harness:=wQ,looks:=lk },kinds:=[] }=false:=fun r=>by simpa[Claim7.isSixth]using hn
 refine⟨Claim7.tied_new_at Lk kinds tests (Claim7.new_of_sixth hc wQ lk aX f7 hm (h6 c) hl) hw,fun D hD=>?_,J1,(fun h=>by cases h),hg⟩;exact Claim7.tied_new_at Lk kinds tests (Claim7.new_of_sixth (Cu D hD) wQ lk aX f7 hm (h6 _) hl) (J4 D hD)
end
end Go.Proofs.YtggfpjldhglmeaaGreatDoor