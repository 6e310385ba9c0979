/-
  Texts of this claim, joined: WorldE, NoteC, LoopB, Wakes, WorldF, ErrNum, PlayS, WorldG, RefHear, RefSum, RefByt, RefBytW, RefOpen, RefCell, RefNode, RefRole, RefNodeT, RefNodeN.
-/
import Derived.Test.YtggfpjldhglmeaaGreatDoorSidePlaysI
import Derived.Lib.BufferWrite
set_option linter.unusedSectionVars false
set_option linter.unusedSimpArgs false
set_option linter.unusedVariables false
set_option maxRecDepth 20000
namespace Go.Proofs.YtggfpjldhglmeaaGreatDoor
open Go Tryz
section
open Ev
variable [Gap.Leaps]
section
variable {w w':World}{X:WorldA}{W:WorldS}{E:Nat→Addr}{q m:Nat}
theorem zwe {Y Z:cX}{A:ja}{N:NodeS}{B:aP}{t:bX}(hb:A.b=Y.A.b):gG X W ⟨Y.s,A⟩ Z ⟨some N,B⟩ t=[blk X.w 97 (EI X W),blk Y.s 104 [.pointer (some ⟨A.n,0,none⟩),.pointer (some ⟨Y.A.b,0,none⟩)],blk Z.s 104 (ry Z t),az 58 5 eW (.slice X.ra W.rules.length X.rc) W.rules,az 273 5 bA (.slice X.fa W.aN.length X.fc) X.vs,dX X.vs W.aN,az 81 2 fv (.slice X.ea W.events.length X.ec) W.events]:=by
 rw[←hb];rfl
theorem Tc (n:Int)(h:bH E q m w X W):aa prog 101 #[.pointer (some ⟨X.w,0,none⟩),.int .i64 n] w fun v w'=>v=gC E (W.up n).1∧∃X',X'.w=X.w∧ak w w' (cQ X W) (cQ X' (W.up n).2):=by
 have tH:∀b,cp (cQ X W) b→q≤b:=h.high;by_cases hn:n=0∨n=1
 case neg =>
  rw[show W.up n=(2,W) from if_pos zo];refine zN func101 ntmps101 ?_;have hS:=h.has.start;refine ca (fun h1=>?_) (fun h1=>absurd (.inl h1) hn);refine ca (fun h1=>?_) (fun h1=>absurd (.inr h1) hn);repeat' first|refine zP ?_|refine hS.cK (h.eD.at_ 2 rfl) (bF.out h.eD 2 rfl tH) ?_
  exact⟨rfl,X,rfl,ak.refl h.has⟩
 obtain⟨hH,hQ⟩:=h.half hn;have ef:∀b,cp (jS X W n) b→q≤b:=hQ;cases hN:(W.side n).node with
 | some N =>
  rw[show W.up n=(11,W) by unfold WorldS.up;rw[if_neg zo,hN]];rcases hn with rfl|rfl
  all_goals
   refine zN func101 ntmps101 ?_;have hS:=hH.start;refine ao.mk zd zd ?_;refine hS.lD 0 ?_;refine hS.ld 1 rfl (v:=.pointer (some ⟨(X.side _).A.n,0,none⟩)) (by rw[Gc hN];rfl) ?_;repeat' first|refine zP ?_|refine hS.cK (h.eD.at_ 11 rfl) (bF.out h.eD 11 rfl ef) ?_
   exact⟨rfl,X,rfl,ak.refl h.has⟩
 | none =>
  have hw:W.up n=if (d6 n (fD (W.side n).cw) W.rules).1≠0 then ((d6 n (fD (W.side n).cw) W.rules).1,W.ai n ⟨none,(d6 n (fD (W.side n).cw) W.rules).2.2⟩)
    else (0,W.ai n ⟨some (d6 n (fD (W.side n).cw) W.rules).2.1,(d6 n (fD (W.side n).cw) W.rules).2.2⟩):=by
   unfold WorldS.up;rw[if_neg zo,hN]
  rw[hw];have px:=(h.ok.side hn).mr;have VO:=M3 px;have FH:=h.ok.rules;have hT:∀{w'} {Y:cX} {s:bX},Y.s=(X.side n).s→ak w w' (jS X W n) (gG X W Y (X.side (1-n)) s (W.side (1-n))++nH Y s)→∃X',X'.w=X.w∧ak w w' (cQ X W) (cQ X' (W.ai n s)):=fun {w'} {Y} {s} hY k=>⟨X.ai n Y,by rcases hn with rfl|rfl<;>rfl,ak.side h.has hn hY k⟩
  have N4:q≤(X.side n).A.b:=by
   have h1:=hQ;rw[RU hN]at h1;exact h1 _ ⟨_,List.mem_of_getElem? (i:=7) rfl,List.mem_singleton.2 rfl⟩
  have hD:=RU (X:=X) hN
  have FO:∀{w':World} {L:List bZ},St w (cp (jS X W n)) w' L→L[3]?=some (az 58 5 eW (.slice X.ra W.rules.length X.rc) W.rules)→L[7]?=some (blk (X.side n).A.b 176 (dL (fD (W.side n).cw)))→bQ w' 5 eW (fun _=>True) X.ra W.rules.length W.rules∧(0<W.rules.length→∀b0 o0,X.ra=some ⟨b0,o0,none⟩→b0≠(X.side n).A.b):=by
   intro w' L hS h3 h7;refine⟨fE vY (hS.get 3 h3) (fun _ _=>trivial),fun _ b0 o0 ha he=>?_⟩;exact hS.bS 3 7 h3 h7 zd b0 (nD (by rw[ha];rfl)) (by rw[he];exact List.mem_singleton.2 rfl)
  generalize hR:d6 n (fD (W.side n).cw) W.rules=R;obtain⟨T,uu⟩:∃T:Nat→Prop,∀d,T d↔d=(X.side n).A.b:=⟨fun d=>d=(X.side n).A.b,fun _=>Iff.rfl⟩;obtain⟨L,hL⟩:∃L:ja→cX,∀A,(L A).s=(X.side n).s∧(L A).A=A:=⟨fun A=>⟨(X.side n).s,A⟩,fun _=>⟨rfl,rfl⟩⟩;rcases hn with rfl|rfl
  all_goals
   refine zN func101 ntmps101 ?_;have hS:=hH.start;rw[hD]at hS hT;rw[hD]at FO ef;refine ao.mk zd zd ?_;refine hS.lD 0 ?_;refine hS.lD 1 ?_;refine hS.lD 1 ?_;refine(zx8 (hS.blk 7 rfl) px.len).mono ?_;rintro v w' ⟨hx,hB⟩;replace hS:=hS.uB 7 hx hB;obtain⟨lF,eF⟩:=FO hS rfl rfl;have kZ:=hS.ne 1 7 rfl rfl zd;have jq:=hS.ne 0 7 rfl rfl zd;have hE:=h.eD.ext hS.ext ef;(conv=>whnf)
   (refine ir aj mixed [] (T) [0,1,2,3,4,5,6,7,8,9,10,11,12,13,14] zk ?_;rintro w1 rfl;replace hS:=hS.drew)
   have hK:=hS.ref T;refine hS.bU 1 rfl rfl (fun ht=>kZ ((uu _).1 ht)) ?_;refine hS.bU 0 rfl rfl (fun ht=>jq ((uu _).1 ht)) ?_;refine(ME _ zd (lF.no (Ext.drawn _ _ _)) (by have:=FH.1;omega) (df.2 FH) eF (hS.blk 7 rfl) VO rfl ((hE.ext (Ext.drawn No _ _) fun _ h=>h.elim).sub rfl) N4).mono ?_;rintro v w6 fU;have uq:d6 _ ⟨(W.side _).cw.data,false,-1⟩ W.rules=R:=hR;rw[uq]at fU;rcases fU with⟨h0,A,sL,rfl,hk⟩|⟨h0,rfl,hk,hB⟩
   ·rw[if_neg (fun h=>h h0)];replace hK:=hK.trans (hk.ext.mono fun d hd=>(uu d).2 (by obtain⟨e,he,hd⟩:=hd;obtain rfl:=List.mem_singleton.1 he;exact List.mem_singleton.1 hd));refine ae.mk hK ?_;have cT:=St.di (A:=[_,_,_,_,_,_,_]) (B:=[]) hS hk;refine cT.st 1 rfl (by exact Nat.le_of_ble_eq_true rfl) rfl (fun w' lj=>?_);refine zE ?_;refine⟨rfl,hT (Y:=⟨(X.side _).s,A⟩) (s:=⟨some R.2.1,R.2.2⟩) rfl ?_⟩;rw[zwe sL];exact St.turns lj
   ·rw[if_pos h0];obtain⟨j,hj⟩:∃j,R.1=j+1:=⟨R.1-1,by omega⟩;replace hK:=hK.trans (hk.mono fun d hd=>(uu d).2 hd);refine ae.mk hK ?_;have cT:=hS.uB 7 hk hB;rw[hj];refine zE ?_;exact⟨rfl,hT (Y:=X.side _) (s:=⟨none,R.2.2⟩) rfl (St.turns cT)⟩
end
theorem P7 (N:NodeS)(c:Bool):∀n∈(N.notes c).1,(n.claim=true∧n.cells=[])∨(n.claim=false∧n.cells=kE (N.notes c).1):=by
 cases hb:N.cS
 ·cases c
  ·rw[r6 hb];intro n hn;cases hn
  ·rw[xO hb];intro n hn;obtain rfl:=List.mem_singleton.1 hn;exact .inl ⟨rfl,rfl⟩
 ·rw[uM hb];intro n hn;rcases List.mem_cons.1 hn with rfl|hn
  ·exact .inl ⟨rfl,rfl⟩
  ·obtain rfl:=List.mem_singleton.1 hn;exact .inr ⟨rfl,by simp[kE]⟩
theorem Q5 (N:NodeS)(B:aP):∀n∈(N.tick B).2.1,(n.claim=true∧n.cells=[])∨(n.claim=false∧n.cells=kE (N.tick B).2.1):=by
 unfold NodeS.tick;split
 ·intro n hn;cases hn
 split
 ·split
  ·intro n hn;cases hn
  ·exact P7 _ _
 ·exact P7 _ _
theorem P8 (N:NodeS)(c:Bool):(N.notes c).1.length≤2:=by
 cases hb:N.cS
 ·cases c
  ·rw[r6 hb];exact Nat.zero_le _
  ·rw[xO hb];exact Nat.le_succ _
 ·rw[uM hb];exact Nat.le_refl _
theorem Q6 (N:NodeS)(B:aP):(N.tick B).2.1.length≤2:=by
 unfold NodeS.tick;split
 ·exact Nat.zero_le _
 split
 ·split
  ·exact Nat.zero_le _
  ·exact P8 _ _
 ·exact P8 _ _
end
namespace Ev
variable [Gap.Leaps]
def xX:Code→List Code
 | .loop c=>c::xX c
 | .seq a b=>xX a++xX b
 | .cond _ a b=>xX a++xX b
 | .block _ c=>xX c
 | .scope c=>xX c
 | _=>[]
def UD (f:Func)(i:Nat):Code:=match f.body with
 | some c=>(xX c).getD i .skip
 | none=>.skip
theorem St.as {w0 w:World}{S:Nat→Prop}{H H':List bZ}(h:St w0 S w H)(e:H=H'):St w0 S w H':=e ▸ h
end Ev
section
open Ev
variable [Gap.Leaps]
variable {b c k m n:Nat}{S:Nat→Prop}{a:Option Addr}{w:World}
section
theorem zwU {α:Type}(w:World)(sz:Nat)(enc:α→List Value)(G:α→Prop)(a:Option Addr):bQ w sz enc G a 0 []:=⟨rfl,by decide,fun k x hk=>by simp at hk,fun x hx=>by simp at hx⟩
end
section
variable {w':World}{X:WorldA}{W:WorldS}{E:Nat→Addr}{q:Nat}
def WorldS.with (W:WorldS)(f:List bE)(e:List (Int × Int)):WorldS:={ W with aN:=f,events:=e }
def WorldA.with (X:WorldA)(fa:Option Addr)(fc:Nat)(vs:List bW)(ea:Option Addr)(ec:Nat):WorldA:={ X with fa:=fa,fc:=fc,vs:=vs,ea:=ea,ec:=ec }
theorem zqE {n:Int}(hn:n=0∨n=1)(s:bX)(f:List bE)(e:List (Int × Int))(fa:Option Addr)(fc:Nat)(vs:List bW)(ea:Option Addr)(ec:Nat) :
  jS (X.with fa fc vs ea ec) ((W.ai n s).with f e) n=gG (X.with fa fc vs ea ec) (W.with f e) (X.side n) (X.side (1-n)) s (W.side (1-n))++nH (X.side n) s:=by
 rcases hn with rfl|rfl<;>rfl
theorem Sb {n:Int}(hn:n=0∨n=1)(s:bX)(f:List bE)(e:List (Int × Int)):((W.ai n s).with f e).side (1-n)=W.side (1-n):=by
 rcases hn with rfl|rfl<;>rfl
theorem SJ {l:List bE}{x:Option Addr}{y:Nat}(hl:∀n∈l,(n.claim=true∧n.cells=[])∨(n.claim=false∧n.cells=kE l))(h1:bQ w 10 bV (fun _=>True) x (kE l).length (kE l)){n:bE}(hn:n∈l):k8 (fV x y n) n∧bQ w 10 bV (fun _=>True) (fV x y n).a (fV x y n).n n.cells:=by
 refine⟨⟨rfl,rfl,rfl,rfl⟩,?_⟩;rcases hl n hn with⟨h3,h4⟩|⟨h3,h4⟩
 ·simp only[fV,h4];exact zwU _ _ _ _ _
 ·simp only[fV,h3,h4];exact h1
def NI (X:WorldA)(W:WorldS):Nat→Prop:=fun d=>d=X.w∨d∈(az 81 2 fv (.slice X.ea W.events.length X.ec) W.events).aW
def jf (F:List bE)(l:List bE)(k:Nat):List bE:=F++(l.take k).take (200-F.length)
theorem RN {F l:List bE}  {x:bE}(hx:l[k]?=some x)(h:(jf F l k).length<200):jf F l (k+1)=jf F l k++[x]:=by
 have hk:=(List.getElem?_eq_some_iff.1 hx).1;unfold jf at h ⊢;rw[List.length_append,List.length_take,List.length_take]at h;rw[List.take_take,List.take_take,Nat.min_eq_right zo,Nat.min_eq_right zo,List.take_add_one,hx,List.append_assoc];rfl
theorem zqw {F l:List bE}(hF:F.length≤200)(h:¬(jf F l k).length<200):jf F l (k+1)=jf F l k:=by
 unfold jf at h ⊢;rw[List.length_append,List.length_take,List.length_take]at h;rw[List.take_take,List.take_take,Nat.min_eq_left zo,Nat.min_eq_left zo]
theorem TQ {F l:List bE}(hF:F.length≤200):(jf F l k).length≤200:=by
 unfold jf;rw[List.length_append,List.length_take];omega
abbrev E6 (X:WorldA)(W:WorldS)(Y Z:cX)(N:NodeS)(B:aP)(t:bX)(a:Option Addr)(c:Nat)(x:Option Addr)(y:Nat)(l:List bE):List bZ :=
 gG X W Y Z ⟨some N,B⟩ t++(fP Y.A N B++ye a c x y l)
theorem RQ (F l:List bE):jf F l 0=F:=by simp[jf]
theorem EJ {F l:List bE}(h:k=l.length):jf F l k=F++l.take (200-F.length):=by
 subst h;unfold jf;rw[List.take_length]
set_option maxHeartbeats 4000000 in
set_option maxRecDepth 10000 in
theorem Hr {w5:World}{Y Z:cX}{N':NodeS}{B':aP}{t:bX}{x ea:Option Addr}{y ec ll:Nat}{l:List bE}{ev:List (Int × Int)}{σ:cr}{Q:Exit→cr→World→Prop}
  (hs:Sub [(90,.int .i64 ((0:Nat):Int)),(89,.int .i64 (ll:Nat)),(88,.slice a ll c),(0,.pointer (some ⟨X.w,0,none⟩))] σ)
  (hS:St w S w5 (E6 (X.with X.fa X.fc X.vs ea ec) (W.with W.aN ev) Y Z N' B' t a c x y l)) (cZ:W.aN.length≤200) (fg:l.length≤2) (nt:(l.map (fV x y)).length=ll) (nW:ll=l.length)
  (cA:∀n∈l,(n.claim=true∧n.cells=[])∨(n.claim=false∧n.cells=kE l)) (qU:∀x∈l,x.cells.length≤8)
  (hQ:∀σ w6,(∃fa fc vs,St w S w6 (E6 (X.with fa fc vs ea ec) (W.with (jf W.aN l ll) ev) Y Z N' B' t a c x y l))→Q (.exit 0) σ w6) :
  k7 prog aL 112 (UD Tryz.f94 0) Q σ w5:=by
 refine d5 aj (fun σ w' q=>∃(k:Nat) (fa:Option Addr) (fc:Nat) (vs:List bW),σ=[(90,.int .i64 k),(89,.int .i64 (ll:Nat)),(88,.slice a ll c),(0,.pointer (some ⟨X.w,0,none⟩))]∧q=ll-k∧k≤ll∧St w S w' (E6 (X.with fa fc vs ea ec) (W.with (jf W.aN l k) ev) Y Z N' B' t a c x y l))
  (σ':=[(90,.int .i64 ((0:Nat):Int)),(89,.int .i64 (ll:Nat)),(88,.slice a ll c),(0,.pointer (some ⟨X.w,0,none⟩))]) (n:=ll) hs ⟨0,X.fa,X.fc,X.vs,rfl,rfl,Nat.zero_le _,by rw[RQ];exact hS⟩ ?_
 rintro _ w5 q' ⟨k,fa,fc,vs,rfl,rfl,hk,hS⟩;apply aR<;>intro h3
 ·have xa:k<l.length:=by omega
  obtain⟨z,hz⟩:∃z,l[k]?=some z:=⟨_,List.getElem?_eq_getElem xa⟩;have DR:=List.mem_of_getElem? hz;have dB:(l.map (fV x y))[k]?=some (fV x y z):=by rw[List.getElem?_map,hz];rfl
  have hz8:=qU z DR
  obtain⟨g,o,Jl⟩:∃g o,a=some ⟨g,o,none⟩:=by
   obtain⟨b0,o0,h1,_⟩:=(fE (G:=fun _=>True) dA (hS.get 15 rfl) (fun _ _=>trivial)).cells k _ dB;exact⟨b0,o0,h1⟩
  subst Jl;have xr:vs.length=(jf W.aN l k).length:=(hS.get 5 rfl:(dX vs (jf W.aN l k)).holds _).1;have qh:=TQ (l:=l) (k:=k) cZ;refine ao.mk zo zo ?_;refine hS.lI dA 15 (by rfl) dB rfl ?_;refine hS.new (fun b6 w2 Cy hS=>?_);refine hS.sT 17 fun w3 hS=>?_
  refine hS.lD 0 ?_;apply aR<;>intro h4
  ·have nU:=RN hz (Int.ofNat_lt.1 h4);refine sj aj mixed [4,5] (fun _=>True) (.take 0 (.take 1 (.take 2 (.take 3 (.alt 4 (.alt 5 (.alt 6 (.alt 7 (.alt 8 (.take 9 (.take 10 (.alt 11 .fin .fin))) .fin) .fin) .fin) .fin) (.alt 5 (.alt 4 (.alt 6 (.alt 7 (.alt 8 (.take 9 (.take 10 (.alt 11 .fin .fin))) .fin) .fin) .fin) (.alt 6 (.alt 4 (.alt 7 (.alt 8 (.take 9 (.take 10 (.alt 11 .fin .fin))) .fin) .fin) (.alt 7 (.alt 4 (.alt 8 (.take 9 (.take 10 (.alt 11 .fin .fin))) .fin) .fin) .fin)) .fin)) .fin)))))) zk ?_;rintro w6 rfl;replace hS:=hS.drew;have hK:=hS.ref (fun _=>True);repeat' ((conv=>whnf);first|apply aI.mk|refine bO.mk zd ?_|refine ag.mk zo zo ?_|refine ao.mk zo zo ?_|refine hS.ld 0 rfl rfl (ae.mk hK ?_)|refine hS.mF 17 rfl rfl (ae.mk hK ?_)|(refine(Uf (SJ cA (fE gF (hS.get 16 rfl) (fun _ _=>trivial)) DR).2 (by show z.cells.length≤1000;omega)).mono ?_;rintro v w2 ⟨a',c',rfl,hx,ho,hf⟩;replace hS:=hS.made hx fq ho (fun g hg=>hf g (by simpa[az,own]using hg));replace hK:=hK.trans hx.aF;clear hx ho hf;refine ae.mk hK ?_)|(refine hS.fz underlying95 (sz:=5) zk (z:=.agg (bA fw).toArray) zk rfl rfl (cs:=bA ((fV x y z).with a' c')) (by rfl) (fun b9 w3 jl hx hS=>?_);replace hK:=hK.trans hx.aF;clear hx;refine ae.mk hK ?_)|(refine hS.fR dA 4 (ys:=[(fV x y z).with a' c']) (G:=fun _=>True) underlying95 (bytes:=56) zk (z:=.agg (bA fw).toArray) zk rfl rfl (bQ.bG dA (hS.blk 19 rfl) rfl zi (fun _ _=>trivial) rfl) (by show vs.length+1≤_;rw[xr];unfold maxLen;omega) (by show(vs.length+1)*56≤_;rw[xr];omega) (fun Vw Vx w9 hx hS=>?_);replace hK:=hK.trans (hx.mono fun _ _=>trivial);clear hx;refine ae.mk hK ?_)|(refine hS.kD hK 0 rfl (by exact Nat.le_of_ble_eq_true rfl) rfl trivial (fun w' hK hS=>ae.mk hK ?_))|refine And.intro ?_ ?_|(first|apply aM|apply ca|apply cE|apply cD)<;>(intro))
   all_goals
    have fZ:bQ _ 10 bV (fun _=>True) a' z.cells.length z.cells:=fE gF (hS.get 18 rfl) (fun _ _=>trivial)
    have hj:=((hS.dv [5,18,0,1,2,3,4,6,7,8,9,10,11,12,13,14,15,16] zd).join (g:=dX (vs++[(fV x y z).with a' c']) (jf W.aN l k++[z])) qB (GV (hS.get 5 rfl) (K0 ⟨rfl,rfl,rfl,rfl⟩ fZ)) (fun b hb=>by
     obtain⟨u,hu,hb⟩:=cz.1 hb;rcases List.mem_append.1 hu with hu|hu
     ·exact .inl (cz.2 ⟨u,hu,hb⟩)
     ·obtain rfl:=List.mem_singleton.1 hu;exact .inr (nD (LC hb)))).dv [1,2,3,4,5,0,6,7,8,9,10,11,12,13,14,15,16] zd
    refine aD.mk ⟨_,[(90,.int .i64 ((k+1:Nat):Int)),(89,_),(88,_),(0,_)],?_,zs,⟨k+1,Vw,Vx,vs++[(fV x y z).with a' c'],rfl,rfl,by omega,?_⟩⟩
    ·omega
    ·rw[nU];have fy:(X.with fa fc vs ea ec).vs.length+1=(jf W.aN l k++[z]).length:=by rw[List.length_append,←xr];rfl
     rw[fy]at hj;exact hj
  ·have nU:=zqw (l:=l) (k:=k) cZ (fun h=>h4 (Int.ofNat_lt.2 h));refine ag.mk zo zo ?_;refine aD.mk ⟨_,[(90,.int .i64 ((k+1:Nat):Int)),(89,_),(88,_),(0,_)],?_,zs,⟨k+1,fa,fc,vs,rfl,rfl,by omega,?_⟩⟩
   ·omega
   ·rw[nU];exact hS.keep 17
 ·obtain rfl:k=ll:=by omega
  exact hQ _ _ ⟨fa,fc,vs,hS⟩
set_option maxHeartbeats 4000000 in
set_option maxRecDepth 10000 in
theorem EH (n:Int)(h:bH E q m w X W)(hm:m+34≤40000000):aa prog 94 #[.pointer (some ⟨X.w,0,none⟩),.int .i64 n] w fun v w'=>v=gC E (W.tick n).1∧∃X',X'.w=X.w∧ak w w' (cQ X W) (cQ X' (W.tick n).2):=by
 refine zN func94 ntmps94 ?_;refine(BQ n h).mono ?_;rintro v w1 ⟨rfl,hx⟩;by_cases hn:n=0∨n=1
 case neg =>
  rw[show W.tick n=(2,W) from if_pos zo,show W.cF n=2 from if_pos zo];refine zE ?_;exact⟨rfl,X,rfl,ak.aF h.has hx⟩
 cases hN:(W.side n).node with
 | none =>
  rw[show W.tick n=(7,W) by unfold WorldS.tick;rw[if_neg zo,hN],Es hn hN];refine zE ?_;exact⟨rfl,X,rfl,ak.aF h.has hx⟩
 | some N =>
  rw[show W.tick n=W.iL n N (N.tick (W.side n).cw) by unfold WorldS.tick;rw[if_neg zo,hN],Et hn hN,if_pos rfl];obtain⟨hH,hQ⟩:=h.half hn;have oT:=((h.ok.side hn).node N hN).1;have px:=(h.ok.side hn).mr;have cZ:=h.ok.aN;have Jh:=h.ok.events;have I7:=NodeS.oG (N:=N) px;have fg:=Q6 N (W.side n).cw;have cA:=Q5 N (W.side n).cw;have qU:=Ta oT (W.side n).cw;have hS:=hH.start.no hx;have hE:=h.eD.ext hS.ext hQ
  have hT:∀{w'} {s:bX},ak w w' (jS X W n) (gG X W (X.side n) (X.side (1-n)) s (W.side (1-n))++nH (X.side n) s)→∃X',X'.w=X.w∧ak w w' (cQ X W) (cQ X' (W.ai n s)):=fun {w'} {s} k=>⟨X,rfl,by
   have:=ak.side h.has hn (Y:=X.side n) rfl k
   rwa [Bx hn]at this⟩
  have jX:∀{w'} {s:bX} {f:List bE} {e:List (Int × Int)} {fa:Option Addr} {fc:Nat} {vs:List bW} {ea:Option Addr} {ec:Nat},ak w w' (jS X W n) (gG (X.with fa fc vs ea ec) (W.with f e) (X.side n) (X.side (1-n)) s (W.side (1-n))++nH (X.side n) s)→∃X',X'.w=X.w∧ak w w' (cQ X W) (cQ X' ((W.ai n s).with f e)):=fun {w'} {s} {f} {e} {fa} {fc} {vs} {ea} {ec} k=>⟨X.with fa fc vs ea ec,rfl,by
   rw[←zqE hn]at k;exact ak.world h.has hn k rfl (Sb hn s f e)⟩
  have hU:∀{w'} {s:bX},St w (cp (jS X W n)) w' (gG X W (X.side n) (X.side (1-n)) s (W.side (1-n))++nH (X.side n) s)→∃X',X'.w=X.w∧ak w w' (cQ X W) (cQ X' (W.ai n s)):=fun k=>hT (St.turns k)
  have sO:∀{w'} {s:bX} {f:List bE} {e:List (Int × Int)} {fa:Option Addr} {fc:Nat} {vs:List bW} {ea:Option Addr} {ec:Nat},St w (cp (jS X W n)) w' (gG (X.with fa fc vs ea ec) (W.with f e) (X.side n) (X.side (1-n)) s (W.side (1-n))++nH (X.side n) s)→∃X',X'.w=X.w∧ak w w' (cQ X W) (cQ X' ((W.ai n s).with f e)):=fun k=>jX (St.turns k)
  generalize va:cp (jS X W n)=S at hS hU sO;rw[rz hN]at hS hQ;generalize (W.side n).cw=B at *;refine hS.ld 1 rfl (v:=.pointer (some ⟨(X.side n).A.n,0,none⟩)) rfl ?_;refine hS.lD 7 ?_;refine(Aw (hS.blk 8 rfl)).mono ?_;rintro v w2 ⟨rfl,rfl⟩;refine hS.ld 1 rfl (v:=.pointer (some ⟨(X.side n).A.n,0,none⟩)) rfl ?_;(conv=>whnf);have pM:Has _ (fP (X.side n).A N B):=Has.right (A:=[_,_,_,_,_,_,_]) hS.has;refine(ztj pM oT px zo (hE.sub rfl) hQ.app.2).mono ?_;rintro v w3 ⟨a,c,x,y,rfl,hk⟩;replace hS:=St.di (A:=gG X W (X.side n) (X.side (1-n)) ⟨some N,B⟩ (W.side (1-n))) (B:=[]) hS hk;generalize N.tick B=T at *;obtain⟨e,l,N',B'⟩:=T;dsimp only at *;have nW:(l.map (fV x y)).length=l.length:=List.length_map _;generalize nt:(l.map (fV x y)).length=ll at nW;refine hS.lD 1 ?_;refine hS.cn (zpQ (hS.blk 14 rfl) I7.len) fun w4 hS=>?_
  have vq:W.iL n N (e,l,N',B')=if B'.off=true then (e,W.ai n ⟨none,B'⟩) else if e≠0 then (e,W.ai n ⟨some N',B'⟩) else
   (0,(W.ai n ⟨some N',B'⟩).with (W.aN++l.take (200-W.aN.length)) (if N.role.aE=false∧N'.role.aE=true∧W.events.length<1000 then W.events++[(n,N'.role.ah)] else W.events)):=rfl
  rw[vq];cases j9:B'.off
  case true =>
   rw[if_pos rfl];refine hS.st 1 rfl (by exact Nat.le_of_ble_eq_true rfl) rfl (fun w' hS=>?_);refine zE ?_;exact⟨rfl,hU (s:=⟨none,B'⟩) (hS.dv [0,1,2,3,4,5,6,14] zd)⟩
  rw[if_neg zd];cases e with
  | succ j =>
   rw[if_pos (Nat.succ_ne_zero j)];refine zE ?_;exact⟨rfl,hU (s:=⟨some N',B'⟩) (hS.keep 15)⟩
  | zero =>
   rw[if_neg (fun h=>h rfl)]
   have mT:∀{b1 b2:Bool},N.role.aE=b1→N'.role.aE=b2→(b1=true∨b2=false∨¬W.events.length<1000)→(if N.role.aE=false∧N'.role.aE=true∧W.events.length<1000 then W.events++[(n,N'.role.ah)] else W.events)=W.events:=fun h1 h2 h3=>if_neg (by
    rw[h1,h2];rintro⟨rfl,rfl,h4⟩;rcases h3 with h3|h3|h3
    ·cases h3
    ·cases h3
    ·exact h3 h4)
   have th:N.role.aE=false→N'.role.aE=true→W.events.length<1000→(if N.role.aE=false∧N'.role.aE=true∧W.events.length<1000 then W.events++[(n,N'.role.ah)] else W.events)=W.events++[(n,N'.role.ah)]:=fun h1 h2 h3=>if_pos ⟨h1,h2,h3⟩
   replace hS:St w S w4 (E6 (X.with X.fa X.fc X.vs X.ea X.ec) (W.with W.aN W.events) (X.side n) (X.side (1-n)) N' B' (W.side (1-n)) a c x y l):=hS;generalize hev:(if N.role.aE=false∧N'.role.aE=true∧W.events.length<1000 then W.events++[(n,N'.role.ah)] else W.events)=ev;cases ha:N.role.aE
   ·(conv=>whnf)
    refine hS.ld 1 rfl (v:=.pointer (some ⟨(X.side n).A.n,0,none⟩)) rfl ?_;(conv=>whnf);refine hS.ld 7 rfl rfl ?_;(conv=>whnf);refine(Aw (hS.blk 8 rfl)).mono ?_;rintro v w5 ⟨rfl,rfl⟩;cases sP:N'.role.aE
    ·rw[←hev.symm.trans (mT ha sP (.inr (.inl rfl)))]at hS;generalize X.ea=ea at hS;generalize X.ec=ec at hS;refine Hr (ea:=ea) (ec:=ec) (ev:=ev) zs hS cZ fg nt nW cA qU ?_;rintro σ w6 ⟨fa,fc,vs,hS⟩;rw[EJ nW]at hS;repeat' first|refine zP ?_|apply aR<;>intro
     exact⟨rfl,sO (s:=⟨some N',B'⟩) (hS.keep 15)⟩
    ·(conv=>whnf)
     refine hS.ld 0 rfl rfl ?_;(conv=>whnf);refine aM (fun h5=>?_) (fun h5=>?_)
     ·have hv:=hev.symm.trans (th ha sP (by exact Int.ofNat_lt.1 h5));have xr:ev.length=W.events.length+1:=by rw[hv,List.length_append];rfl
      (conv=>whnf);refine sj aj mixed [4] (NI X W) (.take 0 (.take 1 (.take 2 (.take 3 (.take 5 (.take 6 (.take 7 (.take 8 (.take 9 (.take 10 (.take 11 (.take 12 (.alt 4 (.alt 13 (.take 14 (.alt 15 (.alt 16 (.take 17 (.take 18 (.alt 19 .fin .fin))) .fin) .fin)) .fin) (.alt 13 (.take 14 (.alt 4 (.alt 15 (.alt 16 (.take 17 (.take 18 (.alt 19 .fin .fin))) .fin) .fin) (.alt 15 (.alt 4 (.alt 16 (.take 17 (.take 18 (.alt 19 .fin .fin))) .fin) .fin) .fin))) .fin)))))))))))))) zk ?_;rintro w6 rfl;replace hS:=hS.drew;have hK:=hS.ref (NI X W);have kZ:=hS.ne 1 0 rfl rfl zd;have Dg:=hS.ne 7 0 rfl rfl zd;have zg:(X.side n).s ∉ (az 81 2 fv (.slice X.ea W.events.length X.ec) W.events).aW:=hS.bS 1 6 rfl rfl zd _ (List.mem_singleton.2 rfl);have WN:(X.side n).A.n ∉ (az 81 2 fv (.slice X.ea W.events.length X.ec) W.events).aW:=hS.bS 7 6 rfl rfl zd _ (List.mem_singleton.2 rfl);repeat' ((conv=>whnf);first|apply aI.mk|refine bO.mk zd ?_|refine ag.mk zo zo ?_|refine ao.mk zo zo ?_|refine hS.ld 0 rfl rfl (ae.mk hK ?_)|refine hS.bU 1 rfl (v:=.pointer (some ⟨(X.side n).A.n,0,none⟩)) rfl (fun h=>h.elim kZ zg) ?_|refine hS.bU 7 rfl rfl (fun h=>h.elim Dg WN) ?_|(refine(vN (hS.blk 8 rfl)).mono ?_;rintro v w7 ⟨rfl,rfl⟩;refine ae.mk hK ?_)|(refine hS.fz underlying41 (sz:=2) zk (z:=.agg (fv (0,0)).toArray) zk rfl rfl (cs:=fv (n,N'.role.ah)) (by rfl) (fun b9 w8 jl hx hS=>?_);replace hK:=hK.trans hx.aF;clear hx;refine ae.mk hK ?_)|(refine hS.fR ua 6 (ys:=[(n,N'.role.ah)]) (G:=fun _=>True) underlying41 (bytes:=16) zk (z:=.agg (fv (0,0)).toArray) zk rfl rfl (bQ.bG ua (hS.blk 17 rfl) rfl zi (fun _ _=>trivial) rfl) (by show W.events.length+1≤_;unfold maxLen;omega) (by show(W.events.length+1)*16≤_;omega) (fun ea ec w9 hx hS=>?_);replace hK:=hK.trans (hx.mono fun d hd=>.inr (nD hd));clear hx;refine ae.mk hK ?_)|(refine hS.kD hK 0 rfl (by exact Nat.le_of_ble_eq_true rfl) rfl (.inl rfl) (fun w' hK hS=>ae.mk hK ?_))|refine And.intro ?_ ?_|(first|apply aM|apply ca|apply cE|apply cD)<;>(intro))
      all_goals
       replace hS:=hS.keep 17
       replace hS:=hS.as (H':=E6 (X.with X.fa X.fc X.vs ea ec) (W.with W.aN (W.events++[(n,N'.role.ah)])) (X.side n) (X.side (1-n)) N' B' (W.side (1-n)) a c x y l) (by
        rw[show(W.with W.aN W.events).events.length+1=(W.events++[(n,N'.role.ah)]).length by rw[List.length_append];rfl];rfl)
       rw[←hv]at hS;clear hev mT th ha sP hK;refine Hr (ea:=ea) (ec:=ec) (ev:=ev) zs hS cZ fg nt nW cA qU ?_;rintro σ w6 ⟨fa,fc,vs,hS⟩;rw[EJ nW]at hS;repeat' ((conv=>whnf);first|apply aI.mk|refine bO.mk zd ?_|refine ag.mk zo zo ?_|refine ao.mk zo zo ?_|(first|apply aM|apply ca|apply cE|apply cD)<;>(intro))
       exact⟨rfl,sO (s:=⟨some N',B'⟩) (hS.keep 15)⟩
     ·rw[←hev.symm.trans (mT ha sP (.inr (.inr fun h=>h5 (by exact Int.ofNat_lt.2 h))))]at hS;generalize X.ea=ea at hS;generalize X.ec=ec at hS;clear hev mT th ha sP;(conv=>whnf);refine Hr (ea:=ea) (ec:=ec) (ev:=ev) zs hS cZ fg nt nW cA qU ?_;rintro σ w6 ⟨fa,fc,vs,hS⟩;rw[EJ nW]at hS;repeat' ((conv=>whnf);first|apply aI.mk|refine bO.mk zd ?_|refine ag.mk zo zo ?_|refine ao.mk zo zo ?_|(first|apply aM|apply ca|apply cE|apply cD)<;>(intro))
      exact⟨rfl,sO (s:=⟨some N',B'⟩) (hS.keep 15)⟩
   ·rw[←hev.symm.trans (mT ha rfl (.inl rfl))]at hS;generalize X.ea=ea at hS;generalize X.ec=ec at hS;refine Hr (ea:=ea) (ec:=ec) (ev:=ev) zs hS cZ fg nt nW cA qU ?_;rintro σ w6 ⟨fa,fc,vs,hS⟩;rw[EJ nW]at hS;refine zE ?_;exact⟨rfl,sO (s:=⟨some N',B'⟩) (hS.keep 15)⟩
end
theorem Rv (p:cC):p.err<12:=p.sI
theorem zsv (T:aC)(a b c d e f g:Int):(T.add a b c d e f g).1.2<12:=by
 unfold aC.add aC.lay;repeat' split
 all_goals (dsimp only;omega)
theorem zoy (N:NodeS)(p:cC):(N.begin p).1.2<12:=by
 unfold NodeS.begin;split
 ·show 8<12;decide
 split
 ·exact ZN _ _
 ·exact zsv _ _ _ _ _ _ _ _
theorem Zz (N:NodeS)(p:cC):(N.inside p).1<12:=by
 unfold NodeS.inside;split
 ·exact Rv p
 split
 ·show 9<12;decide
 split
 ·show 0<12;decide
 split
 ·exact zoy N p
 ·show 0<12;decide
theorem Zr (N:NodeS)(p:cC):(N.outside p).1<12:=by
 unfold NodeS.outside;split
 ·exact Rv p
 repeat' split
 all_goals (dsimp only;omega)
theorem R6 (C:dC)(B:aP)(e l:Int):(C.put B e l).1<12:=by
 unfold dC.put;repeat' split
 all_goals dsimp only
 all_goals omega
theorem Z9 (N:NodeS)(B:aP):(N.claim B).1.2<12:=by
 unfold NodeS.claim;split
 ·show 0<12;decide
 split
 ·exact R6 _ _ _ _
 ·show 0<12;decide
theorem Rs (N:NodeS)(B:aP):(N.tick B).1<12:=by
 unfold NodeS.tick;split
 ·show 2<12;decide
 split
 ·split
  ·exact Z9 _ _
  ·show 0<12;decide
 ·show 0<12;decide
def BK (l:List Int)(k:Int):Int:=(l[k.toNat]?).getD 0
def ju (q:Int):cC:=⟨1+q.tmod 2,10+(q.tdiv 2).tmod 3,100,77,80+(q.tdiv 6).tmod 2,if 1+q.tmod 2=2 then BK [1,2,6,8] ((q.tdiv 12).tmod 4) else 0⟩
def jv (q:Int):cC:=⟨1+q.tmod 2,77,80+(q.tdiv 2).tmod 2,1,2000+(q.tdiv 4).tmod 48,if 1+q.tmod 2=2 then BK [3,2,6,8] ((q.tdiv 4).tmod 4) else 0⟩
def WorldS.dO (W:WorldS)(n:Int):Nat→Nat × WorldS
 | 0=>(0,W)
 | k+1=>if (W.tick n).1≠0 then W.tick n else (W.tick n).2.dO n k
def WorldS.one (W:WorldS)(v:Int):Nat × WorldS :=
 if v.tmod 16<5∧W.aN.length=0 then (4,W) else
 if v.tmod 16<3 then W.cq ((v.tdiv 16).tmod W.aN.length) else
 if v.tmod 16=3 then W.drop ((v.tdiv 16).tmod W.aN.length) else
 if v.tmod 16=4 then W.dw ((v.tdiv 16).tmod W.aN.length) else
 if v.tmod 16=5∨v.tmod 16=6 then W.tick ((v.tdiv 16).tmod 2) else
 if v.tmod 16=7 then W.dO ((v.tdiv 16).tmod 2) 10 else
 if v.tmod 16=8∨v.tmod 16=9 then ((W.inside (ju (v.tdiv 16))).1,(W.inside (ju (v.tdiv 16))).2.2) else
 if v.tmod 16=10∨v.tmod 16=11 then ((W.outside (jv (v.tdiv 16))).1,(W.outside (jv (v.tdiv 16))).2.2) else
 if v.tmod 16=12 then W.down ((v.tdiv 16).tmod 2) else
 if v.tmod 16=13 then W.up ((v.tdiv 16).tmod 2) else
 if v.tmod 16=14 then W.cut ((v.tdiv 16).tmod 2) (((v.tdiv 16).tdiv 2).tmod 30) else (0,W)
def WorldS.run (W:WorldS):List Int→List Int × WorldS
 | []=>([],W)
 | v::l=>if v<0 then (-1::(W.run l).1,(W.run l).2) else (((W.one v).1:Int)::((W.one v).2.run l).1,((W.one v).2.run l).2)
theorem Tb (n:Int):∀(k:Nat) {m:Nat} {W:WorldS},dM m W→m+34*k≤40000000→dM (m+34*k) (W.dO n k).2
 | 0,_,_,h,_=>h
 | k+1,m,W,h,hm=>by
  unfold WorldS.dO;have h1:=h.tick zo n;split
  ·exact h1.mono zo
  ·exact(Tb n k h1 zo).mono zo
theorem zyC {W:WorldS}(h:dM m W)(hm:m+340≤40000000)(v:Int):dM (m+340) (W.one v).2:=by
 unfold WorldS.one;repeat' split
 all_goals first
  | exact h.mono zo
  | exact(h.cq _).mono zo
  | exact(h.drop _).mono zo
  | exact(h.dw _).mono zo
  | exact(h.tick zo _).mono zo
  | exact Tb _ 10 h zo
  | exact(h.inside _).mono zo
  | exact(h.outside _).mono zo
  | exact(h.down _).mono zo
  | exact(h.up _).mono zo
  | exact(h.cut _ _ (by have:=Int.tmod_lt_of_pos ((v.tdiv 16).tdiv 2) (show(0:Int)<30 by decide);omega)).mono zo
theorem m8 (h:Nat.blt n 12=true):n<12:=by simpa using h
theorem zqT (n:Int)(B:aP)(l:List RuleS):(d6 n B l).1<12:=R6 _ _ _ _
theorem Le (W:WorldS)(n:Int):W.cF n<12:=by
 unfold WorldS.cF;repeat' split
 all_goals exact m8 rfl
theorem Pv (W:WorldS):W.bM<12:=by
 unfold WorldS.bM;split
 ·exact m8 rfl
 ·exact Le _ _
theorem Rb (W:WorldS)(n:Int):(W.tick n).1<12:=by
 unfold WorldS.tick;split
 ·exact m8 rfl
 split
 ·exact m8 rfl
 ·unfold WorldS.iL;split
  ·exact Rs _ _
  split
  ·exact Rs _ _
  ·exact m8 rfl
theorem ZL (W:WorldS)(p:cC):(W.inside p).1<12:=by
 unfold WorldS.inside;split
 ·exact Pv W
 split
 ·exact m8 rfl
 ·exact Zz _ _
theorem Y8 (W:WorldS)(p:cC):(W.outside p).1<12:=by
 unfold WorldS.outside;split
 ·exact Pv W
 split
 ·exact m8 rfl
 ·exact Zr _ _
theorem Mr (W:WorldS)(k:Int):W.at_ k<12:=by
 unfold WorldS.at_;split<;>exact m8 rfl
theorem Y7 (W:WorldS)(k:Int):(W.cq k).1<12:=by
 unfold WorldS.cq;split
 ·exact Mr W k
 split<;>exact m8 rfl
theorem zpu (W:WorldS)(k:Int):(W.drop k).1<12:=by
 unfold WorldS.drop;split
 ·exact Mr W k
 ·exact m8 rfl
theorem ZX (W:WorldS)(k:Int):(W.dw k).1<12:=by
 unfold WorldS.dw;split
 ·exact Mr W k
 split
 ·exact m8 rfl
 split<;>exact m8 rfl
theorem zpt (W:WorldS)(n:Int):(W.down n).1<12:=by
 unfold WorldS.down;split
 ·exact Le W n
 ·exact m8 rfl
theorem zvf (W:WorldS)(n:Int):(W.up n).1<12:=by
 unfold WorldS.up;split
 ·exact m8 rfl
 split
 ·exact m8 rfl
 split
 ·exact zqT n (fD (W.side n).cw) W.rules
 ·exact m8 rfl
theorem zr9 (W:WorldS)(n k:Int):(W.cut n k).1<12:=by
 unfold WorldS.cut;split
 ·exact Le W n
 ·show AX _ _<12;unfold AX;repeat' split
  all_goals exact m8 rfl
theorem Q2 (n:Int):∀(k:Nat) (W:WorldS),(W.dO n k).1<12
 | 0,_=>m8 rfl
 | k+1,W=>by
  unfold WorldS.dO;split
  ·exact Rb W n
  ·exact Q2 n k _
theorem ztl (W:WorldS)(v:Int):(W.one v).1<12:=by
 unfold WorldS.one;repeat' split
 all_goals first
  | exact Y7 _ _
  | exact zpu _ _
  | exact ZX _ _
  | exact Rb _ _
  | exact Q2 _ _ _
  | exact ZL _ _
  | exact Y8 _ _
  | exact zpt _ _
  | exact zvf _ _
  | exact zr9 _ _ _
  | exact m8 rfl
section
variable {w':World}{X:WorldA}{W:WorldS}{E:Nat→Addr}{q:Nat}
theorem zve {G:RuleS→Prop}   {xs:List RuleS}(hx:bQ w 5 eW G a n xs)(hE:bF w E q xU)(h0:(gg xs).1≠0) :
  aa prog 17 #[.slice a n c] w fun v w'=>(∃e,v=.tuple #[.pointer none,e]∧dS E w w' e (gg xs).1 (gg xs).2)∧Ext No w w':=by
 refine zN func17 ntmps17 ?_;refine(G2 hx (hE.sub rfl)).mono ?_;rintro v w1 ⟨hF,eH⟩;obtain⟨j,hj⟩:∃j,(gg xs).1=j+1:=⟨(gg xs).1-1,by omega⟩;rw[hj]at hF ⊢;rcases id hF with⟨_,rfl⟩|⟨_,_,f,rfl,_⟩
 ·refine zE ?_;exact⟨⟨_,rfl,hF⟩,eH⟩
 ·refine zE ?_;exact⟨⟨_,rfl,hF⟩,eH⟩
def Lu (s0 s1:Option Addr)(a:Option Addr)(n c:Nat):List Value:=[.pointer s0,.pointer s1,.slice a n c,.slice none 0 0,.int .i64 (-1),.int .i64 0,.slice none 0 0]
def UY (bw:Nat)(a:Option Addr)(c:Nat)(xs:List RuleS)(N:Int→NodeS)(B:Int→aP)(Y Z:cX):Nat→List bZ
 | 0=>[blk bw 97 (Lu none none a xs.length c),az 58 5 eW (.slice a xs.length c) xs]
 | 1=>[blk bw 97 (Lu (some ⟨Y.s,0,none⟩) none a xs.length c),az 58 5 eW (.slice a xs.length c) xs,blk Y.s 104 [.pointer (some ⟨Y.A.n,0,none⟩),.pointer (some ⟨Y.A.b,0,none⟩)]]++fP Y.A (N 0) (B 0)
 | _=>[blk bw 97 (Lu (some ⟨Y.s,0,none⟩) (some ⟨Z.s,0,none⟩) a xs.length c),az 58 5 eW (.slice a xs.length c) xs,blk Y.s 104 [.pointer (some ⟨Y.A.n,0,none⟩),.pointer (some ⟨Y.A.b,0,none⟩)],blk Z.s 104 [.pointer (some ⟨Z.A.n,0,none⟩),.pointer (some ⟨Z.A.b,0,none⟩)]]++(fP Y.A (N 0) (B 0)++fP Z.A (N 1) (B 1))
theorem Ud {G:RuleS→Prop}   {xs:List RuleS}(hx:bQ w 5 eW G a n xs)(hn:n≤1000)(hE:bF w E q xU)(hq:q≤w.heap.size)(h0:(gg xs).1=0) :
  aa prog 17 #[.slice a n c] w fun v w'=>∃X,v=.tuple #[.pointer (some ⟨X.w,0,none⟩),.nilIface]∧Ext No w w'∧bH E q 0 w' X (.born xs)∧∀b,cp (cQ X (.born xs)) b→w.heap.size≤b:=by
 obtain⟨kM,lp,bR⟩:=dM.born (df.1 h0);have hl:=hx.len;have CI:gq gD:=⟨by simp[gD],by decide,by decide⟩;refine zN func17 ntmps17 ?_;have hS:=St.start w No;refine(G2 hx (hE.sub rfl)).mono ?_;rintro v w1 ⟨hF,eH⟩
 obtain rfl:v=.nilIface:=by
  rw[h0]at hF;rcases hF with⟨_,h⟩|⟨_,h,_⟩
  ·exact h
  ·exact absurd h zd
 replace hS:=hS.no eH;refine(RB (hx.no hS.ext) hn).mono ?_;rintro v w2 ⟨a2,c2,rfl,fC,ho,hf⟩;replace hS:=hS.made fC fq ho (fun g hg=>hf g (by simpa[az,own]using hg));refine hS.new (fun bw w3 CH hS=>?_);replace hS:=hS.dv [1,0] zd;rw[←hl]at hS;replace hS:St w No w3 (UY bw a2 c2 xs (fun i=>(d6 i gD xs).2.1) (fun i=>(d6 i gD xs).2.2) ⟨0,⟨0,0,0,0,0,0,0,none,0⟩⟩ ⟨0,⟨0,0,0,0,0,0,0,none,0⟩⟩ 0):=hS;generalize Bb:(fun i=>(d6 i gD xs).2.1)=N at hS;generalize A9:(fun i=>(d6 i gD xs).2.2)=B at hS;have e0:N 0=(d6 0 gD xs).2.1∧B 0=(d6 0 gD xs).2.2∧N 1=(d6 1 gD xs).2.1∧B 1=(d6 1 gD xs).2.2:=by subst Bb A9;exact⟨rfl,rfl,rfl,rfl⟩
 have yJ:WorldS.born xs=⟨⟨some (N 0),B 0⟩,⟨some (N 1),B 1⟩,xs,[],-1,0,[]⟩:=by subst Bb A9;rfl
 rw[yJ]at bR ⊢;clear Bb A9 yJ
 have eF:∀{b:Nat},w.heap.size≤b→0<n→∀b0 o0,a=some ⟨b0,o0,none⟩→b0≠b:=fun hb h1 b0 o0 h2=>by
  obtain⟨b1,o1,x,_,_,h3,h4,_⟩:=hx.at h1;rw[h2]at h3;simp only[Option.some.injEq,Addr.mk.injEq]at h3;obtain⟨rfl,_⟩:=h3;omega
 conv=>whnf
 refine d5 aj (fun σ w' q'=>∃(k:Nat) (Y Z:cX),σ=[(19,.int .i64 k),(5,.pointer (some ⟨bw,0,none⟩)),(0,.slice a n c)]∧q'=2-k∧k≤2∧St w No w' (UY bw a2 c2 xs N B Y Z k))
  (σ':=[(19,.int .i64 ((0:Nat):Int)),(5,.pointer (some ⟨bw,0,none⟩)),(0,.slice a n c)]) (n:=2) zs ⟨0,_,_,rfl,rfl,Nat.zero_le _,hS⟩ ?_
 rintro _ w4 q' ⟨k,Y,Z,rfl,rfl,hk,hS⟩;apply aR<;>intro h3
 ·have iw:k=0∨k=1:=by omega
  rcases iw with rfl|rfl
  ·have hsz:=hS.ext.size;refine(P6 _).mono ?_;rintro v w5 ⟨bb,rfl,lq,lU,hB⟩;replace hS:=hS.made lU (eh _ _ _) hB (by simp[blk];exact⟨lq,hB.lt⟩);have DL:w.heap.size≤bb:=Nat.le_trans hsz lq;refine(ME 0 (.inl rfl) (hx.no hS.ext) hn h0 (eF DL) (hS.blk 2 rfl) CI rfl ((hE.ext hS.ext fun _ h=>h.elim).sub rfl) (Nat.le_trans hq DL)).mono ?_;rintro v w6 fU;rcases fU with⟨_,A,sL,rfl,qW⟩|⟨h9,_⟩
   case inr=>exact absurd kM h9
   rw[←e0.1,←e0.2.1]at qW;have cT:=St.di (A:=[_,_]) (B:=[]) hS qW;subst sL;refine cT.new (fun bs w7 I8 hS=>?_);refine ao.mk zd zd ?_;refine hS.sT 0 fun w8 hS=>?_
   refine ag.mk zo zo ?_;refine aD.mk ⟨_,[(19,.int .i64 ((1:Nat):Int)),(5,_),(0,_)],?_,zs,⟨1,⟨bs,A⟩,Z,rfl,rfl,by omega,hS.dv [0,1,10,2,3,4,5,6,7,8,9] zd⟩⟩;omega
  ·have hsz:=hS.ext.size;refine(P6 _).mono ?_;rintro v w5 ⟨bb,rfl,lq,lU,hB⟩;replace hS:=hS.made lU (eh _ _ _) hB (by simp[blk];exact⟨lq,hB.lt⟩);have DL:w.heap.size≤bb:=Nat.le_trans hsz lq;refine(ME 1 (.inr rfl) (hx.no hS.ext) hn h0 (eF DL) (hS.blk 11 rfl) CI rfl ((hE.ext hS.ext fun _ h=>h.elim).sub rfl) (Nat.le_trans hq DL)).mono ?_;rintro v w6 fU;rcases fU with⟨_,A,sL,rfl,qW⟩|⟨h9,_⟩
   case inr=>exact absurd lp h9
   rw[←e0.2.2.1,←e0.2.2.2]at qW;have cT:=St.di (A:=[_,_,_,_,_,_,_,_,_,_,_]) (B:=[]) hS qW;subst sL;refine cT.new (fun bs w7 I8 hS=>?_);refine ao.mk zd zd ?_;refine hS.sT 0 fun w8 hS=>?_
   refine ag.mk zo zo ?_;refine aD.mk ⟨_,[(19,.int .i64 ((2:Nat):Int)),(5,_),(0,_)],?_,zs,⟨2,Y,⟨bs,A⟩,rfl,rfl,by omega,hS.dv [0,1,2,19,3,4,5,6,7,8,9,10,11,12,13,14,15,16,17,18] zd⟩⟩;omega
 ·obtain rfl:k=2:=by omega
  have cT:=(((hS.bJ 273 5 bA).add (e:=dX [] []) qB (QD _) (fun b hb=>by simp[dX]at hb) (fun f _ b _ hb=>by simp[dX]at hb)).bJ 81 2 fv).dv [0,2,3,1,20,21,22,4,5,6,7,8,9,10,11,12,13,14,15,16,17,18,19] zd;replace cT:St w No w4 (cQ ⟨bw,Y,Z,a2,c2,none,0,[],none,0⟩ ⟨⟨some (N 0),B 0⟩,⟨some (N 1),B 1⟩,xs,[],-1,0,[]⟩):=cT;have oQ:∀b,cp (cQ ⟨bw,Y,Z,a2,c2,none,0,[],none,0⟩ ⟨⟨some (N 0),B 0⟩,⟨some (N 1),B 1⟩,xs,[],-1,0,[]⟩) b→w.heap.size≤b:=fun b ⟨e,he,hb⟩=>(cT.may e he b hb).1.elim (fun h=>h.elim) id
  refine zE ?_;exact⟨⟨bw,Y,Z,a2,c2,none,0,[],none,0⟩,rfl,cT.ext,⟨cT.has,bR,hE.ext cT.ext fun _ h=>h.elim,fun b hb=>Nat.le_trans hq (oQ b hb)⟩,oQ⟩
end
section
variable {r:bN}
theorem ztz (e:Int)(hb:bC w b 134 (k4 r)):aa prog 162 #[.pointer (some ⟨b,0,none⟩),.int .i64 e] w fun v w'=>v=.bool (r.hear e).1∧Ext (· = b) w w'∧bC w' b 134 (k4 (r.hear e).2):=by
 refine zN func162 ntmps162 ?_;have hS:=St.sb hb;apply aR<;>intro h1
 ·refine zE ?_;rw[show r.hear e=(false,r) from if_pos (.inl h1)];exact⟨rfl,hS.ext,hS.blk 0 rfl⟩
 apply aR<;>intro h2
 ·refine zE ?_;rw[show r.hear e=(false,r) from if_pos (.inr h2)];exact⟨rfl,hS.ext,hS.blk 0 rfl⟩
 refine hS.lD 0 ?_;apply aR<;>intro h3
 ·refine hS.ld 0 rfl (v:=.bool r.aE) rfl ?_;refine hS.sT 0 fun w' hS=>?_
  refine hS.sT 0 fun w' hS=>?_
  refine hS.lD 0 ?_;refine hS.lD 0 ?_;refine aM (fun h5=>?_) (fun h5=>?_)
  ·(conv=>whnf)
   refine hS.st 0 rfl zl rfl (fun w' hS=>?_);repeat' ((conv=>whnf);first|apply aI.mk|refine bO.mk zd ?_|refine ag.mk zo zo ?_|refine ao.mk zo zo ?_|(first|apply aM|apply ca|apply cE|apply cD)<;>(intro))
   rw[show r.hear e=(r.aE,{ r with ah:=e,aE:=false,cd:=0 }) by
    unfold bN.hear;rw[if_neg zo];simp[h3]]
   exact⟨rfl,hS.ext,hS.blk 0 rfl⟩
  ·exact absurd rfl h5
 refine hS.lD 0 ?_;apply aR<;>intro h4
 ·refine hS.lD 0 ?_;(conv=>whnf);refine aM (fun h5=>?_) (fun h5=>?_)
  ·(conv=>whnf)
   refine hS.st 0 rfl zl rfl (fun w' hS=>?_);repeat' ((conv=>whnf);first|apply aI.mk|refine bO.mk zd ?_|refine ag.mk zo zo ?_|refine ao.mk zo zo ?_|(first|apply aM|apply ca|apply cE|apply cD)<;>(intro))
   rw[show r.hear e=(false,{ r with cd:=0 }) by
    unfold bN.hear;rw[if_neg zo];simp[h3,h4,h5]]
   exact⟨rfl,hS.ext,hS.blk 0 rfl⟩
  ·repeat' ((conv=>whnf);first|apply aI.mk|refine bO.mk zd ?_|refine ag.mk zo zo ?_|refine ao.mk zo zo ?_|(first|apply aM|apply ca|apply cE|apply cD)<;>(intro))
   rw[show r.hear e=(false,r) by
    unfold bN.hear;rw[if_neg zo];simp[h3,h5]]
   exact⟨rfl,hS.ext,hS.blk 0 rfl⟩
 ·refine zE ?_
  rw[show r.hear e=(false,r) by
   unfold bN.hear;rw[if_neg zo];simp[h3,h4]]
  exact⟨rfl,hS.ext,hS.blk 0 rfl⟩
end
def oB (x:Nat):Nat→Nat→Nat
 | 0,c=>c
 | k+1,c=>if (oB x k c ^^^ x / 2 ^ k) % 2=1 then oB x k c / 2 ^^^ 3988292384 else oB x k c / 2
theorem zvh (a b:Nat):(a ^^^ b) / 2 ^ 1=a / 2 ^ 1 ^^^ b / 2 ^ 1:=by
 have:=Nat.shiftRight_xor_distrib (a:=a) (b:=b) (i:=1);simpa[Nat.shiftRight_eq_div_pow]using this
theorem Um (x c:Nat):∀k,rC k (c ^^^ x)=oB x k c ^^^ x / 2 ^ k
 | 0=>by simp[rC,oB]
 | k+1=>by
  have ih:=Um x c k;have e:x / 2 ^ (k+1)=x / 2 ^ k / 2 ^ 1:=by rw[Nat.pow_succ,Nat.div_div_eq_div_mul]
  unfold rC HJ oB;rw[ih,zvh,Nat.and_one_is_mod,e];generalize x / 2 ^ k=q;generalize oB x k c=r;split
  ·rename_i h;rw[h,Nat.mul_one,Nat.pow_one,Nat.xor_assoc,Nat.xor_assoc]
   first|done|rw[Nat.xor_comm (q / 2)]
  ·rename_i h;have:(r ^^^ q) % 2=0:=by omega
   rw[this,Nat.mul_zero,Nat.pow_one,Nat.xor_zero]
theorem ztu (c:Nat)(x:UInt8):oB x.toNat 8 c=xT c x:=by
 unfold xT;rw[Um];have:=x.toNat_lt;rw[Nat.div_eq_of_lt zo,Nat.xor_zero]
theorem Un {x:Nat}(h:c<4294967296):∀k,oB x k c<4294967296
 | 0=>h
 | k+1=>by
  have:=Un (x:=x) h k;unfold oB;split
  ·exact Nat.xor_lt_two_pow (n:=32) zo zo
  ·omega
theorem zye (l:List UInt8)(hl:l.length≤1000000)(w:World) :
  aa prog 160 #[.string (bs l)] w fun v w'=>v=.int .i64 (wA l:Nat)∧Ext No w w':=by
 refine zN func160 ntmps160 ?_;have hS:=St.start w No
 refine d5 aj (fun σ w' q=>∃i:Nat,σ=[(4,.int .i64 i),(3,.int .i64 (wv (l.take i):Nat)),(0,.string (bs l))]∧q=l.length-i∧i≤l.length∧St w No w' [])
  (σ':=[(4,.int .i64 ((0:Nat):Int)),(3,.int .i64 ((4294967295:Nat):Int)),(0,.string (bs l))]) (n:=l.length) zs ⟨0,rfl,rfl,Nat.zero_le _,hS⟩ ?_
 rintro _ w1 q ⟨i,rfl,rfl,hi,hS⟩;(conv=>whnf);rw[nE];apply aR<;>intro h3
 ·obtain⟨x,hx⟩:∃x,l[i]?=some x:=⟨_,List.getElem?_eq_getElem zo⟩;have aX:=Ro hx;have aQ:=EP (l.take i);have xw:=x.toNat_lt;generalize wv (l.take i)=c at aX aQ
  refine d5 aj (fun σ w' q=>∃j:Nat,σ=[(5,.int .i64 j),(4,.int .i64 i),(3,.int .i64 (oB x.toNat j c:Nat)),(0,.string (bs l))]∧q=8-j∧j≤8∧St w No w' [])
   (σ':=[(5,.int .i64 ((0:Nat):Int)),(4,.int .i64 i),(3,.int .i64 (oB x.toNat 0 c:Nat)),(0,.string (bs l))]) (n:=8) zs ⟨0,rfl,rfl,Nat.zero_le _,hS⟩ ?_
  rintro _ w2 q ⟨j,rfl,rfl,hj,hS⟩;have hd:=Un (x:=x.toNat) aQ j;have hdd:oB x.toNat (j+1) c=if (oB x.toNat j c ^^^ x.toNat / 2 ^ j) % 2=1 then oB x.toNat j c / 2 ^^^ 3988292384 else oB x.toNat j c / 2:=rfl
  have IE:=ztu c x;have hq:x.toNat / 2 ^ j≤x.toNat:=Nat.div_le_self _ _;apply aR<;>intro h4
  ·generalize oB x.toNat j c=d at hd hdd;refine wu underlying9 rfl hx ?_;refine wo (kd:=.i64) (m:=(x.toNat:Int)) zk underlying3 (by rw[IntKind.wrap_i64];omega) ?_;refine wo (kd:=.u64) (m:=(j:Int)) zk underlying196 (by simp[IntKind.wrap,IntKind.bits,IntKind.signed];omega) ?_;refine U6 (n:=j) rfl (by show j≤64;omega) ?_;refine M4 zo zo ?_;have hm:((d ^^^ x.toNat / 2 ^ j:Nat):Int).tmod 2=(((d ^^^ x.toNat / 2 ^ j) % 2:Nat):Int):=by rw[Int.tmod_eq_emod_of_nonneg zo];omega
   have wT:(d:Int).tdiv 2=((d / 2:Nat):Int):=by rw[Int.tdiv_eq_ediv_of_nonneg zo];omega
   refine bO.mk zd ?_;rw[hm];generalize d ^^^ x.toNat / 2 ^ j=z at hdd;refine bO.mk zd ?_;rw[wT];refine ag.mk zo zo ?_;refine aM (fun h5=>?_) (fun h5=>?_)
   ·rw[if_pos zo]at hdd;refine M4 (b:=3988292384) zo zo ?_;rw[←hdd];refine ag.mk zo zo ?_;(conv=>whnf);refine aD.mk ⟨_,[(5,.int .i64 ((j+1:Nat):Int)),(4,_),(3,_),(0,_)],?_,zs,⟨j+1,rfl,rfl,by omega,hS⟩⟩;omega
   ·rw[if_neg zo]at hdd;rw[←hdd];refine ag.mk zo zo ?_;refine aD.mk ⟨_,[(5,.int .i64 ((j+1:Nat):Int)),(4,_),(3,_),(0,_)],?_,zs,⟨j+1,rfl,rfl,by omega,hS⟩⟩;omega
  ·obtain rfl:j=8:=by omega
   rw[IE,←aX];refine ag.mk zo zo ?_;refine aD.mk ⟨_,[(4,.int .i64 ((i+1:Nat):Int)),(3,_),(0,_)],?_,zs,⟨i+1,rfl,rfl,by omega,hS⟩⟩;omega
 ·obtain rfl:i=l.length:=by omega
  rw[List.take_length];have h1:=EP l;refine M4 (b:=4294967295) zo zo ?_;rw[Nat.xor_comm];exact zF
theorem Mb (n e l:Nat)(hn:n<9223372036854775808)(he:e<9223372036854775808)(hl:l<9223372036854775808)(w:World) :
  aa prog 106 #[.int .i64 (n:Int),.int .i64 (e:Int),.int .i64 (l:Int)] w fun v w'=>v=.string (bs (iu n e l))∧Ext No w w':=by
 have hs:=MO (qJ n e l);refine zN func106 ntmps106 ?_;have hS:=St.start w No;refine hS.cn (HH n 4 zo hn _) fun w' hS=>?_
 refine hS.cn (HH e 4 zo he _) fun w' hS=>?_
 refine kt (by simp[o8]) ?_;refine hS.cn (HH l 4 zo hl _) fun w' hS=>?_
 refine kt (by simp[o8]) ?_;rw[show jx n 4++jx e 4++jx l 4=qJ n e l from rfl];refine hS.cn (zye (qJ n e l) (by rw[Ew];omega) _) fun w' hS=>?_
 refine hS.cn (HH (wA (qJ n e l)) 4 zo zo _) fun w' hS=>?_
 refine kt (by simp[o8,Ew]) ?_;exact zF
theorem EB (l:List UInt8)(hl:l.length≤7)(w:World) :
  aa prog 105 #[.string (bs l)] w fun v w'=>v=.int .i64 (jU l:Nat)∧Ext No w w':=by
 refine zN func105 ntmps105 ?_;have hS:=St.start w No
 refine d5 aj (fun σ w' q=>∃i:Nat,σ=[(4,.int .i64 i),(3,.int .i64 (jU (l.take i):Nat)),(0,.string (bs l))]∧q=l.length-i∧i≤l.length∧St w No w' [])
  (σ':=[(4,.int .i64 ((0:Nat):Int)),(3,.int .i64 ((0:Nat):Int)),(0,.string (bs l))]) (n:=l.length) zs ⟨0,rfl,rfl,Nat.zero_le _,hS⟩ ?_
 rintro _ w1 q ⟨i,rfl,rfl,hi,hS⟩;(conv=>whnf);rw[nE];apply aR<;>intro h3
 ·obtain⟨x,hx⟩:∃x,l[i]?=some x:=⟨_,List.getElem?_eq_getElem zo⟩;have aX:=Sa hx;have aQ:=MU (l.take i);have h7:256 ^ (l.take i).length≤256 ^ 6:=Nat.pow_le_pow_right zo (by rw[List.length_take];omega);have xw:=x.toNat_lt;generalize jU (l.take i)=v at aX aQ;have hv:v<281474976710656:=Nat.lt_of_lt_of_le aQ h7;refine ag.mk zo zo ?_;refine wu underlying9 rfl hx ?_;refine wo (kd:=.i64) (m:=(x.toNat:Int)) zk underlying3 (by rw[IntKind.wrap_i64];omega) ?_;refine ag.mk zo zo ?_;rw[show 256*(v:Int)+(x.toNat:Int)=((jU (l.take (i+1)):Nat):Int) by rw[aX];omega];refine ag.mk zo zo ?_;refine aD.mk ⟨_,[(4,.int .i64 ((i+1:Nat):Int)),(3,_),(0,_)],?_,zs,⟨i+1,rfl,rfl,by omega,hS⟩⟩;omega
 ·obtain rfl:i=l.length:=by omega
  rw[List.take_length];exact zF
structure el where
 data:List UInt8
 off:Bool
 left:Int
 kJ:Bool
def kW (B:el):List Value:=[.string (bs B.data),.bool B.off,.int .i64 B.left,.bool B.kJ]
structure Alike (R:el)(B:aP):Prop where
 data:R.data=B.data
 off:R.off=B.off
 left:R.kJ=true→R.left=B.left∧0≤B.left
 free:R.kJ=false→B.left = -1
theorem Ra:∀(s:List UInt8) (d:List UInt8) (p:Nat),p+s.length≤d.length→aP.write ⟨d,false,-1⟩ p s=(true,⟨laid d p s,false,-1⟩)
 | [],d,p,_=>by rw[xN];rfl
 | x::r,d,p,h=>by
  rw[List.length_cons]at h;rw[xK,if_neg zi];have ih:=Ra r (d.set p x) (p+1) (by rw[List.length_set];omega);rw[Ex h]at ih;exact ih
theorem Sc:∀(s:List UInt8) (d:List UInt8) (p n:Nat),p+s.length≤d.length→aP.write ⟨d,false,(n:Int)⟩ p s=if s.length≤n then (true,⟨laid d p s,false,(n:Int)-s.length⟩) else (false,⟨laid d p (s.take n),true,0⟩)
 | [],d,p,n,_=>by
  rw[xN,if_pos zi];simp[Sd]
 | x::r,d,p,0,h=>by
  rw[xK,if_pos zi,if_neg zi,List.take_zero,xN];rfl
 | x::r,d,p,n+1,h=>by
  rw[List.length_cons]at h
  have e:(if ((n+1:Nat):Int)-1 > -1 then ((n+1:Nat):Int)-1 else -1)=(n:Int):=by
   rw[if_pos zo];omega
  have ih:=Sc r (d.set p x) (p+1) n (by rw[List.length_set];omega);rw[xK,if_neg (by simp;omega)];dsimp only;rw[e,ih,List.take_succ_cons,List.length_cons];by_cases hn:r.length≤n
  ·rw[if_pos hn,if_pos zo,Ex h];congr 2;omega
  ·rw[if_neg hn,if_neg zo,Ex (by rw[List.length_take];omega)]
theorem zsi {d:List UInt8}{l:Int}{p:Nat}{s:List UInt8}(hs:s≠[]):aP.write ⟨d,true,l⟩ p s=(false,⟨d,true,l⟩):=by
 cases s with
 | nil=>exact absurd rfl hs
 | cons x r=>rw[xK,if_pos (.inl rfl)]
section
variable {B:aP}{R:el}
theorem zwH (hb:bC w b 126 (kW R)):aa prog 116 #[.pointer (some ⟨b,0,none⟩)] w fun _ w'=>Ext (· = b) w w'∧bC w' b 126 (kW ⟨R.data,false,R.left,false⟩):=by
 refine zN func116 ntmps116 ?_;have hS:=St.sb hb;refine hS.sT 0 fun w' hS=>?_
 refine hS.sT 0 fun w' hS=>?_
 refine zE ?_;exact⟨hS.ext,hS.blk 0 rfl⟩
theorem ztv (k:Int)(hb:bC w b 126 (kW R)):aa prog 117 #[.pointer (some ⟨b,0,none⟩),.int .i64 k] w fun v w'=>v=.int .i64 ((if k<0 then 2 else if R.off=true then 7 else 0:Nat):Int)∧Ext (· = b) w w'∧bC w' b 126 (kW (if k<0∨R.off=true then R else ⟨R.data,R.off,k,true⟩)):=by
 refine zN func117 ntmps117 ?_;have hS:=St.sb hb;apply aR<;>intro h1
 ·refine zE ?_;rw[if_pos h1,if_pos (.inl h1)];exact⟨rfl,hS.ext,hS.blk 0 rfl⟩
 refine hS.lD 0 ?_;rw[if_neg h1];cases ho:R.off
 ·rw[if_neg zi,if_neg (by simp[h1])];refine hS.sT 0 fun w' hS=>?_
  refine hS.sT 0 fun w' hS=>?_
  refine zE ?_;exact⟨rfl,hS.ext,(hS.blk 0 rfl).to (by rw[←ho];rfl)⟩
 ·rw[if_pos rfl,if_pos (.inr rfl)];exact zG
end
def el.sG (R:el)(m:Nat):Nat:=if R.off=true then 0 else if R.kJ=true∧R.left<m then R.left.toNat else m
def el.vF (R:el)(m:Nat):Bool:=if R.off=true then true else if R.kJ=true∧R.left<m then true else false
def el.write (R:el)(p:Nat)(s:List UInt8):Bool × el:=(!R.vF s.length,⟨laid R.data p (s.take (R.sG s.length)),R.vF s.length,R.left-R.sG s.length,R.kJ⟩)
section
variable {R:el}
theorem Er (p:Nat)(s:List UInt8)(hp:p+s.length≤64)(hl:R.data.length=64)(CB:R.kJ=true→0≤R.left)(hr : -100000000≤R.left∧R.left≤9223372036854775807)(hb:bC w b 126 (kW R)) :
  aa prog 108 #[.pointer (some ⟨b,0,none⟩),.int .i64 (p:Int),.string (bs s)] w fun v w'=>v=.bool (R.write p s).1∧Ext (· = b) w w'∧bC w' b 126 (kW (R.write p s).2):=by
 obtain⟨D,ro,lf,bd⟩:=R;dsimp only at hl CB hr;refine zN func108 ntmps108 ?_;have hS:=(St.start w (· = b)).add (eh b _ _) hb (by simp[blk];exact hb.lt) zi;replace hS:St w (· = b) w [blk b 126 [.string (bs D),.bool ro,.int .i64 lf,.bool bd]]:=hS;unfold el.write el.sG el.vF;(conv=>whnf);rw[nE];refine hS.ld 0 rfl rfl ?_;cases ro
 ·rw[if_neg Bool.false_ne_true,if_neg Bool.false_ne_true];(conv=>whnf);refine hS.ld 0 rfl rfl ?_;cases bd
  ·(conv=>whnf)
   have hc:¬(false=true∧lf<(s.length:Int)):=by simp
   rw[if_neg hc,if_neg hc]
   have gP:D.take p++s.take s.length++D.drop (p+s.length)=laid D p (s.take s.length):=by
    unfold laid;rw[List.length_take,Nat.min_eq_left zo]
   refine sj aj mixed [4,14] (fun q=>q=b) (.take 0 (.take 1 (.take 2 (.take 3 (.take 5 (.take 7 (.take 8 (.take 9 (.take 11 (.take 12 (.take 13 (.take 15 (.take 16 (.take 17 (.alt 4 (.take 6 (.take 10 (.alt 14 (.take 18 (.take 19 (.take 20 (.take 21 (.alt 22 .fin .fin))))) .fin))) (.alt 14 (.take 18 (.alt 4 (.take 6 (.take 10 (.take 19 (.take 20 (.take 21 (.alt 22 .fin .fin)))))) .fin)) .fin)))))))))))))))) zk ?_;rintro w1 rfl;replace hS:=hS.drew;(conv=>whnf);refine pW (b:=s.length) underlying9 zo zo rfl ?_;(conv=>whnf);refine ag.mk zo zo ?_;(conv=>whnf);refine And.intro ?_ ?_
   ·(conv=>whnf)
    refine hS.ld 0 rfl rfl ?_;refine ae.mk (Ext.refl _ _) ?_;(conv=>whnf);refine pW (b:=p) underlying9 rfl zo rfl ?_;(conv=>whnf);refine kt (by simp;omega) ?_;(conv=>whnf);refine hS.ld 0 rfl rfl ?_;refine ae.mk (Ext.refl _ _) ?_;(conv=>whnf);refine vV (b:=p+s.length) underlying9 zo zo rfl ?_;refine kt (by simp;omega) ?_;(conv=>whnf);refine hS.oD 0 rfl zl rfl (fun w' aU hS=>?_);refine ae.mk aU ?_;clear aU;replace hS:St w (· = b) w' [blk b 126 [.string (bs (D.take p++s.take s.length++D.drop (p+s.length))),.bool false,.int .i64 lf,.bool false]]:=hS;rw[gP]at hS;(conv=>whnf);refine hS.ld 0 rfl rfl ?_;(conv=>whnf);refine ag.mk zo zo ?_;(conv=>whnf);refine hS.st 0 rfl zl rfl (fun w' hS=>?_);(conv=>whnf);refine hS.ld 0 rfl rfl ?_;repeat' ((conv=>whnf);first|apply aI.mk|refine bO.mk zd ?_|refine ag.mk zo zo ?_|refine ao.mk zo zo ?_|(first|apply aM|apply ca|apply cE|apply cD)<;>(intro))
    exact⟨rfl,hS.ext,hS.blk 0 rfl⟩
   ·(conv=>whnf)
    refine hS.ld 0 rfl rfl ?_;refine ae.mk (Ext.refl _ _) ?_;(conv=>whnf);refine vV (b:=p+s.length) underlying9 zo zo rfl ?_;(conv=>whnf);refine hS.ld 0 rfl rfl ?_;refine ae.mk (Ext.refl _ _) ?_;(conv=>whnf);refine pW (b:=p) underlying9 rfl zo rfl ?_;(conv=>whnf);refine kt (by simp;omega) ?_;(conv=>whnf);refine kt (by simp;omega) ?_;(conv=>whnf);refine hS.oD 0 rfl zl rfl (fun w' aU hS=>?_);refine ae.mk aU ?_;clear aU;replace hS:St w (· = b) w' [blk b 126 [.string (bs (D.take p++s.take s.length++D.drop (p+s.length))),.bool false,.int .i64 lf,.bool false]]:=hS;rw[gP]at hS;(conv=>whnf);refine hS.ld 0 rfl rfl ?_;(conv=>whnf);refine ag.mk zo zo ?_;(conv=>whnf);refine hS.st 0 rfl zl rfl (fun w' hS=>?_);(conv=>whnf);refine hS.ld 0 rfl rfl ?_;repeat' ((conv=>whnf);first|apply aI.mk|refine bO.mk zd ?_|refine ag.mk zo zo ?_|refine ao.mk zo zo ?_|(first|apply aM|apply ca|apply cE|apply cD)<;>(intro))
    exact⟨rfl,hS.ext,hS.blk 0 rfl⟩
  ·have kM:=CB rfl;(conv=>whnf);refine hS.ld 0 rfl rfl ?_;(conv=>whnf);refine aM (fun h1=>?_) (fun h1=>?_)
   ·have hc:true=true∧lf<(s.length:Int):=⟨rfl,h1⟩;rw[if_pos hc,if_pos hc];obtain⟨m,rfl⟩:∃m:Nat,lf=m:=⟨lf.toNat,by omega⟩;simp only[Int.toNat_natCast];(conv=>whnf);refine hS.ld 0 rfl rfl ?_;(conv=>whnf);refine hS.st 0 rfl zl rfl (fun w' hS=>?_);(conv=>whnf)
    have gP:D.take p++s.take m++D.drop (p+m)=laid D p (s.take m):=by
     unfold laid;rw[List.length_take,Nat.min_eq_left zo]
    refine sj aj mixed [4,14] (fun q=>q=b) (.take 0 (.take 1 (.take 2 (.take 3 (.take 5 (.take 7 (.take 8 (.take 9 (.take 11 (.take 12 (.take 13 (.take 15 (.take 16 (.take 17 (.alt 4 (.take 6 (.take 10 (.alt 14 (.take 18 (.take 19 (.take 20 (.take 21 (.alt 22 .fin .fin))))) .fin))) (.alt 14 (.take 18 (.alt 4 (.take 6 (.take 10 (.take 19 (.take 20 (.take 21 (.alt 22 .fin .fin)))))) .fin)) .fin)))))))))))))))) zk ?_;rintro w1 rfl;replace hS:=hS.drew;(conv=>whnf);refine pW (b:=m) underlying9 zo zo rfl ?_;(conv=>whnf);refine ag.mk zo zo ?_;(conv=>whnf);refine And.intro ?_ ?_
    ·(conv=>whnf)
     refine hS.ld 0 rfl rfl ?_;refine ae.mk (Ext.refl _ _) ?_;(conv=>whnf);refine pW (b:=p) underlying9 rfl zo rfl ?_;(conv=>whnf);refine kt (by simp;omega) ?_;(conv=>whnf);refine hS.ld 0 rfl rfl ?_;refine ae.mk (Ext.refl _ _) ?_;(conv=>whnf);refine vV (b:=p+m) underlying9 zo zo rfl ?_;refine kt (by simp;omega) ?_;refine hS.oD 0 rfl zl rfl (fun w' aU hS=>?_);refine ae.mk aU ?_;rw[gP]at hS;refine hS.ld 0 rfl rfl ?_;(conv=>whnf);refine ag.mk zo zo ?_;(conv=>whnf);refine hS.st 0 rfl zl rfl (fun w' hS=>?_);(conv=>whnf);refine hS.ld 0 rfl rfl ?_;repeat' ((conv=>whnf);first|apply aI.mk|refine bO.mk zd ?_|refine ag.mk zo zo ?_|refine ao.mk zo zo ?_|(first|apply aM|apply ca|apply cE|apply cD)<;>(intro))
     exact⟨rfl,hS.ext,hS.blk 0 rfl⟩
    ·(conv=>whnf)
     refine hS.ld 0 rfl rfl ?_;refine ae.mk (Ext.refl _ _) ?_;(conv=>whnf);refine vV (b:=p+m) underlying9 zo zo rfl ?_;(conv=>whnf);refine hS.ld 0 rfl rfl ?_;refine ae.mk (Ext.refl _ _) ?_;(conv=>whnf);refine pW (b:=p) underlying9 rfl zo rfl ?_;refine kt (by simp;omega) ?_;refine kt (by simp;omega) ?_;refine hS.oD 0 rfl zl rfl (fun w' aU hS=>?_);refine ae.mk aU ?_;rw[gP]at hS;refine hS.lD 0 ?_;refine ag.mk zo zo ?_;refine hS.sT 0 fun w' hS=>?_
     (conv=>whnf);refine hS.ld 0 rfl rfl ?_;repeat' ((conv=>whnf);first|apply aI.mk|refine bO.mk zd ?_|refine ag.mk zo zo ?_|refine ao.mk zo zo ?_|(first|apply aM|apply ca|apply cE|apply cD)<;>(intro))
     exact⟨rfl,hS.ext,hS.blk 0 rfl⟩
   ·have hc:¬(true=true∧lf<(s.length:Int)):=fun h=>h1 h.2
    rw[if_neg hc,if_neg hc];(conv=>whnf)
    have gP:D.take p++s.take s.length++D.drop (p+s.length)=laid D p (s.take s.length):=by
     unfold laid;rw[List.length_take,Nat.min_eq_left zo]
    refine sj aj mixed [4,14] (fun q=>q=b) (.take 0 (.take 1 (.take 2 (.take 3 (.take 5 (.take 7 (.take 8 (.take 9 (.take 11 (.take 12 (.take 13 (.take 15 (.take 16 (.take 17 (.alt 4 (.take 6 (.take 10 (.alt 14 (.take 18 (.take 19 (.take 20 (.take 21 (.alt 22 .fin .fin))))) .fin))) (.alt 14 (.take 18 (.alt 4 (.take 6 (.take 10 (.take 19 (.take 20 (.take 21 (.alt 22 .fin .fin)))))) .fin)) .fin)))))))))))))))) zk ?_;rintro w1 rfl;replace hS:=hS.drew;(conv=>whnf);refine pW (b:=s.length) underlying9 zo zo rfl ?_;(conv=>whnf);refine ag.mk zo zo ?_;(conv=>whnf);refine And.intro ?_ ?_
    ·(conv=>whnf)
     refine hS.ld 0 rfl rfl ?_;refine ae.mk (Ext.refl _ _) ?_;(conv=>whnf);refine pW (b:=p) underlying9 rfl zo rfl ?_;(conv=>whnf);refine kt (by simp;omega) ?_;(conv=>whnf);refine hS.ld 0 rfl rfl ?_;refine ae.mk (Ext.refl _ _) ?_;(conv=>whnf);refine vV (b:=p+s.length) underlying9 zo zo rfl ?_;refine kt (by simp;omega) ?_;(conv=>whnf);refine hS.oD 0 rfl zl rfl (fun w' aU hS=>?_);refine ae.mk aU ?_;clear aU;replace hS:St w (· = b) w' [blk b 126 [.string (bs (D.take p++s.take s.length++D.drop (p+s.length))),.bool false,.int .i64 lf,.bool true]]:=hS;rw[gP]at hS;(conv=>whnf);refine hS.ld 0 rfl rfl ?_;(conv=>whnf);refine ag.mk zo zo ?_;(conv=>whnf);refine hS.st 0 rfl zl rfl (fun w' hS=>?_);(conv=>whnf);refine hS.ld 0 rfl rfl ?_;repeat' ((conv=>whnf);first|apply aI.mk|refine bO.mk zd ?_|refine ag.mk zo zo ?_|refine ao.mk zo zo ?_|(first|apply aM|apply ca|apply cE|apply cD)<;>(intro))
     exact⟨rfl,hS.ext,hS.blk 0 rfl⟩
    ·(conv=>whnf)
     refine hS.ld 0 rfl rfl ?_;refine ae.mk (Ext.refl _ _) ?_;(conv=>whnf);refine vV (b:=p+s.length) underlying9 zo zo rfl ?_;(conv=>whnf);refine hS.ld 0 rfl rfl ?_;refine ae.mk (Ext.refl _ _) ?_;(conv=>whnf);refine pW (b:=p) underlying9 rfl zo rfl ?_;refine kt (by simp;omega) ?_;refine kt (by simp;omega) ?_;refine hS.oD 0 rfl zl rfl (fun w' aU hS=>?_);refine ae.mk aU ?_;replace hS:St w (· = b) w' [blk b 126 [.string (bs (D.take p++s.take s.length++D.drop (p+s.length))),.bool false,.int .i64 lf,.bool true]]:=hS;rw[gP]at hS;(conv=>whnf);refine hS.ld 0 rfl rfl ?_;(conv=>whnf);refine ag.mk zo zo ?_;refine hS.sT 0 fun w' hS=>?_
     (conv=>whnf);refine hS.ld 0 rfl rfl ?_;repeat' ((conv=>whnf);first|apply aI.mk|refine bO.mk zd ?_|refine ag.mk zo zo ?_|refine ao.mk zo zo ?_|(first|apply aM|apply ca|apply cE|apply cD)<;>(intro))
     exact⟨rfl,hS.ext,hS.blk 0 rfl⟩
 ·rw[if_pos rfl,if_pos rfl];(conv=>whnf)
  have gP:D.take p++s.take 0++D.drop (p+0)=laid D p (s.take 0):=by
   unfold laid;rw[List.length_take,Nat.min_eq_left zo]
  refine sj aj mixed [4,14] (fun q=>q=b) (.take 0 (.take 1 (.take 2 (.take 3 (.take 5 (.take 7 (.take 8 (.take 9 (.take 11 (.take 12 (.take 13 (.take 15 (.take 16 (.take 17 (.alt 4 (.take 6 (.take 10 (.alt 14 (.take 18 (.take 19 (.take 20 (.take 21 (.alt 22 .fin .fin))))) .fin))) (.alt 14 (.take 18 (.alt 4 (.take 6 (.take 10 (.take 19 (.take 20 (.take 21 (.alt 22 .fin .fin)))))) .fin)) .fin)))))))))))))))) zk ?_;rintro w1 rfl;replace hS:=hS.drew;(conv=>whnf);refine pW (b:=0) underlying9 zo zo rfl ?_;(conv=>whnf);refine ag.mk zo zo ?_;(conv=>whnf);refine And.intro ?_ ?_
  ·(conv=>whnf)
   refine hS.ld 0 rfl rfl ?_;refine ae.mk (Ext.refl _ _) ?_;(conv=>whnf);refine pW (b:=p) underlying9 rfl zo rfl ?_;(conv=>whnf);refine kt (by simp;omega) ?_;(conv=>whnf);refine hS.ld 0 rfl rfl ?_;refine ae.mk (Ext.refl _ _) ?_;(conv=>whnf);refine vV (b:=p+0) underlying9 zo zo rfl ?_;refine kt (by simp;omega) ?_;(conv=>whnf);refine hS.oD 0 rfl zl rfl (fun w' aU hS=>?_);refine ae.mk aU ?_;clear aU;replace hS:St w (· = b) w' [blk b 126 [.string (bs (D.take p++s.take 0++D.drop (p+0))),.bool true,.int .i64 lf,.bool bd]]:=hS;rw[gP]at hS;(conv=>whnf);refine hS.ld 0 rfl rfl ?_;(conv=>whnf);refine ag.mk zo zo ?_;(conv=>whnf);refine hS.st 0 rfl zl rfl (fun w' hS=>?_);(conv=>whnf);refine hS.ld 0 rfl rfl ?_;repeat' ((conv=>whnf);first|apply aI.mk|refine bO.mk zd ?_|refine ag.mk zo zo ?_|refine ao.mk zo zo ?_|(first|apply aM|apply ca|apply cE|apply cD)<;>(intro))
   exact⟨rfl,hS.ext,hS.blk 0 rfl⟩
  ·(conv=>whnf)
   refine hS.ld 0 rfl rfl ?_;refine ae.mk (Ext.refl _ _) ?_;(conv=>whnf);refine vV (b:=p+0) underlying9 zo zo rfl ?_;(conv=>whnf);refine hS.ld 0 rfl rfl ?_;refine ae.mk (Ext.refl _ _) ?_;(conv=>whnf);refine pW (b:=p) underlying9 rfl zo rfl ?_;refine kt (by simp;omega) ?_;refine kt (by simp;omega) ?_;refine hS.oD 0 rfl zl rfl (fun w' aU hS=>?_);refine ae.mk aU ?_;replace hS:St w (· = b) w' [blk b 126 [.string (bs (D.take p++s.take 0++D.drop (p+0))),.bool true,.int .i64 lf,.bool bd]]:=hS;rw[gP]at hS;(conv=>whnf);refine hS.ld 0 rfl rfl ?_;(conv=>whnf);refine ag.mk zo zo ?_;refine hS.sT 0 fun w' hS=>?_
   refine hS.lD 0 ?_;exact zG
end
theorem zrb (d:List UInt8){k:Nat}(hk:k<2)(h:fF d k % 2=k)(h1:1≤fF d k):(je d k).num≠fF d k:=by
 have:k=0∨k=1:=by omega
 rcases this with rfl|rfl
 ·simp[je];omega
 ·by_cases hf:kF d 0∧fF d 0>(je d 0).num
  ·rw[show je d 1=⟨fF d 0,mo d 0,mq d 0,false⟩ from if_pos hf];have:=hf.1.2.1;dsimp only;omega
  ·rw[show je d 1=⟨0,0,0,false⟩ from if_neg hf];dsimp only;omega
section
variable {R:el}
theorem ztG (hB:bC w b 126 (kW R))(hl:R.data.length=64):aa prog 42 #[.pointer (some ⟨b,0,none⟩)] w fun v w'=>∃c,v=.pointer (some ⟨c,0,none⟩)∧w.heap.size≤c∧Ext No w w'∧bC w' c 131 (mH b (cU R.data)):=by
 refine zN func42 ntmps42 ?_;have hS:=St.start w No;refine hS.new (fun c w' hc hS=>?_)
 refine d5 aj (fun σ w' q=>∃k:Nat,σ=[(4,.int .i64 k),(3,.pointer (some ⟨c,0,none⟩)),(0,.pointer (some ⟨b,0,none⟩))]∧q=2-k∧k≤2∧St w No w' [blk c 131 (mH b (je R.data k))])
  (σ':=[(4,.int .i64 ((0:Nat):Int)),(3,.pointer (some ⟨c,0,none⟩)),(0,.pointer (some ⟨b,0,none⟩))]) (n:=2) zs ⟨0,rfl,rfl,Nat.zero_le _,hS⟩ ?_
 rintro _ w1 q ⟨k,rfl,rfl,hk,hS⟩;apply aR<;>intro h3
 ·have iw:k<2:=by omega
  have lT:=Sr hl iw;have n1:=Mw R.data k;have n2:=Mt R.data k;have n3:=Mv R.data k;have aX:je R.data (k+1)=uR R.data k (je R.data k):=rfl;have JN:=zrb R.data iw;refine hS.cK (hB.cell 0) id ?_;refine ag.mk zo zo ?_;refine ag.mk zo zo ?_;refine ag.mk zo zo ?_;refine wz (a:=k*20) (b:=k*20+17) (r:=gm R.data k) underlying9 zo zo zo zo (by unfold gm;congr 1;omega) ?_;refine pW (b:=4) underlying9 rfl zo rfl ?_;refine hS.cn (EB ((gm R.data k).take 4) (by rw[List.length_take];omega) _) fun w2 hS=>?_
  rw[show jU ((gm R.data k).take 4)=fF R.data k from rfl];have l7:(fF R.data k:Int).tmod 2=((fF R.data k % 2:Nat):Int):=by rw[Int.tmod_eq_emod_of_nonneg zo];omega
  have hf:kF R.data k↔(1≤fF R.data k∧fF R.data k % 2=k∧iu (fF R.data k) (mo R.data k) (mq R.data k)++[165]=gm R.data k):=Iff.rfl;have bR:uR R.data k (je R.data k)=if kF R.data k∧fF R.data k>(je R.data k).num then ⟨fF R.data k,mo R.data k,mq R.data k,(je R.data k).dead⟩ else je R.data k:=rfl
  apply aR<;>intro h4
  ·skip
   rw[bR,if_neg (fun h=>by have:=(hf.1 h.1).1;omega)]at aX;refine ag.mk zo zo ?_;refine aD.mk ⟨_,[(4,.int .i64 ((k+1:Nat):Int)),(3,_),(0,_)],?_,zs,⟨k+1,rfl,rfl,by omega,by rw[aX];exact hS⟩⟩;omega
  refine bO.mk zd ?_;rw[l7];refine ca (fun h5=>?_) (fun h5=>?_)
  ·skip
   rw[bR,if_neg (fun h=>h5 (by have:=(hf.1 h.1).2.1;omega))]at aX;refine ag.mk zo zo ?_;refine aD.mk ⟨_,[(4,.int .i64 ((k+1:Nat):Int)),(3,_),(0,_)],?_,zs,⟨k+1,rfl,rfl,by omega,by rw[aX];exact hS⟩⟩;omega
  refine hS.lD 0 ?_;apply aR<;>intro h6
  ·skip
   rw[bR,if_neg (fun h=>by have:=h.2;omega)]at aX;refine ag.mk zo zo ?_;(conv=>whnf);refine aD.mk ⟨_,[(4,.int .i64 ((k+1:Nat):Int)),(3,_),(0,_)],?_,zs,⟨k+1,rfl,rfl,by omega,by rw[aX];exact hS⟩⟩;omega
  have Ww:fF R.data k>(je R.data k).num:=by
   have:=JN zo zo;omega
  (conv=>whnf);refine hS.dr [] No [0,1,2,4,5,10,3,6,7,8,9,11] fun w1 hS=>?_
  refine wz (a:=4) (b:=8) underlying9 rfl rfl zo zo rfl ?_;refine wz (a:=8) (b:=12) underlying9 rfl rfl zo zo rfl ?_;refine(EB (((gm R.data k).drop 4).take (8-4)) (by rw[List.length_take];omega) _).mono ?_;rintro v w3 ⟨rfl,fC⟩;replace hS:=hS.no fC;refine ae.mk fC ?_;refine(EB (((gm R.data k).drop 8).take (12-8)) (by rw[List.length_take];omega) _).mono ?_;rintro v w4 ⟨rfl,k3⟩;replace hS:=hS.no k3;refine ae.mk (fC.trans k3) ?_;rw[show jU (((gm R.data k).drop 4).take (8-4))=mo R.data k from rfl,show jU (((gm R.data k).drop 8).take (12-8))=mq R.data k from rfl];refine(Mb (fF R.data k) (mo R.data k) (mq R.data k) zo zo zo _).mono ?_;rintro v w5 ⟨rfl,xv⟩;replace hS:=hS.no xv;refine ae.mk ((fC.trans k3).trans xv) ?_;refine(EE 165 zo _).mono ?_;rintro v w6 ⟨rfl,rW⟩;replace hS:=hS.no rW;refine ae.mk (((fC.trans k3).trans xv).trans rW) ?_;refine kt (by rw[AA];simp) ?_;refine rF ?_;refine aM (fun h7=>?_) (fun h7=>?_)
  ·rw[bR,if_pos ⟨hf.2 ⟨by omega,by omega,h7⟩,Ww⟩]at aX;refine hS.sT 0 fun w' hS=>?_
   refine wz (a:=4) (b:=8) underlying9 rfl rfl zo zo rfl ?_;refine hS.cn (EB (((gm R.data k).drop 4).take (8-4)) (by rw[List.length_take];omega) _) fun w7 hS=>?_
   rw[show jU (((gm R.data k).drop 4).take (8-4))=mo R.data k from rfl];refine hS.sT 0 fun w' hS=>?_
   refine wz (a:=8) (b:=12) underlying9 rfl rfl zo zo rfl ?_;refine hS.cn (EB (((gm R.data k).drop 8).take (12-8)) (by rw[List.length_take];omega) _) fun w8 hS=>?_
   rw[show jU (((gm R.data k).drop 8).take (12-8))=mq R.data k from rfl];refine hS.sT 0 fun w' hS=>?_
   replace hS:St w No w' [blk c 131 (mH b ⟨fF R.data k,mo R.data k,mq R.data k,(je R.data k).dead⟩)]:=hS;rw[←aX]at hS;refine ag.mk zo zo ?_;refine aD.mk ⟨_,[(4,.int .i64 ((k+1:Nat):Int)),(3,_),(0,_)],?_,zs,⟨k+1,rfl,rfl,by omega,hS⟩⟩;omega
  ·skip
   rw[bR,if_neg (fun h=>h7 (hf.1 h.1).2.2)]at aX;refine ag.mk zo zo ?_;refine aD.mk ⟨_,[(4,.int .i64 ((k+1:Nat):Int)),(3,_),(0,_)],?_,zs,⟨k+1,rfl,rfl,by omega,by rw[aX];exact hS⟩⟩;omega
 ·obtain rfl:k=2:=by omega
  refine zE ?_;exact⟨c,rfl,hc,hS.ext,hS.blk 0 rfl⟩
end
theorem Ef {R:el}{B:aP}{p:Nat}{s:List UInt8}(h:Alike R B)(hp:p+s.length≤B.data.length)(hs:s≠[]):(R.write p s).1=(B.write p s).1∧Alike (R.write p s).2 (B.write p s).2:=by
 obtain⟨rd,ro,rl,rb⟩:=R;obtain⟨bd,bo,bl⟩:=B;obtain⟨h1,h2,h3,h4⟩:=h;dsimp only at h1 h2 h3 h4 hp;subst h1 h2;unfold el.write el.sG el.vF;dsimp only;cases ro
 ·cases rb
  ·obtain rfl:=h4 rfl;rw[Ra s rd p hp];simp only[if_neg Bool.false_ne_true,Bool.false_eq_true,false_and,if_false,List.take_length];exact⟨rfl,rfl,rfl,fun h=>absurd h zi,fun _=>rfl⟩
  ·obtain⟨h5,h6⟩:=h3 rfl;obtain⟨n,rfl⟩:=Int.eq_ofNat_of_zero_le h6;subst h5;rw[Sc s rd p n hp];by_cases hn:s.length≤n
   ·rw[if_pos hn];have hc:¬(true=true∧(n:Int)<(s.length:Int)):=by simp;omega
    have e1:(if true=true∧(n:Int)<(s.length:Int) then (n:Int).toNat else s.length)=s.length:=if_neg hc;have e2:(if true=true∧(n:Int)<(s.length:Int) then true else false)=false:=if_neg hc;rw[if_neg Bool.false_ne_true,if_neg Bool.false_ne_true,e1,e2,List.take_length];exact⟨rfl,rfl,rfl,fun _=>⟨rfl,by dsimp only;omega⟩,fun h=>absurd h zi⟩
   ·rw[if_neg hn];have hc:true=true∧(n:Int)<(s.length:Int):=⟨rfl,by omega⟩;have e1:(if true=true∧(n:Int)<(s.length:Int) then (n:Int).toNat else s.length)=n:=(if_pos hc).trans (Int.toNat_natCast n);have e2:(if true=true∧(n:Int)<(s.length:Int) then true else false)=true:=if_pos hc;rw[if_neg Bool.false_ne_true,if_neg Bool.false_ne_true,e1,e2];exact⟨rfl,rfl,rfl,fun _=>⟨by dsimp only;omega,by dsimp only;omega⟩,fun h=>absurd h zi⟩
 ·rw[zsi hs];simp only[if_true,List.take_zero,xN];refine⟨rfl,rfl,rfl,fun h=>?_,fun h=>h4 h⟩;have:=h3 h;exact⟨by dsimp only;omega,this.2⟩
theorem zoW (R:el)(p:Nat)(s:List UInt8)(CB:R.kJ=true→0≤R.left):R.left-s.length≤(R.write p s).2.left∧(R.write p s).2.left≤R.left∧((R.write p s).2.kJ=true→0≤(R.write p s).2.left)∧(R.write p s).2.kJ=R.kJ:=by
 unfold el.write el.sG;dsimp only
 have Jf:∀m:Nat,(if R.off=true then 0 else if R.kJ=true∧R.left<(m:Int) then R.left.toNat else m)≤m∧(R.kJ=true→((if R.off=true then 0 else if R.kJ=true∧R.left<(m:Int) then R.left.toNat else m:Nat):Int)≤R.left):=by
  intro m;split
  ·exact⟨by omega,fun h=>by have:=CB h;omega⟩
  ·split
   ·rename_i h;have:=CB h.1;exact⟨by omega,fun _=>by omega⟩
   ·rename_i h
    exact⟨by omega,fun hb=>by
     have:¬R.left<(m:Int):=fun h2=>h ⟨hb,h2⟩
     omega⟩
 have:=Jf s.length;refine⟨by omega,by omega,fun h=>?_,rfl⟩;have:=this.2 h;omega
structure mN (R:el)(k:Nat):Prop where
 len:R.data.length=64
 kJ:R.kJ=true→0≤R.left
 lo : -(k:Int)≤R.left
 hi:R.left≤9223372036854775807
theorem mN.write {R:el}(h:mN R k)(p:Nat)(s:List UInt8)(hp:p+s.length≤64):mN (R.write p s).2 (k+s.length):=by
 obtain⟨h1,h2,h3,h4⟩:=zoW R p s h.kJ;have hl:=h.lo;have hh:=h.hi;refine⟨?_,h3,by omega,by omega⟩;unfold el.write;dsimp only;rw[LS (by rw[List.length_take,h.len];omega),h.len]
theorem mN.le {R:el}(h:mN R k)(hm:k≤m):mN R m:=⟨h.len,h.kJ,by have:=h.lo;omega,h.hi⟩
section
variable {B:aP}{R:el}
theorem Sk {C:dC}(e l:Int)(hC:bC w c 131 (mH b C))(hB:bC w b 126 (kW R))(hA:Alike R B)(hO:gq B)(hR:mN R k)(hk:k≤50000000)(hN:C.num<4294967296) :
  aa prog 43 #[.pointer (some ⟨c,0,none⟩),.int .i64 e,.int .i64 l] w fun v w'=>v=.int .i64 ((C.put B e l).1:Nat)∧Ext (fun d=>d=b∨d=c) w w'∧∃R',Alike R' (C.put B e l).2.1∧mN R' (k+18)∧bC w' b 126 (kW R')∧bC w' c 131 (mH b (C.put B e l).2.2):=by
 have lR:¬c=b:=bC.ne hC hB zd;unfold dC.put;refine r5 aj func43 zk rfl ntmps43 zl ?_;have hS:=(St.start w (fun d=>d=b∨d=c)).add (eh b _ _) hB (by simp[blk];exact hB.lt) zi;have hS:=hS.add (eh c _ _) hC (by simp[blk];exact hC.lt) (by simp[blk];omega);(conv=>whnf);refine hS.ld 1 rfl (o:=4) rfl ?_;cases hd:C.dead
 ·rw[if_neg Bool.false_ne_true];by_cases hr:e<0∨e>1073741824∨l<0∨l>1073741824
  ·rw[if_pos hr];(conv=>whnf);refine aM (fun h1=>?_) (fun h1=>?_)
   ·skip
    repeat' first|refine zP ?_|apply aR<;>intro
    exact⟨rfl,hS.ext,R,hA,hR.le zo,hS.blk 0 rfl,hS.blk 1 rfl⟩
   (conv=>whnf);refine aM (fun h2=>?_) (fun h2=>?_)
   ·skip
    repeat' first|refine zP ?_|apply aR<;>intro
    exact⟨rfl,hS.ext,R,hA,hR.le zo,hS.blk 0 rfl,hS.blk 1 rfl⟩
   (conv=>whnf);refine aM (fun h3=>?_) (fun h3=>?_)
   ·skip
    repeat' first|refine zP ?_|apply aR<;>intro
    exact⟨rfl,hS.ext,R,hA,hR.le zo,hS.blk 0 rfl,hS.blk 1 rfl⟩
   (conv=>whnf);refine aM (fun h4=>?_) (fun h4=>absurd hr zo);repeat' first|refine zP ?_|apply aR<;>intro
   exact⟨rfl,hS.ext,R,hA,hR.le zo,hS.blk 0 rfl,hS.blk 1 rfl⟩
  rw[if_neg hr];(conv=>whnf);refine aM (fun h=>absurd h zo) (fun h1=>?_);(conv=>whnf);refine aM (fun h=>absurd h zo) (fun h2=>?_);(conv=>whnf);refine aM (fun h=>absurd h zo) (fun h3=>?_);(conv=>whnf);refine aM (fun h=>absurd h zo) (fun h4=>?_);obtain⟨e,rfl⟩:=Int.eq_ofNat_of_zero_le (show 0≤e by omega);obtain⟨l,rfl⟩:=Int.eq_ofNat_of_zero_le (show 0≤l by omega);simp only[Int.toNat_natCast];(conv=>whnf);refine hS.ld 1 rfl (o:=2) rfl ?_;by_cases ho:(e:Int)<C.ep∨(l:Int)<C.li
  ·rw[if_pos ho];(conv=>whnf);refine aM (fun h5=>?_) (fun h5=>?_)
   ·skip
    repeat' ((conv=>whnf);first|apply aI.mk|refine bO.mk zd ?_|refine ag.mk zo zo ?_|refine ao.mk zo zo ?_|(first|apply aM|apply ca|apply cE|apply cD)<;>(intro))
    exact⟨rfl,hS.ext,R,hA,hR.le zo,hS.blk 0 rfl,hS.blk 1 rfl⟩
   (conv=>whnf);refine hS.ld 1 rfl (o:=3) rfl ?_;(conv=>whnf);refine aM (fun h6=>?_) (fun h6=>absurd ho zo);repeat' ((conv=>whnf);first|apply aI.mk|refine bO.mk zd ?_|refine ag.mk zo zo ?_|refine ao.mk zo zo ?_|(first|apply aM|apply ca|apply cE|apply cD)<;>(intro))
   exact⟨rfl,hS.ext,R,hA,hR.le zo,hS.blk 0 rfl,hS.blk 1 rfl⟩
  rw[if_neg ho];(conv=>whnf);refine aM (fun h=>absurd h zo) (fun h5=>?_);(conv=>whnf);refine hS.ld 1 rfl (o:=3) rfl ?_;(conv=>whnf);refine aM (fun h=>absurd h zo) (fun h6=>?_);(conv=>whnf);refine hS.ld 1 rfl (o:=1) rfl ?_;(conv=>whnf);refine ag.mk zo zo ?_;rw[show(C.num:Int)+1=((C.num+1:Nat):Int) by omega];(conv=>whnf);refine aM (fun h7=>?_) (fun h7=>?_)
  ·rw[if_pos (show C.num+1≥4294967296 by omega)];repeat' ((conv=>whnf);first|apply aI.mk|refine bO.mk zd ?_|refine ag.mk zo zo ?_|refine ao.mk zo zo ?_|(first|apply aM|apply ca|apply cE|apply cD)<;>(intro))
   exact⟨rfl,hS.ext,R,hA,hR.le zo,hS.blk 0 rfl,hS.blk 1 rfl⟩
  rw[if_neg (show ¬C.num+1≥4294967296 by omega)];have l7:((C.num+1:Nat):Int).tmod 2=(((C.num+1) % 2:Nat):Int):=by rw[Int.tmod_eq_emod_of_nonneg zo];omega
  have nv:(C.num+1) % 2<2:=Nat.mod_lt _ zo;have gY:=AA (C.num+1) e l;unfold cJ;have u4:((C.num+1:Nat):Int).tmod 2*20=(((C.num+1) % 2*20:Nat):Int):=by rw[l7];omega
  have IC:(C.num+1) % 2*20≤20:=by omega
  generalize (C.num+1) % 2*20=p at u4 IC;have FQ:(p:Int)+16=((p+16:Nat):Int):=by omega
  repeat' ((conv=>whnf);first|apply aI.mk|refine bO.mk zd ?_|refine ag.mk zo zo ?_|refine ao.mk zo zo ?_|refine ag.mk zo zo ?_|(first|apply aM|apply ca|apply cE|apply cD)<;>(intro))
  rw[u4];(conv=>whnf);refine hS.ld 1 rfl (o:=0) rfl ?_;(conv=>whnf);refine hS.ld 0 rfl rfl ?_;rw[hA.off];cases j9:B.off
  ·rw[if_neg Bool.false_ne_true];(conv=>whnf);refine hS.ld 1 rfl (o:=0) rfl ?_;(conv=>whnf);refine hS.ld 0 rfl rfl ?_;rw[hA.data];(conv=>whnf);refine ag.mk zo zo ?_;rw[FQ];obtain⟨x,hx⟩:∃x,B.data[p+16]?=some x:=⟨_,List.getElem?_eq_getElem (by have:=hO.len;omega)⟩;have vj:mark B (p+16)=if x=0 then (true,B) else B.write (p+16) [0]:=by unfold mark;rw[hx]
   (conv=>whnf);refine wu underlying9 rfl hx ?_;(conv=>whnf);refine OJ ?_;(conv=>whnf);refine ca (fun h1=>?_) (fun h1=>?_)
   ·rw[if_neg (by rintro rfl;exact h1 rfl)]at vj;rw[vj];have jk:=hO.write [0] (p+16);have rP:=Ef (p:=p+16) (s:=[UInt8.ofNat 0]) hA (by have:=hO.len;simp;omega) zi;have ur:=hR.write (p+16) [UInt8.ofNat 0] (by simp;omega);(conv=>whnf);refine hS.dr [] ((· = b)) [0,1,2,3,4,5,6,7,8] fun w1 hS=>?_
    repeat' ((conv=>whnf);first|apply aI.mk|refine bO.mk zd ?_|refine ag.mk zo zo ?_|refine ao.mk zo zo ?_|refine hS.bU 1 rfl rfl lR ?_|(first|apply aM|apply ca|apply cE|apply cD)<;>(intro))
    refine(EE 0 zo _).mono ?_;rintro v w2 ⟨rfl,eH⟩;replace hS:=hS.no eH;refine ae.mk eH.aF ?_;(conv=>whnf);rw[FQ];refine(Er (p+16) [UInt8.ofNat 0] (by first|omega|(simp;omega)) hR.len hR.kJ ⟨by have:=hR.lo;omega,hR.hi⟩ (hS.blk 0 rfl)).mono ?_;rintro v w' ⟨rfl,aU,nP⟩;replace hS:=hS.uB 0 aU nP;refine ae.mk (eH.aF.trans aU) ?_;clear aU nP eH;generalize el.write R (p+16) [UInt8.ofNat 0]=Q at hS rP ur ⊢;obtain⟨Kt,R1⟩:=Q;rw[show([0]:List UInt8)=[UInt8.ofNat 0] from rfl]at jk ⊢;generalize aP.write B (p+16) [UInt8.ofNat 0]=Q at rP jk ⊢;obtain⟨ok1,B1⟩:=Q;obtain⟨qg,rP⟩:=rP;dsimp only at qg rP ur jk;subst qg;have ur:=ur.le (show k+[UInt8.ofNat 0].length≤k+1 by simp);cases Kt
    ·skip
     (conv=>whnf);refine hS.st 1 rfl zl rfl (fun w' hS=>?_);repeat' first|refine zP ?_|apply aR<;>intro
     exact⟨rfl,hS.ext,R1,rP,ur.le zo,hS.blk 0 rfl,hS.blk 1 rfl⟩
    ·rw[if_pos rfl];(conv=>whnf);refine hS.dr [] ((· = b)) [0,1,2,3,4,5,6,7,8,9,10] fun w1 hS=>?_
     repeat' first|refine zP ?_|refine hS.bU 1 rfl rfl lR ?_|apply aR<;>intro
     refine(Mb (C.num+1) e l zo zo zo _).mono ?_;rintro v w2 ⟨rfl,eH⟩;replace hS:=hS.no eH;refine ae.mk eH.aF ?_;(conv=>whnf);have jz:=Ef (p:=p) (s:=iu (C.num+1) e l) rP (by have:=jk.len;omega) (by intro h;rw[h]at gY;simp at gY);have fO:=ur.write p (iu (C.num+1) e l) zo;have dG:=gq.write (iu (C.num+1) e l) p jk;refine(Er p (iu (C.num+1) e l) (by first|omega|(simp;omega)) ur.len ur.kJ ⟨by have:=ur.lo;omega,ur.hi⟩ (hS.blk 0 rfl)).mono ?_;rintro v w' ⟨rfl,aU,nP⟩;replace hS:=hS.uB 0 aU nP;refine ae.mk (eH.aF.trans aU) ?_;clear aU nP eH;rw[gY]at fO;generalize el.write R1 p (iu (C.num+1) e l)=Q at hS jz fO ⊢;obtain⟨Ku,R2⟩:=Q;generalize aP.write B1 p (iu (C.num+1) e l)=Q at dG jz ⊢;obtain⟨XP,B2⟩:=Q;obtain⟨qg,jz⟩:=jz;dsimp only at qg jz fO dG;subst qg;cases Ku
     ·skip
      (conv=>whnf);refine hS.st 1 rfl zl rfl (fun w' hS=>?_);repeat' ((conv=>whnf);first|apply aI.mk|refine bO.mk zd ?_|refine ag.mk zo zo ?_|refine ao.mk zo zo ?_|(first|apply aM|apply ca|apply cE|apply cD)<;>(intro))
      exact⟨rfl,hS.ext,R2,jz,fO.le zo,hS.blk 0 rfl,hS.blk 1 rfl⟩
     ·rw[if_pos rfl];(conv=>whnf);refine hS.dr [] ((· = b)) [0,1,2,3,4,5,6,7,8] fun w1 hS=>?_
      repeat' ((conv=>whnf);first|apply aI.mk|refine bO.mk zd ?_|refine ag.mk zo zo ?_|refine ao.mk zo zo ?_|refine hS.bU 1 rfl rfl lR ?_|(first|apply aM|apply ca|apply cE|apply cD)<;>(intro))
      refine(EE 165 zo _).mono ?_;rintro v w2 ⟨rfl,eH⟩;replace hS:=hS.no eH;refine ae.mk eH.aF ?_;(conv=>whnf);rw[FQ];have pw:=Ef (p:=p+16) (s:=[UInt8.ofNat 165]) jz (by have:=dG.len;simp;omega) zi;have u7:=fO.write (p+16) [UInt8.ofNat 165] (by simp;omega);refine(Er (p+16) [UInt8.ofNat 165] (by first|omega|(simp;omega)) fO.len fO.kJ ⟨by have:=fO.lo;omega,fO.hi⟩ (hS.blk 0 rfl)).mono ?_;rintro v w' ⟨rfl,aU,nP⟩;replace hS:=hS.uB 0 aU nP;refine ae.mk (eH.aF.trans aU) ?_;clear aU nP eH;generalize el.write R2 (p+16) [UInt8.ofNat 165]=Q at hS pw u7 ⊢;obtain⟨Kv,R3⟩:=Q;rw[show([165]:List UInt8)=[UInt8.ofNat 165] from rfl];generalize aP.write B2 (p+16) [UInt8.ofNat 165]=Q at pw ⊢;obtain⟨XQ,B3⟩:=Q;obtain⟨qg,pw⟩:=pw;dsimp only at qg pw u7;subst qg;cases Kv
      ·skip
       (conv=>whnf);refine hS.st 1 rfl zl rfl (fun w' hS=>?_);repeat' ((conv=>whnf);first|apply aI.mk|refine bO.mk zd ?_|refine ag.mk zo zo ?_|refine ao.mk zo zo ?_|(first|apply aM|apply ca|apply cE|apply cD)<;>(intro))
       exact⟨rfl,hS.ext,R3,pw,u7.le (by first|omega|(simp;omega)|simp),hS.blk 0 rfl,hS.blk 1 rfl⟩
      ·(conv=>whnf)
       refine hS.st 1 rfl zl rfl (fun w' hS=>?_);(conv=>whnf);refine hS.st 1 rfl zl rfl (fun w' hS=>?_);(conv=>whnf);refine hS.st 1 rfl zl rfl (fun w' hS=>?_);repeat' ((conv=>whnf);first|apply aI.mk|refine bO.mk zd ?_|refine ag.mk zo zo ?_|refine ao.mk zo zo ?_|(first|apply aM|apply ca|apply cE|apply cD)<;>(intro))
       exact⟨rfl,hS.ext,R3,pw,u7.le (by first|omega|(simp;omega)|simp),hS.blk 0 rfl,(hS.blk 1 rfl).to (by rw[←hd];rfl)⟩
   ·rw[if_pos (by
     have h2:x.toNat=0:=by omega
     exact UInt8.toNat_inj.1 h2)]at vj
    rw[vj,if_pos rfl];(conv=>whnf);refine hS.dr [] ((· = b)) [0,1,2,3,4,5,6,7,8,9,10] fun w1 hS=>?_
    repeat' ((conv=>whnf);first|apply aI.mk|refine bO.mk zd ?_|refine ag.mk zo zo ?_|refine ao.mk zo zo ?_|refine hS.bU 1 rfl rfl lR ?_|(first|apply aM|apply ca|apply cE|apply cD)<;>(intro))
    refine(Mb (C.num+1) e l zo zo zo _).mono ?_;rintro v w2 ⟨rfl,eH⟩;replace hS:=hS.no eH;refine ae.mk eH.aF ?_;(conv=>whnf);have jz:=Ef (p:=p) (s:=iu (C.num+1) e l) hA (by have:=hO.len;omega) (by intro h;rw[h]at gY;simp at gY);have fO:=hR.write p (iu (C.num+1) e l) zo;have dG:=gq.write (iu (C.num+1) e l) p hO;refine(Er p (iu (C.num+1) e l) (by first|omega|(simp;omega)) hR.len hR.kJ ⟨by have:=hR.lo;omega,hR.hi⟩ (hS.blk 0 rfl)).mono ?_;rintro v w' ⟨rfl,aU,nP⟩;replace hS:=hS.uB 0 aU nP;refine ae.mk (eH.aF.trans aU) ?_;clear aU nP eH;rw[gY]at fO;generalize el.write R p (iu (C.num+1) e l)=Q at hS jz fO ⊢;obtain⟨Ku,R2⟩:=Q;generalize aP.write B p (iu (C.num+1) e l)=Q at dG jz ⊢;obtain⟨XP,B2⟩:=Q;obtain⟨qg,jz⟩:=jz;dsimp only at qg jz fO dG;subst qg;cases Ku
    ·skip
     (conv=>whnf);refine hS.st 1 rfl zl rfl (fun w' hS=>?_);repeat' ((conv=>whnf);first|apply aI.mk|refine bO.mk zd ?_|refine ag.mk zo zo ?_|refine ao.mk zo zo ?_|(first|apply aM|apply ca|apply cE|apply cD)<;>(intro))
     exact⟨rfl,hS.ext,R2,jz,fO.le zo,hS.blk 0 rfl,hS.blk 1 rfl⟩
    ·rw[if_pos rfl];(conv=>whnf);refine hS.dr [] ((· = b)) [0,1,2,3,4,5,6,7,8] fun w1 hS=>?_
     repeat' ((conv=>whnf);first|apply aI.mk|refine bO.mk zd ?_|refine ag.mk zo zo ?_|refine ao.mk zo zo ?_|refine hS.bU 1 rfl rfl lR ?_|(first|apply aM|apply ca|apply cE|apply cD)<;>(intro))
     refine(EE 165 zo _).mono ?_;rintro v w2 ⟨rfl,eH⟩;replace hS:=hS.no eH;refine ae.mk eH.aF ?_;(conv=>whnf);rw[FQ];have pw:=Ef (p:=p+16) (s:=[UInt8.ofNat 165]) jz (by have:=dG.len;simp;omega) zi;have u7:=fO.write (p+16) [UInt8.ofNat 165] (by simp;omega);refine(Er (p+16) [UInt8.ofNat 165] (by first|omega|(simp;omega)) fO.len fO.kJ ⟨by have:=fO.lo;omega,fO.hi⟩ (hS.blk 0 rfl)).mono ?_;rintro v w' ⟨rfl,aU,nP⟩;replace hS:=hS.uB 0 aU nP;refine ae.mk (eH.aF.trans aU) ?_;clear aU nP eH;generalize el.write R2 (p+16) [UInt8.ofNat 165]=Q at hS pw u7 ⊢;obtain⟨Kv,R3⟩:=Q;rw[show([165]:List UInt8)=[UInt8.ofNat 165] from rfl];generalize aP.write B2 (p+16) [UInt8.ofNat 165]=Q at pw ⊢;obtain⟨XQ,B3⟩:=Q;obtain⟨qg,pw⟩:=pw;dsimp only at qg pw u7;subst qg;cases Kv
     ·skip
      (conv=>whnf);refine hS.st 1 rfl zl rfl (fun w' hS=>?_);repeat' first|refine zP ?_|apply aR<;>intro
      exact⟨rfl,hS.ext,R3,pw,u7.le (by first|omega|(simp;omega)|simp),hS.blk 0 rfl,hS.blk 1 rfl⟩
     ·(conv=>whnf)
      refine hS.st 1 rfl zl rfl (fun w' hS=>?_);(conv=>whnf);refine hS.st 1 rfl zl rfl (fun w' hS=>?_);(conv=>whnf);refine hS.st 1 rfl zl rfl (fun w' hS=>?_);repeat' first|refine zP ?_|apply aR<;>intro
      exact⟨rfl,hS.ext,R3,pw,u7.le (by first|omega|(simp;omega)|simp),hS.blk 0 rfl,(hS.blk 1 rfl).to (by rw[←hd];rfl)⟩
  ·rw[if_pos rfl];(conv=>whnf);refine hS.st 1 rfl zl rfl (fun w' hS=>?_);repeat' first|refine zP ?_|apply aR<;>intro
   exact⟨rfl,hS.ext,R,hA,hR.le zo,hS.blk 0 rfl,hS.blk 1 rfl⟩
 ·rw[if_pos rfl];repeat' first|refine zP ?_|apply aR<;>intro
  exact⟨rfl,hS.ext,R,hA,hR.le zo,hS.blk 0 rfl,hS.blk 1 rfl⟩
end
structure cG where
 n:Nat
 r:Nat
 c:Nat
 t:Nat
 tg:Nat
 tc:Nat
 x:Nat
 xg:Nat
 xc:Nat
 m:Nat
 mg:Nat
 mc:Nat
 b:Nat
 ra:Option Addr
 rc:Nat
def zzr (A:cG)(N:NodeS):List Value:=[.int .i64 N.id,.int .i64 N.now,.pointer (some ⟨A.c,0,none⟩),.pointer (some ⟨A.r,0,none⟩),.pointer (some ⟨A.t,0,none⟩),.pointer (some ⟨A.x,0,none⟩),.pointer (some ⟨A.m,0,none⟩),.slice A.ra N.rules.length A.rc]
def dP (A:cG)(N:NodeS)(R:el):List bZ:=[blk A.n 144 (zzr A N),blk A.r 134 (k4 N.role),blk A.c 131 (mH A.b N.cell),eB A.t A.tg A.tc N.aL,i9 A.t A.x A.xg A.xc N.dN,nJ A.m A.mg A.mc N.fu,blk A.b 126 (kW R)]
section
variable {A:cG}{N:NodeS}{R:el}
theorem St.jA {w0:World}  {H:List bZ}(h:St w0 S w H)(i j:Nat){b c:Nat}{t:TypeId}{cs:List Value}{e:bZ}(hi:H[i]?=some (Ev.blk b t cs))(hj:H[j]?=some e)(cj:i≠j)(hc:c∈e.aW):b≠c:=fun hb=>h.bS i j hi hj cj b (List.mem_singleton.2 rfl) (hb ▸ hc)
theorem S0 (k:Int)(flags:Int)(out:Bool)(hN:Has w (dP A N R))(hO:eZ m N)(hm:m≤40000000)(hk:N.aL.aZ k=0) :
  aa prog 173 #[.pointer (some ⟨A.n,0,none⟩),.int .i64 k,.int .i64 flags,.bool out] w fun v w'=>v=.agg (dW (ik N.aL k)).toArray∧ak w w' (dP A N R) (dP A (N.pass k flags out) R):=by
 have ez:0≤k∧k<32:=by
  unfold aC.aZ at hk;split at hk
  ·omega
  ·omega
 obtain⟨c,hc⟩:∃c,N.aL.cells[k.toNat]?=some c:=⟨_,List.getElem?_eq_getElem (by rw[hO.aL.len];omega)⟩;have lS:c.f=ik N.aL k:=by unfold ik;rw[hc]
 refine zN func173 ntmps173 ?_;have hS:=hN.start;refine hS.new (fun b8 w' N0 hS=>?_);refine hS.lD 0 ?_;refine g9 (m6 (hS.get 3 rfl)) ?_;refine ao.mk zo zo ?_;(conv=>whnf);have rR:=sg (hS.get 3 rfl) hc;refine⟨dW c.f,rfl,by rw[Nat.zero_add];exact rR.sub 2 rfl,?_⟩;refine hS.new (fun b9 w' jl hS=>?_);refine hS.sT 8 fun w' hS=>?_
 repeat' first|refine zP ?_|refine hS.lD 0 ?_|refine hS.lD 1 ?_|refine hS.lD 2 ?_|refine hS.lD 3 ?_|refine hS.lD 4 ?_|refine hS.lD 5 ?_|refine hS.lD 6 ?_|refine hS.lD 7 ?_|refine hS.lD 8 ?_|refine hS.lX 0 ?_|refine hS.lX 1 ?_|refine hS.lX 2 ?_|refine hS.lX 3 ?_|refine hS.lX 4 ?_|refine hS.lX 5 ?_|refine hS.lX 6 ?_|refine hS.lX 7 ?_|refine hS.lX 8 ?_|(refine(zqW c.f.proto c.f.state flags out _).mono ?_;rintro v w3 ⟨rfl,rfl⟩)|apply aR<;>intro
 ·rename_i hg
  have lA:N.pass k flags out={ N with aL:=(N.aL.drop k).2 }:=by
   unfold NodeS.pass;rw[←lS,hg]
  rw[lA];refine(Sq k (hS.get 3 rfl) hO.aL zo).mono ?_;rintro v w' ⟨rfl,hx,hT⟩;replace hS:=hS.upd 3 rfl hx (fun d hd=>by subst hd;simp[eB]) vM hT (fun d hd=>.inl hd);refine hS.lX 8 ?_;refine hS.sT 7 fun w' hS=>?_
  refine hS.lX 7 ?_;refine zE ?_;exact⟨by rw[←lS];rfl,(hS.keep 7).turns⟩
 ·rename_i hg
  have tO:N.pass k flags out={ N with aL:=(N.aL.iJ k (oK c.f.proto c.f.state flags out).1 (N.now+lW c.f.proto (oK c.f.proto c.f.state flags out).1)).2 }:=by
   unfold NodeS.pass;rw[←lS,hg]
  rw[tO];have kZ:=St.jA hS 0 3 rfl rfl zd (c:=A.tg) (by simp[eB]);have nv:=St.jA hS 8 3 rfl rfl zd (c:=A.tg) (by simp[eB]);have uA:=Bz c.f.proto (oK c.f.proto c.f.state flags out).1;have jq:=hO.n0;have Dh:=hO.n1;refine hS.dr [] (fun b=>b=A.tg) [0,1,2,3,4,5,6,7,8,9,10,11,12,13,14,15] fun w1 hS=>?_
  have hK:=hS.ref (fun b=>b=A.tg);repeat' ((conv=>whnf);first|refine hS.bU 0 rfl rfl kZ ?_|refine hS.bU 8 rfl rfl nv ?_)
  refine(LD _ _ _).mono ?_;rintro v w3 ⟨rfl,rfl⟩;refine ae.mk hK ?_;repeat' ((conv=>whnf);first|apply aI.mk|refine bO.mk zd ?_|refine ag.mk zo zo ?_|refine ao.mk zo zo ?_|(first|apply aM|apply ca|apply cE|apply cD)<;>(intro))
  refine(zwP k _ _ (hS.get 3 rfl) hO.aL zo).mono ?_;rintro v w' ⟨rfl,hx,hT⟩;refine ae.mk (hK.trans hx) ?_;replace hS:=hS.upd 3 rfl hx (fun d hd=>by subst hd;simp[eB]) vM hT (fun d hd=>.inl hd);refine hS.lX 8 ?_;refine hS.sT 7 fun w' hS=>?_
  refine hS.lX 7 ?_;refine zE ?_;exact⟨by rw[←lS];rfl,(hS.keep 7).turns⟩
theorem zpi {G:RuleS→Prop}(p:cC)(hN:Has w (dP A N R))(hO:eZ m N)(hm:m+1≤40000000)(hr:bQ w 5 eW G A.ra N.rules.length N.rules)(eF:0<N.rules.length→∀b0 o0,A.ra=some ⟨b0,o0,none⟩→¬cp (dP A N R) b0) :
  aa prog 114 #[.pointer (some ⟨A.n,0,none⟩),.agg (iN p).toArray] w fun v w'=>v=.tuple #[.agg (iN (N.inside p).2.1).toArray,.int .i64 ((N.inside p).1:Nat)]∧ak w w' (dP A N R) (dP A (N.inside p).2.2 R):=by
 have y8:0≤N.aL.au∧N.aL.au≤100000:=by
  have:=hO.uE;have:=hO.id;omega
 have jq:=hO.n0;have Dh:=hO.n1;refine zN func114 ntmps114 ?_;have hS:=hN.start;refine hS.new (fun bp w' qe hS=>?_);refine hS.new (fun br w' lr hS=>?_);refine hS.lX 7 ?_;refine(Rw p _).mono ?_;rintro v w2 ⟨rfl,hx⟩;replace hS:=hS.no hx;by_cases hp:p.err=0
 case neg =>
  rw[show N.inside p=(p.err,i7,N) from if_pos hp];refine aM (fun _=>?_) (fun h=>absurd (show(p.err:Int)>0 by omega) h);repeat' first|refine zP ?_|refine hS.sT 8 fun w' hS=>?_|refine hS.lX 8 ?_|apply aR<;>intro
  exact⟨rfl,(hS.keep 7).turns⟩
 rw[hp];refine hS.lD 0 ?_;refine hS.ld 1 rfl (v:=.bool N.role.aE) rfl ?_;cases ha:N.role.aE
 ·rw[show N.inside p=(9,i7,N) by unfold NodeS.inside;rw[if_neg (fun h=>h hp),if_pos ha]];repeat' first|refine zP ?_|refine hS.sT 8 fun w' hS=>?_|refine hS.lX 8 ?_
  exact⟨rfl,(hS.keep 7).turns⟩
 conv=>whnf
 refine hS.dr [] No [0,1,2,3,4,5,6,7,8,9,10,11] fun w1 hS=>?_
 repeat' ((conv=>whnf);first|refine hS.fK 7 rfl rfl id ?_|refine hS.bU 7 rfl rfl id ?_|refine hS.bU 0 rfl rfl id ?_)
 refine(Me _ _ _ _ _ (hS.get 3 rfl)).mono ?_;rintro v w4 ⟨rfl,hx⟩;replace hS:=hS.no hx;refine ae.mk hx ?_;refine hS.new (fun bf w' rQ hS=>?_);replace hS:St w (cp (dP A N R)) w' (dP A N R++[blk bp 149 (iN p),blk br 149 (iN i7),blk bf 216 (dW fN)]):=hS;(conv=>whnf);refine aM (fun hf=>?_) (fun hf=>?_)
 ·rw[show N.inside p=(0,⟨p.proto,1,(ik N.aL (N.aL.find p.proto p.sa p.sp p.da p.dp)).port,p.da,p.dp,p.flags⟩,N.pass (N.aL.find p.proto p.sa p.sp p.da p.dp) p.flags true) by
   unfold NodeS.inside;rw[if_neg (fun h=>h hp),if_neg (by rw[ha];decide),if_pos hf]]
  have lz:=(Gd hO.aL.len (pY p.proto p.sa p.sp p.da p.dp) hf).1;(conv=>whnf);refine hS.ld 7 rfl rfl ?_;(conv=>whnf);refine(S0 _ p.flags true hS.has.left hO zo lz).mono ?_;rintro v w5 ⟨rfl,ht⟩;replace hS:=St.call hS ht;refine hS.sT 9 fun w' hS=>?_
  refine hS.lD 9 ?_;refine hS.sT 7 fun w' hS=>?_
  refine hS.lX 7 ?_;refine hS.sT 8 fun w' hS=>?_
  refine hS.lX 8 ?_;refine zE ?_;exact⟨rfl,(hS.keep 7).turns⟩
 have hI:N.inside p=if (N.begin p).1.2≠0 then ((N.begin p).1.2,i7,(N.begin p).2) else (0,⟨p.proto,1,(ik (N.begin p).2.aL (N.begin p).1.1).port,p.da,p.dp,p.flags⟩,(N.begin p).2):=by
  unfold NodeS.inside;rw[if_neg (fun h=>h hp),if_neg (by rw[ha];decide),if_neg hf]
 rw[hI];(conv=>whnf);refine hS.dr [] No [0,1,2,3,4,5,6,7,8,9,10] fun w1 hS=>?_
 repeat' ((conv=>whnf);first|refine hS.fK 7 rfl rfl id ?_|refine hS.bU 7 rfl rfl id ?_|refine hS.bU 0 rfl rfl id ?_)
 refine(ZM (hr.qP hS.ext eF) p.proto p.dp true).mono ?_;rintro v w5 ⟨rfl,hx⟩;replace hS:=hS.no hx;refine ae.mk hx ?_;cases hA:ml p.proto p.dp true N.rules
 ·rw[show N.begin p=((0,8),N) from if_pos hA];repeat' first|refine zP ?_|refine hS.sT 8 fun w' hS=>?_|refine hS.lX 8 ?_|apply aR<;>intro
  exact⟨rfl,(hS.keep 7).turns⟩
 have dG:=hO.begin p;have ez:=SR hO p;have hb:N.begin p=_:=if_neg (by rw[hA];decide);rw[hb]at dG ez ⊢;refine hS.lD 7 ?_;refine hS.lD 7 ?_;refine(zox _ _ _).mono ?_;rintro v w6 ⟨rfl,rfl⟩;generalize o9 p.proto p.flags=r at dG ez ⊢;obtain⟨s,kk⟩:=r;by_cases oS:kk=0
 case neg =>
  rw[if_pos (show((s,kk):Int × Nat).2≠0 from oS),if_pos (show(((0,((s,kk):Int × Nat).2),N):(Int × Nat) × NodeS).1.2≠0 from oS)];refine aM (fun _=>?_) (fun h=>absurd (show(kk:Int)>0 by omega) h);repeat' first|refine zP ?_|refine hS.sT 8 fun w' hS=>?_|refine hS.lX 8 ?_|apply aR<;>intro
  exact⟨rfl,(hS.keep 7).turns⟩
 subst oS;rw[if_neg (show ¬((s,0):Int × Nat).2≠0 by simp)]at dG ez ⊢;dsimp only at dG ez ⊢;have uA:=Bz p.proto s;have kZ:=St.jA hS 0 3 rfl rfl zd (c:=A.tg) (by simp[eB]);have nv:=St.jA hS 7 3 rfl rfl zd (c:=A.tg) (by simp[eB]);(conv=>whnf);refine hS.dr [] (fun b=>b=A.tg) [0,1,2,3,4,5,6,7,8,9,10,11,12,13,14,15,16,17,18,19,20,21,22,23,24,25] fun w1 hS=>?_
 have hK:=hS.ref (fun b=>b=A.tg);repeat' ((conv=>whnf);first|refine hS.fK 7 rfl rfl nv ?_|refine hS.bU 7 rfl rfl nv ?_|refine hS.bU 0 rfl rfl kZ ?_)
 refine(LD _ _ _).mono ?_;rintro v w3 ⟨rfl,rfl⟩;refine ae.mk hK ?_;repeat' ((conv=>whnf);first|apply aI.mk|refine bO.mk zd ?_|refine ag.mk zo zo ?_|refine ao.mk zo zo ?_|(first|apply aM|apply ca|apply cE|apply cD)<;>(intro))
 refine(zwG _ _ _ _ _ _ _ (hS.get 3 rfl) hO.aL zo y8).mono ?_;rintro v w' ⟨rfl,hx,hT⟩;refine ae.mk (hK.trans hx) ?_;replace hS:=hS.upd 3 rfl hx (fun d hd=>by subst hd;simp[eB]) vM hT (fun d hd=>.inl hd);generalize N.aL.add p.proto p.sa p.sp p.da p.dp s (N.now+lW p.proto s)=r at hS dG ez ⊢;obtain⟨⟨k,kk⟩,T2⟩:=r;by_cases oS:kk=0
 case neg =>
  rw[if_pos oS];refine aM (fun _=>?_) (fun h=>absurd (show(kk:Int)>0 by omega) h);repeat' first|refine zP ?_|refine hS.sT 8 fun w' hS=>?_|refine hS.lX 8 ?_|apply aR<;>intro
  exact⟨rfl,(hS.keep 7).turns⟩
 subst oS;obtain⟨h0,h1⟩:=ez rfl;dsimp only at hS dG h0 h1;obtain⟨c,hc,lS⟩:=RM dG k h0 h1;rw[if_neg zi];dsimp only at hc lS ⊢;rw[←lS];refine hS.lD 0 ?_;refine g9 (m6 (hS.get 3 rfl)) ?_;refine ao.mk zo zo ?_;(conv=>whnf);have rR:=sg (hS.get 3 rfl) hc;refine⟨dW c.f,rfl,by rw[Nat.zero_add];exact rR.sub 2 rfl,?_⟩;refine hS.sT 9 fun w' hS=>?_
 refine hS.lD 9 ?_;refine hS.sT 7 fun w' hS=>?_
 refine hS.lX 7 ?_;refine hS.sT 8 fun w' hS=>?_
 refine hS.lX 8 ?_;repeat' first|refine zP ?_|apply aR<;>intro
 exact⟨rfl,(hS.keep 7).turns⟩
theorem Zv (p:cC)(hN:Has w (dP A N R))(hO:eZ m N)(hm:m+1≤40000000) :
  aa prog 115 #[.pointer (some ⟨A.n,0,none⟩),.agg (iN p).toArray] w fun v w'=>v=.tuple #[.agg (iN (N.outside p).2.1).toArray,.int .i64 ((N.outside p).1:Nat)]∧ak w w' (dP A N R) (dP A (N.outside p).2.2 R):=by
 refine zN func115 ntmps115 ?_;have hS:=hN.start;refine hS.new (fun bp w' qe hS=>?_);refine hS.new (fun br w' lr hS=>?_);replace hS:St w (cp (dP A N R)) w' (dP A N R++[blk bp 149 (iN p),blk br 149 (iN i7)]):=hS;refine hS.lX 7 ?_;refine(Rw p _).mono ?_;rintro v w2 ⟨rfl,hx⟩;replace hS:=hS.no hx;by_cases hp:p.err=0
 case neg =>
  rw[show N.outside p=(p.err,i7,N) from if_pos hp];refine aM (fun _=>?_) (fun h=>absurd (show(p.err:Int)>0 by omega) h);repeat' first|refine zP ?_|refine hS.sT 8 fun w' hS=>?_|refine hS.lX 8 ?_
  exact⟨rfl,(hS.keep 7).turns⟩
 rw[hp];refine hS.lD 0 ?_;refine hS.ld 1 rfl (v:=.bool N.role.aE) rfl ?_;cases ha:N.role.aE
 ·rw[show N.outside p=(9,i7,N) by unfold NodeS.outside;rw[if_neg (fun h=>h hp),if_pos ha]];repeat' first|refine zP ?_|refine hS.sT 8 fun w' hS=>?_|refine hS.lX 8 ?_
  exact⟨rfl,(hS.keep 7).turns⟩
 refine hS.ld 7 rfl rfl ?_;(conv=>whnf);refine ca (fun hd=>?_) (fun hd=>?_)
 ·rw[show N.outside p=(3,i7,N) by unfold NodeS.outside;rw[if_neg (fun h=>h hp),if_neg (by rw[ha];decide),if_pos hd]];repeat' ((conv=>whnf);first|apply aI.mk|refine bO.mk zd ?_|refine ag.mk zo zo ?_|refine ao.mk zo zo ?_|refine hS.st 8 rfl zl rfl (fun w' hS=>?_)|refine hS.mF 8 rfl rfl ?_|(first|apply aM|apply ca|apply cE|apply cD)<;>(intro))
  exact⟨rfl,(hS.keep 7).turns⟩
 conv=>whnf
 (refine ir aj mixed [] No [0,1,2,3,4,5,6,7,8,9,10,11,12] zk ?_;rintro w1 rfl;replace hS:=hS.drew)
 repeat' ((conv=>whnf);first|refine hS.fK 7 rfl rfl id ?_|refine hS.bU 7 rfl rfl id ?_|refine hS.bU 0 rfl rfl id ?_)
 refine(L9 _ _ _ _ (hS.get 3 rfl)).mono ?_;rintro v w4 ⟨rfl,hx⟩;replace hS:=hS.no hx;refine ae.mk hx ?_;(conv=>whnf);refine aM (fun hf=>?_) (fun hf=>?_)
 ·rw[show N.outside p=(4,i7,N) by unfold NodeS.outside;rw[if_neg (fun h=>h hp),if_neg (by rw[ha];decide),if_neg (fun h=>h hd),if_pos hf]];repeat' ((conv=>whnf);first|apply aI.mk|refine bO.mk zd ?_|refine ag.mk zo zo ?_|refine ao.mk zo zo ?_|refine hS.st 8 rfl zl rfl (fun w' hS=>?_)|refine hS.mF 8 rfl rfl ?_|(first|apply aM|apply ca|apply cE|apply cD)<;>(intro))
  exact⟨rfl,(hS.keep 7).turns⟩
 rw[show N.outside p=(0,⟨p.proto,p.sa,p.sp,(ik N.aL (N.aL.back p.proto p.dp p.sa p.sp)).ia,(ik N.aL (N.aL.back p.proto p.dp p.sa p.sp)).ip,p.flags⟩,N.pass (N.aL.back p.proto p.dp p.sa p.sp) p.flags false) by
  unfold NodeS.outside;rw[if_neg (fun h=>h hp),if_neg (by rw[ha];decide),if_neg (fun h=>h hd),if_neg hf]]
 have lz:=(Gd hO.aL.len (pX p.proto p.dp p.sa p.sp) (Int.not_lt.1 hf)).1;(conv=>whnf);refine hS.ld 7 rfl rfl ?_;(conv=>whnf);refine(S0 _ p.flags false hS.has.left hO zo lz).mono ?_;rintro v w5 ⟨rfl,ht⟩;replace hS:=St.call hS ht;refine hS.sT 7 fun w' hS=>?_
 refine hS.lX 7 ?_;refine hS.sT 8 fun w' hS=>?_
 refine hS.lX 8 ?_;refine zE ?_;exact⟨rfl,(hS.keep 7).turns⟩
end
section
variable {r:bN}
theorem ztA (hb:bC w b 134 (k4 r))(hr:r.Ok):aa prog 164 #[.pointer (some ⟨b,0,none⟩)] w fun v w'=>v=.bool r.tick.1∧Ext (· = b) w w'∧bC w' b 134 (k4 r.tick.2):=by
 have h1:=hr.s1;have h0:=hr.s0;refine zN func164 ntmps164 ?_;have hS:=(St.start w (· = b)).add (eh b _ _) hb (by simp[blk];exact hb.lt) zi;refine hS.lD 0 ?_;apply aR<;>intro ha
 ·repeat' first|refine zP ?_|apply aR<;>intro
  have e:r.tick=(false,r):=by simp[bN.tick,ha]
  rw[e];exact⟨rfl,hS.ext,hS.blk 0 rfl⟩
 ·repeat' ((conv=>whnf);first|apply aI.mk|refine bO.mk zd ?_|refine ag.mk zo zo ?_|refine ao.mk zo zo ?_|refine hS.ld 0 rfl rfl ?_|refine hS.st 0 rfl zl rfl (fun w' hS=>?_)|(first|apply aM|apply ca|apply cE|apply cD)<;>(intro))
  have e:r.tick=(decide (r.cd+1>9),{ r with cd:=r.cd+1 }):=by simp[bN.tick,ha]
  rw[e];exact⟨rfl,hS.ext,hS.blk 0 rfl⟩
theorem Ss (hb:bC w b 134 (k4 r))(hr:r.Ok):aa prog 165 #[.pointer (some ⟨b,0,none⟩)] w fun v w'=>v=.tuple #[.int .i64 r.next.1,.int .i64 r.next.2]∧w=w':=by
 have h1:=hr.e1;have h0:=hr.e0;have hn:=hr.n0;have e0:w.cell? ⟨b,0+0,none⟩=some (.int .i64 r.node):=hb.cell _;have e1:w.cell? ⟨b,0+1,none⟩=some (.int .i64 r.ah):=hb.cell _;refine zN func165 ntmps165 ?_;refine⟨_,e1,?_⟩;refine ag.mk zo zo ?_
 refine d5 aj (fun σ w' n=>∃e,σ=[(4,.int .i64 e),(0,.pointer (some ⟨b,0,none⟩))]∧w=w'∧((e=r.ah+1∧n=1)∨(e=r.ah+1+1∧n=0∧(r.ah+1).tmod 2≠r.node)))
  (σ':=[(4,.int .i64 (r.ah+1)),(0,.pointer (some ⟨b,0,none⟩))]) (n:=1) zs ⟨_,rfl,rfl,.inl ⟨rfl,rfl⟩⟩ ?_
 rintro _ w1 n ⟨e,rfl,rfl,he⟩;refine bO.mk zd ?_;refine⟨_,e0,?_⟩;refine ca (fun h3=>?_) (fun h3=>?_)
 ·rcases he with⟨rfl,rfl⟩|⟨rfl,rfl,h4⟩
  ·(conv=>whnf)
   refine ag.mk zo zo ?_;(conv=>whnf);exact aD.mk ⟨_,[(4,.int .i64 _),(0,_)],Nat.zero_lt_one,zs,⟨_,rfl,rfl,.inr ⟨rfl,rfl,h3⟩⟩⟩
  ·exfalso;rw[zzP zo]at h3 h4;omega
 ·have j8:r.next=if e>1073741824 then (0,2) else (e,0):=by
   unfold bN.next;dsimp only;rcases he with⟨rfl,rfl⟩|⟨rfl,rfl,h4⟩
   ·have e2:(if (r.ah+1).tmod 2≠r.node then r.ah+1+1 else r.ah+1)=r.ah+1:=if_neg (fun h=>h h3);rw[e2]
   ·have e2:(if (r.ah+1).tmod 2≠r.node then r.ah+1+1 else r.ah+1)=r.ah+1+1:=if_pos h4;rw[e2]
  rw[j8];apply aR<;>intro h5
  ·refine zE ?_;rw[if_pos h5];exact⟨rfl,rfl⟩
  ·refine zE ?_;rw[if_neg h5];exact⟨rfl,rfl⟩
theorem zrw (e:Int)(hb:bC w b 134 (k4 r))(hr:r.Ok) :
  aa prog 166 #[.pointer (some ⟨b,0,none⟩),.int .i64 e] w fun v w'=>v=.int .i64 (r.claim e).1∧Ext (· = b) w w'∧bC w' b 134 (k4 (r.claim e).2):=by
 refine zN func166 ntmps166 ?_;have hS:=St.sb hb;refine hS.lD 0 ?_;apply aR<;>intro ha
 ·refine zE ?_;rw[show r.claim e=(11,r) by simp[bN.claim,ha]];exact⟨rfl,hS.ext,hS.blk 0 rfl⟩
 ·refine(Ss hb hr).mono ?_;rintro v w' ⟨rfl,rfl⟩;repeat' first|refine zP ?_|refine hS.lD 0 ?_|refine hS.sT 0 fun w' hS=>?_|apply aR<;>intro
  all_goals have hB:=hS.blk 0 rfl
  all_goals refine⟨?_,hS.ext,hB.to ?_⟩
  all_goals clear hB hS hb
  all_goals unfold bN.claim;(try dsimp only[k4])
  all_goals ((repeat' split)<;>first|rfl|(exfalso;omega)|(simp_all[over,cM];done)|(simp_all[over,cM];omega)|trace_state)
end
def AO (a:Option Addr)(c:Nat)(x:Option Addr)(y:Nat)(l:List bE):List bZ:=[az 222 5 bA (.slice a (l.map (fV x y)).length c) (l.map (fV x y)),az 218 10 bV (.slice x (kE l).length y) (kE l)]
section
variable {A:cG}{N:NodeS}{R:el}{B:aP}
theorem ztH {j:Nat}(hN:Has w (dP A N R))(hO:eZ m N)(hB:gq B)(hA:Alike R B)(hR:mN R j)(hj:j≤50000000)(hm:m+34≤40000000) :
  aa prog 112 #[.pointer (some ⟨A.n,0,none⟩)] w fun v w'=>∃a c x y R',v=.tuple #[.slice a ((N.tick B).2.1.map (fV x y)).length c,.int .i64 ((N.tick B).1:Nat)]∧Alike R' (N.tick B).2.2.2∧mN R' (j+18)∧ak w w' (dP A N R) (dP A (N.tick B).2.2.1 R'++AO a c x y (N.tick B).2.1):=by
 have jq:=hO.n0;have fO:mN R (j+18):=⟨hR.len,hR.kJ,by have:=hR.lo;omega,hR.hi⟩;have jz:=hA;refine zN func112 ntmps112 ?_;have hS:=hN.start;refine hS.lD 0 ?_;apply aR<;>intro hn
 ·rw[show N.tick B=(2,[],N,B) from if_pos hn];refine zE ?_;exact⟨none,0,none,0,R,rfl,jz,fO,St.turns ((hS.bJ 222 5 bA).bJ 218 10 bV)⟩
 refine hS.lD 0 ?_;refine ag.mk zo zo ?_;refine hS.sT 0 fun w' hS=>?_
 have xe:=St.jA hS 0 3 rfl rfl zd (c:=A.t) (by simp[eB]);have nw:=St.jA hS 0 3 rfl rfl zd (c:=A.tg) (by simp[eB]);(conv=>whnf);refine hS.dr [] (fun b=>b=A.t∨b=A.tg) [0,1,2,3,4,5,6,7,8] fun w1 hS=>?_
 repeat' ((conv=>whnf);first|refine hS.bU 0 rfl rfl (fun h=>h.elim xe nw) ?_)
 refine(zpg (N.now+1) (hS.get 3 rfl) hO.aL zo).mono ?_;rintro v w' ⟨⟨a',c',rfl⟩,hx,hT,_,_⟩;refine ae.mk hx ?_;replace hS:=hS.upd 3 rfl hx (fun d hd=>by simpa[eB]using hd) vM hT (fun d hd=>.inl hd);refine hS.lD 0 ?_;refine(ztA (hS.blk 1 rfl) hO.role).mono ?_;rintro v w' ⟨rfl,hx,gK⟩;replace hS:=hS.uB 1 hx gK;replace hS:St w (cp (dP A N R)) w' (dP A N.step.2 R):=hS;have jk:=hO.step zo zo;cases hs:N.role.tick.1
 ·have dG:=jk
  rw[show N.tick B=(0,(N.step.2.notes false).1,(N.step.2.notes false).2,B) by
   unfold NodeS.tick;rw[if_neg hn,if_neg (by rw[show N.step.1=N.role.tick.1 from rfl,hs];decide)]]
  generalize N.step.2=N2 at hS dG ⊢;(conv=>whnf);refine hS.ld 0 rfl rfl ?_;(conv=>whnf);refine hS.ld 1 rfl (v:=.bool (N2).role.aE) rfl ?_;replace hS:=hS.bJ 222 5 bA;cases iD:(N2).role.aE
  ·have gE:(N2).cS=false:=by
    unfold NodeS.cS;rw[iD];rfl
   refine zE ?_;rw[r6 gE];exact⟨none,0,none,0,(R),rfl,jz,fO,St.turns (hS.bJ 218 10 bV)⟩
  ·skip
   refine hS.lD 0 ?_;refine bO.mk zd ?_;refine aM (fun hz=>?_) (fun hz=>?_)
   ·have gE:(N2).cS=true:=by
     unfold NodeS.cS;rw[iD,decide_eq_true hz];rfl
    conv=>whnf
    (refine ir aj mixed [] No [0,1,2,3,4,5,6,7,8,9,10,11,12,13,14,15,16,17,18,19,20,21,22] zk ?_;rintro w1 rfl;replace hS:=hS.drew)
    have hK:=hS.ref No;repeat' ((conv=>whnf);first|refine hS.bU 0 rfl rfl id ?_|refine hS.bU 2 rfl rfl id ?_|refine hS.bU 1 rfl rfl id ?_)
    refine hS.fz underlying49 (sz:=5) zk (z:=.agg (bA fw).toArray) zk rfl rfl (cs:=bA ⟨(N2).id,(N2).cell.li,(N2).role.ah,true,none,0,0⟩) (by rfl) (fun b9 w3 jl hx hS=>?_);replace hK:=hK.trans hx;refine ae.mk hK ?_;(conv=>whnf);refine hS.fR dA 7 (ys:=[⟨(N2).id,(N2).cell.li,(N2).role.ah,true,none,0,0⟩]) (G:=fun _=>True) underlying49 (bytes:=56) zk (z:=.agg (bA fw).toArray) zk rfl rfl (bQ.bG dA (hS.blk 8 rfl) rfl zi (fun _ _=>trivial) rfl) (by unfold maxLen;decide) zd (fun a1 c1 w4 hx hS=>?_);replace hK:=hK.trans (hx.mono fun q h=>by simp[Value.ownBlock]at h);refine ae.mk hK ?_;clear hx hK;replace hS:=hS.keep 8;replace hS:St w (cp (dP A N R)) w4 (dP A (N2) (R)++[az 222 5 bA (.slice a1 1 c1) [⟨(N2).id,(N2).cell.li,(N2).role.ah,true,none,0,0⟩]]):=hS;(conv=>whnf);refine aM (fun _=>?_) (fun h=>absurd hz h);(conv=>whnf);have nw:=St.jA hS 0 4 rfl rfl zd (c:=A.x) (by simp[i9]);have vk:=St.jA hS 0 4 rfl rfl zd (c:=A.xg) (by simp[i9]);have nV:¬(Value.slice a1 1 c1).ownBlock=some A.n:=fun h=>hS.bS 0 7 rfl rfl zd _ (List.mem_singleton.2 rfl) (by simp only[az,own];rw[h];simp)
    have CJ:=St.jA hS 2 4 rfl rfl zd (c:=A.x) (by simp[i9]);have wS:=St.jA hS 2 4 rfl rfl zd (c:=A.xg) (by simp[i9]);have CK:¬(Value.slice a1 1 c1).ownBlock=some A.c:=fun h=>hS.bS 2 7 rfl rfl zd _ (List.mem_singleton.2 rfl) (by simp only[az,own];rw[h];simp)
    have Dq:=St.jA hS 1 4 rfl rfl zd (c:=A.x) (by simp[i9]);have Dr:=St.jA hS 1 4 rfl rfl zd (c:=A.xg) (by simp[i9]);have Ds:¬(Value.slice a1 1 c1).ownBlock=some A.r:=fun h=>hS.bS 1 7 rfl rfl zd _ (List.mem_singleton.2 rfl) (by simp only[az,own];rw[h];simp)
    have jY:∀b∈[A.t,A.tg],¬(b=A.x∨b=A.xg):=fun b hb hx=>hS.bS 3 4 rfl rfl zd b (by simpa[eB]using hb) (by simpa[i9]using hx)
    (refine ir aj mixed [] (fun b=>b=A.x∨b=A.xg∨(Value.slice a1 1 c1).ownBlock=some b) [0,1,2,3,4,5,6,7,8,9,10,11,12,13,14,15,16,17,18,19,20,21,22,23,24,25,26,27] zk ?_;rintro w1 rfl;replace hS:=hS.drew)
    have hK:=hS.ref (fun b=>b=A.x∨b=A.xg∨(Value.slice a1 1 c1).ownBlock=some b);repeat' ((conv=>whnf);first|refine hS.bU 0 rfl rfl (fun h=>h.elim nw fun h=>h.elim vk nV) ?_|refine hS.bU 2 rfl rfl (fun h=>h.elim CJ fun h=>h.elim wS CK) ?_|refine hS.bU 1 rfl rfl (fun h=>h.elim Dq fun h=>h.elim Dr Ds) ?_)
    refine(Lf (hS.get 3 rfl) (hS.get 4 rfl) jY dG.aL dG.told dG.cur).mono ?_;rintro v w' ⟨⟨x,y,rfl⟩,hx,hB,ho,hf⟩;replace hS:=hS.iS 4 rfl hx (fun c hc=>by simpa[i9]using hc) GN hB (fun c hc=>hc) fq ho (fun g hg=>hf g (by simpa[az,own]using hg));replace hK:=hK.trans (hx.mono fun b h=>h.elim .inl fun h=>.inr (.inl h));refine ae.mk hK ?_;refine hS.fz underlying49 (sz:=5) zk (z:=.agg (bA fw).toArray) zk rfl rfl (cs:=bA ⟨(N2).id,(N2).cell.li,(N2).role.ah,false,x,((N2).dN.aY (N2).aL.cells).length,y⟩) (by rfl) (fun b9 w3 jl hx hS=>?_);replace hK:=hK.trans hx.aF;refine ae.mk hK ?_;refine hS.fR dA 7 (ys:=[⟨(N2).id,(N2).cell.li,(N2).role.ah,false,x,((N2).dN.aY (N2).aL.cells).length,y⟩]) (G:=fun _=>True) underlying49 (bytes:=56) zk (z:=.agg (bA fw).toArray) zk rfl rfl (bQ.bG dA (hS.blk 9 rfl) rfl zi (fun _ _=>trivial) rfl) (by unfold maxLen;show 1+1≤_;decide) (by show(1+1)*56≤_;decide) (fun a2 c2 w4 hx hS=>?_);replace hK:=hK.trans (hx.mono fun q h=>.inr (.inr h));refine ae.mk hK ?_;clear hx hK;replace hS:=hS.keep 9;repeat' ((conv=>whnf);first|apply aI.mk|refine bO.mk zd ?_|refine ag.mk zo zo ?_|refine ao.mk zo zo ?_|(first|apply aM|apply ca|apply cE|apply cD)<;>(intro))
    rw[uM gE]
    replace hS:St w (cp (dP A N R)) w4 (dP A { (N2) with dN:=(N2).dN.next (N2).aL.cells } (R)++AO a2 c2 x y [⟨(N2).id,(N2).cell.li,(N2).role.ah,true,[]⟩,⟨(N2).id,(N2).cell.li,(N2).role.ah,false,fx (N2).aL.cells ((N2).dN.aY (N2).aL.cells)⟩]):=by
     have hc:kE [⟨(N2).id,(N2).cell.li,(N2).role.ah,true,[]⟩,⟨(N2).id,(N2).cell.li,(N2).role.ah,false,fx (N2).aL.cells ((N2).dN.aY (N2).aL.cells)⟩]=fx (N2).aL.cells ((N2).dN.aY (N2).aL.cells):=by simp[kE]
     have hv:[(⟨(N2).id,(N2).cell.li,(N2).role.ah,true,[]⟩:bE),⟨(N2).id,(N2).cell.li,(N2).role.ah,false,fx (N2).aL.cells ((N2).dN.aY (N2).aL.cells)⟩].map (fV x y)=[⟨(N2).id,(N2).cell.li,(N2).role.ah,true,none,0,0⟩,⟨(N2).id,(N2).cell.li,(N2).role.ah,false,x,((N2).dN.aY (N2).aL.cells).length,y⟩]:=by simp[fV,kp]
     unfold AO;rw[hc,hv,kp];exact hS
    exact⟨a2,c2,x,y,(R),rfl,jz,fO,St.turns hS⟩
   ·have gE:(N2).cS=false:=by
     unfold NodeS.cS;rw[decide_eq_false hz,Bool.and_false]
    (conv=>whnf);refine aM (fun h=>absurd h hz) (fun _=>?_);repeat' ((conv=>whnf);first|apply aI.mk|refine bO.mk zd ?_|refine ag.mk zo zo ?_|refine ao.mk zo zo ?_|(first|apply aM|apply ca|apply cE|apply cD)<;>(intro))
    rw[r6 gE];exact⟨none,0,none,0,(R),rfl,jz,fO,St.turns (hS.bJ 218 10 bV)⟩
 have eE:N.step.1=true:=hs;have ha:=Gu eE
 rw[show N.tick B=if (N.step.2.claim B).1.2≠0 then ((N.step.2.claim B).1.2,[],(N.step.2.claim B).2.1,(N.step.2.claim B).2.2) else (0,((N.step.2.claim B).2.1.notes (N.step.2.claim B).1.1).1,((N.step.2.claim B).2.1.notes (N.step.2.claim B).1.1).2,(N.step.2.claim B).2.2) by
  unfold NodeS.tick;rw[if_neg hn,if_pos eE]]
 have dG:=jk.claim ha B;generalize VW:N.step.2=NS at hS jk dG ha ⊢;clear VW eE hs hn xe nw;(conv=>whnf);refine hS.ld 0 rfl rfl ?_;(conv=>whnf);refine(Ss (hS.blk 1 rfl) jk.role).mono ?_;rintro v w2 ⟨rfl,rfl⟩;by_cases j8:NS.role.next.2=0
 case neg =>
  rw[show NS.claim B=((false,0),NS,B) from if_pos j8]at dG ⊢;rw[if_neg (show ¬(((false,0),NS,B):(Bool × Nat) × NodeS × aP).1.2≠0 by simp)];dsimp only at dG ⊢;(conv=>whnf);refine aM (fun h=>absurd zo j8) (fun _=>?_);(conv=>whnf);refine hS.ld 0 rfl rfl ?_;(conv=>whnf);refine hS.ld 1 rfl (v:=.bool (NS).role.aE) rfl ?_;replace hS:=hS.bJ 222 5 bA;cases iD:(NS).role.aE
  ·have gE:(NS).cS=false:=by
    unfold NodeS.cS;rw[iD];rfl
   refine zE ?_;rw[r6 gE];exact⟨none,0,none,0,(R),rfl,jz,fO,St.turns (hS.bJ 218 10 bV)⟩
  ·skip
   refine hS.lD 0 ?_;refine bO.mk zd ?_;refine aM (fun hz=>?_) (fun hz=>?_)
   ·have gE:(NS).cS=true:=by
     unfold NodeS.cS;rw[iD,decide_eq_true hz];rfl
    conv=>whnf
    (refine ir aj mixed [] No [0,1,2,3,4,5,6,7,8,9,10,11,12,13,14,15,16,17,18,19,20,21,22] zk ?_;rintro w1 rfl;replace hS:=hS.drew)
    have hK:=hS.ref No;repeat' ((conv=>whnf);first|refine hS.bU 0 rfl rfl id ?_|refine hS.bU 2 rfl rfl id ?_|refine hS.bU 1 rfl rfl id ?_)
    refine hS.fz underlying49 (sz:=5) zk (z:=.agg (bA fw).toArray) zk rfl rfl (cs:=bA ⟨(NS).id,(NS).cell.li,(NS).role.ah,true,none,0,0⟩) (by rfl) (fun b9 w3 jl hx hS=>?_);replace hK:=hK.trans hx;refine ae.mk hK ?_;(conv=>whnf);refine hS.fR dA 7 (ys:=[⟨(NS).id,(NS).cell.li,(NS).role.ah,true,none,0,0⟩]) (G:=fun _=>True) underlying49 (bytes:=56) zk (z:=.agg (bA fw).toArray) zk rfl rfl (bQ.bG dA (hS.blk 8 rfl) rfl zi (fun _ _=>trivial) rfl) (by unfold maxLen;decide) zd (fun a1 c1 w4 hx hS=>?_);replace hK:=hK.trans (hx.mono fun q h=>by simp[Value.ownBlock]at h);refine ae.mk hK ?_;clear hx hK;replace hS:=hS.keep 8;replace hS:St w (cp (dP A N R)) w4 (dP A (NS) (R)++[az 222 5 bA (.slice a1 1 c1) [⟨(NS).id,(NS).cell.li,(NS).role.ah,true,none,0,0⟩]]):=hS;(conv=>whnf);refine aM (fun _=>?_) (fun h=>absurd hz h);(conv=>whnf);have nw:=St.jA hS 0 4 rfl rfl zd (c:=A.x) (by simp[i9]);have vk:=St.jA hS 0 4 rfl rfl zd (c:=A.xg) (by simp[i9]);have nV:¬(Value.slice a1 1 c1).ownBlock=some A.n:=fun h=>hS.bS 0 7 rfl rfl zd _ (List.mem_singleton.2 rfl) (by simp only[az,own];rw[h];simp)
    have CJ:=St.jA hS 2 4 rfl rfl zd (c:=A.x) (by simp[i9]);have wS:=St.jA hS 2 4 rfl rfl zd (c:=A.xg) (by simp[i9]);have CK:¬(Value.slice a1 1 c1).ownBlock=some A.c:=fun h=>hS.bS 2 7 rfl rfl zd _ (List.mem_singleton.2 rfl) (by simp only[az,own];rw[h];simp)
    have Dq:=St.jA hS 1 4 rfl rfl zd (c:=A.x) (by simp[i9]);have Dr:=St.jA hS 1 4 rfl rfl zd (c:=A.xg) (by simp[i9]);have Ds:¬(Value.slice a1 1 c1).ownBlock=some A.r:=fun h=>hS.bS 1 7 rfl rfl zd _ (List.mem_singleton.2 rfl) (by simp only[az,own];rw[h];simp)
    have jY:∀b∈[A.t,A.tg],¬(b=A.x∨b=A.xg):=fun b hb hx=>hS.bS 3 4 rfl rfl zd b (by simpa[eB]using hb) (by simpa[i9]using hx)
    (refine ir aj mixed [] (fun b=>b=A.x∨b=A.xg∨(Value.slice a1 1 c1).ownBlock=some b) [0,1,2,3,4,5,6,7,8,9,10,11,12,13,14,15,16,17,18,19,20,21,22,23,24,25,26,27] zk ?_;rintro w1 rfl;replace hS:=hS.drew)
    have hK:=hS.ref (fun b=>b=A.x∨b=A.xg∨(Value.slice a1 1 c1).ownBlock=some b);repeat' ((conv=>whnf);first|refine hS.bU 0 rfl rfl (fun h=>h.elim nw fun h=>h.elim vk nV) ?_|refine hS.bU 2 rfl rfl (fun h=>h.elim CJ fun h=>h.elim wS CK) ?_|refine hS.bU 1 rfl rfl (fun h=>h.elim Dq fun h=>h.elim Dr Ds) ?_)
    refine(Lf (hS.get 3 rfl) (hS.get 4 rfl) jY dG.aL dG.told dG.cur).mono ?_;rintro v w' ⟨⟨x,y,rfl⟩,hx,hB,ho,hf⟩;replace hS:=hS.iS 4 rfl hx (fun c hc=>by simpa[i9]using hc) GN hB (fun c hc=>hc) fq ho (fun g hg=>hf g (by simpa[az,own]using hg));replace hK:=hK.trans (hx.mono fun b h=>h.elim .inl fun h=>.inr (.inl h));refine ae.mk hK ?_;refine hS.fz underlying49 (sz:=5) zk (z:=.agg (bA fw).toArray) zk rfl rfl (cs:=bA ⟨(NS).id,(NS).cell.li,(NS).role.ah,false,x,((NS).dN.aY (NS).aL.cells).length,y⟩) (by rfl) (fun b9 w3 jl hx hS=>?_);replace hK:=hK.trans hx.aF;refine ae.mk hK ?_;refine hS.fR dA 7 (ys:=[⟨(NS).id,(NS).cell.li,(NS).role.ah,false,x,((NS).dN.aY (NS).aL.cells).length,y⟩]) (G:=fun _=>True) underlying49 (bytes:=56) zk (z:=.agg (bA fw).toArray) zk rfl rfl (bQ.bG dA (hS.blk 9 rfl) rfl zi (fun _ _=>trivial) rfl) (by unfold maxLen;show 1+1≤_;decide) (by show(1+1)*56≤_;decide) (fun a2 c2 w4 hx hS=>?_);replace hK:=hK.trans (hx.mono fun q h=>.inr (.inr h));refine ae.mk hK ?_;clear hx hK;replace hS:=hS.keep 9;repeat' ((conv=>whnf);first|apply aI.mk|refine bO.mk zd ?_|refine ag.mk zo zo ?_|refine ao.mk zo zo ?_|(first|apply aM|apply ca|apply cE|apply cD)<;>(intro))
    rw[uM gE]
    replace hS:St w (cp (dP A N R)) w4 (dP A { (NS) with dN:=(NS).dN.next (NS).aL.cells } (R)++AO a2 c2 x y [⟨(NS).id,(NS).cell.li,(NS).role.ah,true,[]⟩,⟨(NS).id,(NS).cell.li,(NS).role.ah,false,fx (NS).aL.cells ((NS).dN.aY (NS).aL.cells)⟩]):=by
     have hc:kE [⟨(NS).id,(NS).cell.li,(NS).role.ah,true,[]⟩,⟨(NS).id,(NS).cell.li,(NS).role.ah,false,fx (NS).aL.cells ((NS).dN.aY (NS).aL.cells)⟩]=fx (NS).aL.cells ((NS).dN.aY (NS).aL.cells):=by simp[kE]
     have hv:[(⟨(NS).id,(NS).cell.li,(NS).role.ah,true,[]⟩:bE),⟨(NS).id,(NS).cell.li,(NS).role.ah,false,fx (NS).aL.cells ((NS).dN.aY (NS).aL.cells)⟩].map (fV x y)=[⟨(NS).id,(NS).cell.li,(NS).role.ah,true,none,0,0⟩,⟨(NS).id,(NS).cell.li,(NS).role.ah,false,x,((NS).dN.aY (NS).aL.cells).length,y⟩]:=by simp[fV,kp]
     unfold AO;rw[hc,hv,kp];exact hS
    exact⟨a2,c2,x,y,(R),rfl,jz,fO,St.turns hS⟩
   ·have gE:(NS).cS=false:=by
     unfold NodeS.cS;rw[decide_eq_false hz,Bool.and_false]
    (conv=>whnf);refine aM (fun h=>absurd h hz) (fun _=>?_);repeat' ((conv=>whnf);first|apply aI.mk|refine bO.mk zd ?_|refine ag.mk zo zo ?_|refine ao.mk zo zo ?_|(first|apply aM|apply ca|apply cE|apply cD)<;>(intro))
    rw[r6 gE];exact⟨none,0,none,0,(R),rfl,jz,fO,St.turns (hS.bJ 218 10 bV)⟩
 have il:=bN.jj ha j8;have gQ:=bN.lK jk.role j8;rw[j8];have kZ:=hS.ne 0 2 rfl rfl zd;have nv:=hS.ne 0 6 rfl rfl zd;(conv=>whnf);refine hS.dr [11] (fun b=>b=A.b∨b=A.c) [0,1,2,3,4,5,6,7,8,9,10,11,12,13] fun w1 hS=>?_
 have hK:=hS.ref (fun b=>b=A.b∨b=A.c);repeat' ((conv=>whnf);first|refine hS.bU 0 rfl rfl (fun h=>h.elim nv kZ) ?_|(refine hS.lD 2 ?_;refine ae.mk hK ?_))
 refine(Sk NS.role.next.1 NS.cell.li (hS.blk 2 rfl) (hS.blk 6 rfl) hA hB hR hj jk.num).mono ?_;rintro v w4 ⟨rfl,hx,R',rO,uq,gK,u5⟩;have jG:=hS.dv [6,2,0,1,3,4,5] zd;have eE:=(Ev.St.vL jG hx (by simp[blk]) (eh _ _ _) gK rfl (eh _ _ _) u5 rfl).dv [2,3,1,4,5,6,0] zd;refine ae.mk (hK.trans hx) ?_;have jz:=rO;have fO:=uq;by_cases hp:(NS.cell.put B NS.role.next.1 NS.cell.li).1=0
 case neg =>
  rw[show NS.claim B=((false,(NS.cell.put B NS.role.next.1 NS.cell.li).1),{ NS with cell:=(NS.cell.put B NS.role.next.1 NS.cell.li).2.2 },(NS.cell.put B NS.role.next.1 NS.cell.li).2.1) by
   unfold NodeS.claim;rw[if_neg (fun h=>h j8),if_pos hp]]
  rw[if_pos (show(((false,(NS.cell.put B NS.role.next.1 NS.cell.li).1),{ NS with cell:=(NS.cell.put B NS.role.next.1 NS.cell.li).2.2 },(NS.cell.put B NS.role.next.1 NS.cell.li).2.1):(Bool × Nat) × NodeS × aP).1.2≠0 from hp)];refine aM (fun _=>?_) (fun h=>absurd (show((NS.cell.put B NS.role.next.1 NS.cell.li).1:Int)>0 by omega) h);refine zE ?_;exact⟨none,0,none,0,R',rfl,jz,fO,St.turns ((Ev.St.bJ eE 222 5 bA).bJ 218 10 bV)⟩
 have qT:NS.claim B=((true,0),{ NS with cell:=(NS.cell.put B NS.role.next.1 NS.cell.li).2.2,role:=(NS.role.claim NS.role.next.1).2,aL:=qF NS.now NS.aL (lO NS.fu.cells) },(NS.cell.put B NS.role.next.1 NS.cell.li).2.1):=by
  unfold NodeS.claim;rw[if_neg (fun h=>h j8),if_neg (fun h=>h hp)]
 rw[qT]at dG ⊢;rw[if_neg (show ¬(((true,0),{ NS with cell:=(NS.cell.put B NS.role.next.1 NS.cell.li).2.2,role:=(NS.role.claim NS.role.next.1).2,aL:=qF NS.now NS.aL (lO NS.fu.cells) },(NS.cell.put B NS.role.next.1 NS.cell.li).2.1):(Bool × Nat) × NodeS × aP).1.2≠0 by simp)];dsimp only at dG ⊢;rw[hp];generalize (NS.cell.put B NS.role.next.1 NS.cell.li).2=BC at eE dG jz ⊢;obtain⟨B2,C2⟩:=BC;have hS:St w (cp (dP A N R)) w4 (dP A { NS with cell:=C2 } R'):=eE;dsimp only at dG jz ⊢;refine hS.lD 0 ?_;refine(zrw NS.role.next.1 (hS.blk 1 rfl) jk.role).mono ?_;rintro v w' ⟨rfl,hx,gK⟩;replace hS:=hS.uB 1 hx gK;refine hS.lD 0 ?_;refine g9 ((hS.get 5 rfl).2.1.cell 1) ?_;have WO:=jk.fu;have lF:bQ w' 10 bV (fun _=>True) (some ⟨A.mg,0,none⟩) 32 NS.fu.cells:=fE (G:=fun _=>True) gF (hS.get 5 rfl).2.2 fun _ _=>trivial
 refine(zoP lF zd).mono ?_;rintro v w' ⟨a,c,rfl,hx,ho,hf⟩;replace hS:=hS.made hx fq ho (fun g hg=>hf g (by simpa[az,own]using hg));have hlen:=Eg NS.fu.cells;rw[WO]at hlen;generalize lO NS.fu.cells=l at hS hlen dG ⊢;generalize (NS.role.claim NS.role.next.1).2=r2 at hS dG ⊢;have jq:=jk.n0;have Dh:=jk.n1
 refine d5 aj (fun σ w' q=>∃k:Nat,σ=[(10,.int .i64 k),(9,.slice a l.length c),(4,.bool true),(0,.pointer (some ⟨A.n,0,none⟩))]∧q=l.length-k∧k≤l.length∧St w (cp (dP A N R)) w' (dP A { NS with cell:=C2,role:=r2,aL:=qF NS.now NS.aL (l.take k) } R'++[az 216 8 dW (.slice a l.length c) l]))
  (σ':=[(10,.int .i64 ((0:Nat):Int)),(9,.slice a l.length c),(4,.bool true),(0,.pointer (some ⟨A.n,0,none⟩))]) (n:=l.length) zs ⟨0,rfl,rfl,Nat.zero_le _,hS⟩ ?_
 rintro _ w1 q' ⟨k,rfl,rfl,hk,hS⟩;apply aR<;>intro h3
 ·obtain⟨b0,o0,x,dB,_,rfl,kM,hc⟩:=(fE (G:=fun _=>True) BH (hS.get 7 rfl) (fun _ _=>trivial)).at (k:=k) zo;have aw:=Qi NS.now NS.aL dB;have sN:=G1 NS.now (l.take k) jk.aL;have mU:(l.take k).length≤32:=by rw[List.length_take];omega
  generalize qF NS.now NS.aL (l.take k)=T at hS aw sN;refine ao.mk zo zo ?_;refine⟨dW x,rfl,hc,?_⟩;refine hS.new (fun bf w' rQ hS=>?_);refine hS.sT 8 fun w' hS=>?_
  have ee:=hS.ne 0 8 rfl rfl zd;have iY:=St.jA hS 8 3 rfl rfl zd (c:=A.tg) (by simp[eB]);have jF:=St.jA hS 0 3 rfl rfl zd (c:=A.tg) (by simp[eB]);have uA:=Bz x.proto x.state;refine M6 aj mixed [] (fun w1 w'=>Ext (· = bf) w1 w'∧∃y,bC w' bf 216 (dW { x with i5:=y })) [0,1,2,3,4,5,6,7,8,9,10,11] zk ?_;rintro w1 rfl;replace hS:=hS.drew;refine⟨⟨Ext.refl _ _,x.i5,hS.blk 8 rfl⟩,?_⟩;have hK:=hS.ref (· = bf);refine rI.imp (fun _ h=>h.1) (hS.bU 0 rfl rfl ee ?_);refine⟨.int .i64 x.proto,fun w' h=>by obtain⟨_,y,h⟩:=h;rw[h.cell];rfl,?_⟩;refine⟨.int .i64 x.state,fun w' h=>by obtain⟨_,y,h⟩:=h;rw[h.cell];rfl,?_⟩;refine(LD _ _ _).mono ?_;rintro v w' ⟨rfl,rfl⟩;refine ae.mk ⟨hK,x.i5,hS.blk 8 rfl⟩ ?_;refine ag.mk (by dsimp only;omega) (by dsimp only;omega) ?_;refine hS.kD hK 8 rfl zl rfl rfl (fun w' hK hS=>ae.mk ⟨hK,NS.now+lW x.proto x.state,hS.blk 8 rfl⟩ ?_);(conv=>whnf);refine hS.dr [] (fun b=>b=A.tg) [0,1,2,3,4,5] fun w1 hS=>?_
  repeat' ((conv=>whnf);first|refine hS.fK 8 rfl rfl iY ?_|refine hS.bU 0 rfl rfl jF ?_)
  refine(zwN { x with i5:=NS.now+lW x.proto x.state } (hS.get 3 rfl) sN zo).mono ?_;rintro v w' ⟨rfl,hx,hT⟩;refine ae.mk hx ?_;replace hS:=hS.upd 3 rfl hx (fun d hd=>by subst hd;simp[eB]) vM hT (fun d hd=>.inl hd);rw[←aw]at hS;refine ag.mk zo zo ?_;refine aD.mk ⟨_,[(10,.int .i64 ((k+1:Nat):Int)),(9,_),(4,_),(0,_)],?_,zs,⟨k+1,rfl,rfl,by omega,hS.keep 8⟩⟩;omega
 obtain rfl:k=l.length:=by omega
 rw[List.take_length]at hS;replace hS:=hS.keep 7;generalize hN3:({ NS with cell:=C2,role:=r2,aL:=qF NS.now NS.aL l }:NodeS)=N3 at hS dG ⊢;refine hS.lD 0 ?_;refine hS.ld 1 rfl (v:=.bool (N3).role.aE) rfl ?_;replace hS:=hS.bJ 222 5 bA;cases iD:(N3).role.aE
 ·have gE:(N3).cS=false:=by
   unfold NodeS.cS;rw[iD];rfl
  (conv=>whnf);refine hS.dr [] No [0,1,2,3,4,5,6,7,8,9,10,11,12,13,14,15,16,17,18,19,20,21,22] fun w1 hS=>?_
  have hK:=hS.ref No;repeat' ((conv=>whnf);first|refine hS.bU 0 rfl rfl id ?_|refine hS.bU 2 rfl rfl id ?_|refine hS.bU 1 rfl rfl id ?_)
  refine hS.fz underlying49 (sz:=5) zk (z:=.agg (bA fw).toArray) zk rfl rfl (cs:=bA ⟨(N3).id,(N3).cell.li,(N3).role.ah,true,none,0,0⟩) (by rfl) (fun b9 w3 jl hx hS=>?_);replace hK:=hK.trans hx;refine ae.mk hK ?_;refine hS.fR dA 7 (ys:=[⟨(N3).id,(N3).cell.li,(N3).role.ah,true,none,0,0⟩]) (G:=fun _=>True) underlying49 (bytes:=56) zk (z:=.agg (bA fw).toArray) zk rfl rfl (bQ.bG dA (hS.blk 8 rfl) rfl zi (fun _ _=>trivial) rfl) (by unfold maxLen;decide) zd (fun a1 c1 w4 hx hS=>?_);replace hK:=hK.trans (hx.mono fun q h=>by simp[Value.ownBlock]at h);refine ae.mk hK ?_;replace hS:=hS.keep 8;refine zE ?_;rw[xO gE];exact⟨a1,c1,none,0,(R'),rfl,jz,fO,St.turns (hS.bJ 218 10 bV)⟩
 ·skip
  refine hS.lD 0 ?_;refine bO.mk zd ?_;by_cases hz:(N3).now.tmod 3=0
  ·have gE:(N3).cS=true:=by
    unfold NodeS.cS;rw[iD,decide_eq_true hz];rfl
   (conv=>whnf);refine hS.dr [] No [0,1,2,3,4,5,6,7,8,9,10,11,12,13,14,15,16,17,18,19,20,21,22] fun w1 hS=>?_
   have hK:=hS.ref No;repeat' ((conv=>whnf);first|refine hS.bU 0 rfl rfl id ?_|refine hS.bU 2 rfl rfl id ?_|refine hS.bU 1 rfl rfl id ?_)
   refine hS.fz underlying49 (sz:=5) zk (z:=.agg (bA fw).toArray) zk rfl rfl (cs:=bA ⟨(N3).id,(N3).cell.li,(N3).role.ah,true,none,0,0⟩) (by rfl) (fun b9 w3 jl hx hS=>?_);replace hK:=hK.trans hx;refine ae.mk hK ?_;refine hS.fR dA 7 (ys:=[⟨(N3).id,(N3).cell.li,(N3).role.ah,true,none,0,0⟩]) (G:=fun _=>True) underlying49 (bytes:=56) zk (z:=.agg (bA fw).toArray) zk rfl rfl (bQ.bG dA (hS.blk 8 rfl) rfl zi (fun _ _=>trivial) rfl) (by unfold maxLen;decide) zd (fun a1 c1 w4 hx hS=>?_);replace hK:=hK.trans (hx.mono fun q h=>by simp[Value.ownBlock]at h);refine ae.mk hK ?_;clear hx hK;replace hS:=hS.keep 8;replace hS:St w (cp (dP A N R)) w4 (dP A (N3) (R')++[az 222 5 bA (.slice a1 1 c1) [⟨(N3).id,(N3).cell.li,(N3).role.ah,true,none,0,0⟩]]):=hS;(conv=>whnf);refine aM (fun _=>?_) (fun h=>absurd hz h);(conv=>whnf);have nw:=St.jA hS 0 4 rfl rfl zd (c:=A.x) (by simp[i9]);have vk:=St.jA hS 0 4 rfl rfl zd (c:=A.xg) (by simp[i9]);have nV:¬(Value.slice a1 1 c1).ownBlock=some A.n:=fun h=>hS.bS 0 7 rfl rfl zd _ (List.mem_singleton.2 rfl) (by simp only[az,own];rw[h];simp)
   have CJ:=St.jA hS 2 4 rfl rfl zd (c:=A.x) (by simp[i9]);have wS:=St.jA hS 2 4 rfl rfl zd (c:=A.xg) (by simp[i9]);have CK:¬(Value.slice a1 1 c1).ownBlock=some A.c:=fun h=>hS.bS 2 7 rfl rfl zd _ (List.mem_singleton.2 rfl) (by simp only[az,own];rw[h];simp)
   have Dq:=St.jA hS 1 4 rfl rfl zd (c:=A.x) (by simp[i9]);have Dr:=St.jA hS 1 4 rfl rfl zd (c:=A.xg) (by simp[i9]);have Ds:¬(Value.slice a1 1 c1).ownBlock=some A.r:=fun h=>hS.bS 1 7 rfl rfl zd _ (List.mem_singleton.2 rfl) (by simp only[az,own];rw[h];simp)
   have jY:∀b∈[A.t,A.tg],¬(b=A.x∨b=A.xg):=fun b hb hx=>hS.bS 3 4 rfl rfl zd b (by simpa[eB]using hb) (by simpa[i9]using hx)
   refine hS.dr [] (fun b=>b=A.x∨b=A.xg∨(Value.slice a1 1 c1).ownBlock=some b) [0,1,2,3,4,5,6,7,8,9,10,11,12,13,14,15,16,17,18,19,20,21,22,23,24,25,26,27] fun w1 hS=>?_
   have hK:=hS.ref (fun b=>b=A.x∨b=A.xg∨(Value.slice a1 1 c1).ownBlock=some b);repeat' ((conv=>whnf);first|refine hS.bU 0 rfl rfl (fun h=>h.elim nw fun h=>h.elim vk nV) ?_|refine hS.bU 2 rfl rfl (fun h=>h.elim CJ fun h=>h.elim wS CK) ?_|refine hS.bU 1 rfl rfl (fun h=>h.elim Dq fun h=>h.elim Dr Ds) ?_)
   refine(Lf (hS.get 3 rfl) (hS.get 4 rfl) jY dG.aL dG.told dG.cur).mono ?_;rintro v w' ⟨⟨x,y,rfl⟩,hx,hB,ho,hf⟩;replace hS:=hS.iS 4 rfl hx (fun c hc=>by simpa[i9]using hc) GN hB (fun c hc=>hc) fq ho (fun g hg=>hf g (by simpa[az,own]using hg));replace hK:=hK.trans (hx.mono fun b h=>h.elim .inl fun h=>.inr (.inl h));refine ae.mk hK ?_;refine hS.fz underlying49 (sz:=5) zk (z:=.agg (bA fw).toArray) zk rfl rfl (cs:=bA ⟨(N3).id,(N3).cell.li,(N3).role.ah,false,x,((N3).dN.aY (N3).aL.cells).length,y⟩) (by rfl) (fun b9 w3 jl hx hS=>?_);replace hK:=hK.trans hx.aF;refine ae.mk hK ?_;refine hS.fR dA 7 (ys:=[⟨(N3).id,(N3).cell.li,(N3).role.ah,false,x,((N3).dN.aY (N3).aL.cells).length,y⟩]) (G:=fun _=>True) underlying49 (bytes:=56) zk (z:=.agg (bA fw).toArray) zk rfl rfl (bQ.bG dA (hS.blk 9 rfl) rfl zi (fun _ _=>trivial) rfl) (by unfold maxLen;show 1+1≤_;decide) (by show(1+1)*56≤_;decide) (fun a2 c2 w4 hx hS=>?_);replace hK:=hK.trans (hx.mono fun q h=>.inr (.inr h));refine ae.mk hK ?_;replace hS:=hS.keep 9;refine zE ?_;rw[uM gE]
   replace hS:St w (cp (dP A N R)) w4 (dP A { (N3) with dN:=(N3).dN.next (N3).aL.cells } (R')++AO a2 c2 x y [⟨(N3).id,(N3).cell.li,(N3).role.ah,true,[]⟩,⟨(N3).id,(N3).cell.li,(N3).role.ah,false,fx (N3).aL.cells ((N3).dN.aY (N3).aL.cells)⟩]):=by
    have hc:kE [⟨(N3).id,(N3).cell.li,(N3).role.ah,true,[]⟩,⟨(N3).id,(N3).cell.li,(N3).role.ah,false,fx (N3).aL.cells ((N3).dN.aY (N3).aL.cells)⟩]=fx (N3).aL.cells ((N3).dN.aY (N3).aL.cells):=by simp[kE]
    have hv:[(⟨(N3).id,(N3).cell.li,(N3).role.ah,true,[]⟩:bE),⟨(N3).id,(N3).cell.li,(N3).role.ah,false,fx (N3).aL.cells ((N3).dN.aY (N3).aL.cells)⟩].map (fV x y)=[⟨(N3).id,(N3).cell.li,(N3).role.ah,true,none,0,0⟩,⟨(N3).id,(N3).cell.li,(N3).role.ah,false,x,((N3).dN.aY (N3).aL.cells).length,y⟩]:=by simp[fV,kp]
    unfold AO;rw[hc,hv,kp];exact hS
   exact⟨a2,c2,x,y,(R'),rfl,jz,fO,St.turns hS⟩
  ·have gE:(N3).cS=false:=by
    unfold NodeS.cS;rw[decide_eq_false hz,Bool.and_false]
   (conv=>whnf);refine hS.dr [] No [0,1,2,3,4,5,6,7,8,9,10,11,12,13,14,15,16,17,18,19,20,21,22] fun w1 hS=>?_
   have hK:=hS.ref No;repeat' ((conv=>whnf);first|refine hS.bU 0 rfl rfl id ?_|refine hS.bU 2 rfl rfl id ?_|refine hS.bU 1 rfl rfl id ?_)
   refine hS.fz underlying49 (sz:=5) zk (z:=.agg (bA fw).toArray) zk rfl rfl (cs:=bA ⟨(N3).id,(N3).cell.li,(N3).role.ah,true,none,0,0⟩) (by rfl) (fun b9 w3 jl hx hS=>?_);replace hK:=hK.trans hx;refine ae.mk hK ?_;refine hS.fR dA 7 (ys:=[⟨(N3).id,(N3).cell.li,(N3).role.ah,true,none,0,0⟩]) (G:=fun _=>True) underlying49 (bytes:=56) zk (z:=.agg (bA fw).toArray) zk rfl rfl (bQ.bG dA (hS.blk 8 rfl) rfl zi (fun _ _=>trivial) rfl) (by unfold maxLen;decide) zd (fun a1 c1 w4 hx hS=>?_);replace hK:=hK.trans (hx.mono fun q h=>by simp[Value.ownBlock]at h);refine ae.mk hK ?_;replace hS:=hS.keep 8;refine aM (fun h=>absurd h hz) (fun _=>?_);refine zE ?_;rw[xO gE];exact⟨a1,c1,none,0,(R'),rfl,jz,fO,St.turns (hS.bJ 218 10 bV)⟩
end
theorem Ev.St.mW {w0:World}  {H:List bZ}{bm g:Nat}{au:Int}{l:List ax}(h:St w0 S w (Ev.blk bm 141 [.int .i64 au,.slice (some ⟨g,0,none⟩) 32 c]::az 218 10 bV (.slice (some ⟨g,0,none⟩) 32 c) l::H)):St w0 S w (nJ bm g c ⟨au,l⟩::H):=by
 have jY:=List.pairwise_cons.1 h.apart;have mR:=List.pairwise_cons.1 jY.2;have hg:g∈(az 218 10 bV (.slice (some ⟨g,0,none⟩) 32 c) l).aW:=by simp[az,own,Value.ownBlock]
 have CE:bm∈(Ev.blk bm 141 [.int .i64 au,.slice (some ⟨g,0,none⟩) 32 c]).aW:=List.mem_singleton.2 rfl;have cj:bm≠g:=fun e=>jY.1 _ List.mem_cons_self bm CE (e ▸ hg)
 have vg:∀f∈H,f∈Ev.blk bm 141 [.int .i64 au,.slice (some ⟨g,0,none⟩) 32 c]::az 218 10 bV (.slice (some ⟨g,0,none⟩) 32 c) l::H:=fun f hf=>List.mem_cons_of_mem _ (List.mem_cons_of_mem _ hf)
 refine⟨h.ext,?_,?_,?_,?_⟩
 ·intro e he;rcases List.mem_cons.1 he with rfl|he
  ·exact⟨cj,h.blk 0 rfl,h.get 1 rfl⟩
  ·exact h.each e (vg e he)
 ·intro e he;rcases List.mem_cons.1 he with rfl|he
  ·exact Qy
  ·exact h.loc e (vg e he)
 ·intro e he b hb;rcases List.mem_cons.1 he with rfl|he
  ·simp only[nJ,List.mem_cons,List.not_mem_nil,or_false]at hb;rcases hb with rfl|rfl
   ·exact h.may _ List.mem_cons_self _ CE
   ·exact h.may _ (List.mem_cons_of_mem _ List.mem_cons_self) _ hg
  ·exact h.may e (vg e he) b hb
 ·refine .cons (fun f hf b hb=>?_) mR.2;simp only[nJ,List.mem_cons,List.not_mem_nil,or_false]at hb;rcases hb with rfl|rfl
  ·exact jY.1 f (List.mem_cons_of_mem _ hf) _ CE
  ·exact mR.1 f hf _ hg
section
variable {A:cG}{N:NodeS}{R:el}{B:aP}
theorem ztD {G:ax→Prop}(x:bW)(cs:List ax)(hx:bQ w 10 bV G x.a x.n cs)(eF:0<x.n→∀b0 o0,x.a=some ⟨b0,o0,none⟩→¬cp (dP A N R) b0)(hN:Has w (dP A N R))(hO:eZ m N) :
  aa prog 110 #[.pointer (some ⟨A.n,0,none⟩),.agg (bA x).toArray] w fun v w'=>v=.int .i64 ((N.hear ⟨x.bP,x.au,x.ah,x.claim,cs⟩).1:Nat)∧∃g' c',ak w w' (dP A N R) (dP { A with mg:=g',mc:=c' } (N.hear ⟨x.bP,x.au,x.ah,x.claim,cs⟩).2 R):=by
 have hid:=hO.id;refine zN func110 ntmps110 ?_;have hS:=hN.start;refine hS.new (fun bx w' yL hS=>?_);(conv=>whnf)
 (refine ir aj mixed [] No [0,1,2,3,4,5,6,7,8,9,10,11,12,13,14,15,16,17] zk ?_;rintro w1 rfl;replace hS:=hS.drew)
 repeat' ((conv=>whnf);first|refine hS.bU 7 rfl rfl id ?_|refine hS.bU 0 rfl rfl id ?_|refine ag.mk zo zo ?_)
 generalize oq:(⟨x.bP,x.au,x.ah,x.claim,cs⟩:bE)=xs
 have lx:(x.bP≠1-N.id∨x.ah<0∨x.ah>1073741824)→N.hear xs=(2,N):=fun h=>by
  subst oq;exact if_pos h
 refine ca (fun h1=>?_) (fun h1=>?_)
 ·rw[lx (.inl h1)];refine zE ?_;exact⟨rfl,A.mg,A.mc,(hS.keep 7).turns⟩
 refine hS.bU 7 rfl rfl id ?_;apply aR<;>intro h2
 ·rw[lx (.inr (.inl h2))];refine zE ?_;exact⟨rfl,A.mg,A.mc,(hS.keep 7).turns⟩
 refine hS.bU 7 rfl rfl id ?_;apply aR<;>intro h3
 ·rw[lx (.inr (.inr h3))];refine zE ?_;exact⟨rfl,A.mg,A.mc,(hS.keep 7).turns⟩
 refine hS.ld 7 rfl rfl ?_;cases il:x.claim
 case true =>
  rw[show N.hear xs=(3,N) by subst oq;unfold NodeS.hear;rw[if_neg (by dsimp only;omega),if_pos il]];repeat' first|refine zP ?_|apply aR<;>intro
  exact⟨rfl,A.mg,A.mc,(hS.keep 7).turns⟩
 have hh:N.hear xs=if (N.fu.tell x.au cs).1≠0 then ((N.fu.tell x.au cs).1,{ N with fu:=(N.fu.tell x.au cs).2 }) else (0,{ N with fu:=(N.fu.tell x.au cs).2,role:=(N.role.hear x.ah).2 }):=by
  subst oq;unfold NodeS.hear;rw[if_neg (by dsimp only;omega),if_neg (by show ¬x.claim=true;rw[il];decide)]
 have vk:=St.jA hS 0 5 rfl rfl zd (c:=A.m) (by simp[nJ]);have WT:=St.jA hS 0 5 rfl rfl zd (c:=A.mg) (by simp[nJ]);have Dg:=St.jA hS 7 5 rfl rfl zd (c:=A.m) (by simp[nJ]);have nV:=St.jA hS 7 5 rfl rfl zd (c:=A.mg) (by simp[nJ]);(conv=>whnf);refine hS.dr [] (fun b=>b=A.m∨b=A.mg) [0,1,2,3,4,5,6,7,8,9] fun w1 hS=>?_
 repeat' ((conv=>whnf);first|refine hS.bU 0 rfl rfl (fun h=>h.elim vk WT) ?_|refine hS.bU 7 rfl rfl (fun h=>h.elim Dg nV) ?_)
 have C0:∀d,d=A.m∨d=A.mg→cp (dP A N R) d:=fun d hd=>⟨_,List.mem_of_getElem? (i:=5) rfl,by simpa[nJ]using hd⟩
 refine(zpe x.au (hS.get 5 rfl) hO.fu (hx.qP hS.ext eF) (fun h b0 o0 ha=>⟨fun e=>eF h b0 o0 ha (C0 _ (.inl e)),fun e=>eF h b0 o0 ha (C0 _ (.inr e))⟩)).mono ?_;rintro v w' ⟨g',c',rfl,aU,hM,ni⟩;refine ae.mk aU ?_
 replace hS:=hS.upd 5 rfl aU (fun d hd=>by simpa[nJ]using hd) Qy hM (by
  intro d hd;simp only[nJ,List.mem_cons,List.not_mem_nil,or_false]at hd ⊢;rcases hd with rfl|rfl
  ·exact .inl (.inl rfl)
  ·rcases ni with rfl|h
   ·exact .inl (.inr rfl)
   ·exact .inr h)
 rw[hh];generalize N.fu.tell x.au cs=Q at hS ⊢;obtain⟨k,M⟩:=Q;by_cases hk:k=0
 case neg =>
  rw[if_pos (show((k,M):Nat × aC).1≠0 from hk)];refine aM (fun h=>absurd (show k=0 by omega) hk) (fun _=>?_);refine zE ?_;exact⟨rfl,g',c',(hS.keep 7).turns⟩
 subst hk;rw[if_neg (show ¬((0,M):Nat × aC).1≠0 by simp)];have kZ:=hS.ne 0 1 rfl rfl zd;have nV:=hS.ne 7 1 rfl rfl zd;(conv=>whnf);refine hS.dr [] (fun b=>b=A.r) [0,1,2,3,4,5,6] fun w1 hS=>?_
 repeat' ((conv=>whnf);first|refine hS.bU 0 rfl rfl kZ ?_|refine hS.bU 7 rfl rfl nV ?_)
 refine(ztz x.ah (hS.blk 1 rfl)).mono ?_;rintro v w' ⟨rfl,aU,hB⟩;refine ae.mk aU ?_;replace hS:=hS.uB 1 aU hB;refine zE ?_;exact⟨rfl,g',c',(hS.keep 7).turns⟩
theorem zq3 (C:dC)(B:aP)(l:Int):(C.put B C.ep l).2.2.ep=C.ep:=by
 unfold dC.put;repeat' split
 all_goals dsimp only
 all_goals simp
theorem My {xs:List RuleS}(id:Int)(hid:id=0∨id=1)(hb:bC w b 126 (kW R))(hA:Alike R B)(hB:gq B)(hR:mN R k)(hk:k≤50000000) :
  aa prog 26 #[.int .i64 id,.pointer (some ⟨b,0,none⟩),.slice a xs.length c] w fun v w'=>∃R',Alike R' (d6 id B xs).2.2∧mN R' (k+18) ∧
   (((d6 id B xs).1=0∧∃A:cG,A.b=b∧A.ra=a∧A.rc=c∧v=.tuple #[.pointer (some ⟨A.n,0,none⟩),.int .i64 0]∧ak w w' [blk b 126 (kW R)] (dP A (d6 id B xs).2.1 R')) ∨
   ((d6 id B xs).1≠0∧v=.tuple #[.pointer none,.int .i64 ((d6 id B xs).1:Nat)]∧Ext (· = b) w w'∧bC w' b 126 (kW R'))):=by
 have hH:Has w [blk b 126 (kW R)]:=(St.sb hb).has
 have ez:∀d,cp [blk b 126 (kW R)] d→d=b:=fun d ⟨e,he,hd⟩=>by
  obtain rfl:=List.mem_singleton.1 he;exact List.mem_singleton.1 hd
 have hS:=hH.start;refine zN func26 ntmps26 ?_;refine(ztG (hS.blk 0 rfl) hR.len).mono ?_;rintro v w3 ⟨bc,rfl,wR,aU,gK⟩;replace hS:=hS.made aU (eh _ _ _) gK (by simp[blk];exact⟨wR,gK.lt⟩);have aQ:=Hl R.data 2;have fU:d6 id B xs=(((cU R.data).put B (cU R.data).ep ((cU R.data).li+1)).1,.born id ((cU R.data).put B (cU R.data).ep ((cU R.data).li+1)).2.2 xs,((cU R.data).put B (cU R.data).ep ((cU R.data).li+1)).2.1):=by rw[hA.data];rfl
 rw[fU];generalize hC:cU R.data=C at hS ⊢;have aQ:C.num<4294967296∧C.ep<4294967296∧C.li<4294967296:=by rw[←hC];exact aQ
 refine M6 aj mixed [8] (fun w1 w'=>Ext (fun d=>d=b∨d=bc) w1 w'∧∃C':dC,C'.ep=C.ep∧bC w' bc 131 (mH b C')) [0,1,2,3,4,5,6,7,8,9,10,11] zk ?_;rintro w1 rfl;replace hS:=hS.drew;refine⟨⟨Ext.refl _ _,C,rfl,hS.blk 1 rfl⟩,?_⟩;have hK:=hS.ref (fun d=>d=b∨d=bc);refine⟨.int .i64 C.ep,fun w' h=>by obtain⟨_,C',h1,h2⟩:=h;rw[h2.cell,←h1];rfl,?_⟩;refine hS.lD 1 ?_;refine ae.mk ⟨hK,C,rfl,hS.blk 1 rfl⟩ ?_;refine ag.mk zo zo ?_;refine(Sk C.ep (C.li+1) (hS.blk 1 rfl) (hS.blk 0 rfl) hA hB hR hk aQ.1).mono ?_;rintro v w6 ⟨rfl,aU,R',rO,uq,gK,u5⟩;have yX:=LV C B C.ep (C.li+1);refine ae.mk ⟨hK.trans aU,_,zq3 _ _ _,u5⟩ ?_;have cT:=Ev.St.vL hS aU (by simp[blk]) (eh _ _ _) gK rfl (eh _ _ _) u5 rfl;generalize C.put B C.ep (C.li+1)=Q at cT yX rO ⊢;obtain⟨e,B2,C2⟩:=Q;have hS:St w (cp [blk b 126 (kW R)]) w6 [blk b 126 (kW R'),blk bc 131 (mH b C2)]:=cT;dsimp only at yX rO ⊢;by_cases he:e=0
 case neg =>
  refine aM (fun _=>?_) (fun h=>absurd (show(e:Int)>0 by omega) h);refine zE ?_;exact⟨R',rO,uq,.inr ⟨he,rfl,hS.ext.mono ez,hS.blk 0 rfl⟩⟩
 subst he;obtain⟨he,_⟩:=yX rfl;refine ek.cut (fun σ w'=>∃br bt tg tc bm mg mc bn,σ=[(10,.pointer (some ⟨bn,0,none⟩))]∧St w (cp [blk b 126 (kW R)]) w' [nJ bm mg mc ⟨0,ay⟩,blk b 126 (kW R'),blk bc 131 (mH b C2),blk br 134 (k4 ⟨id,C2.ep,0,false⟩),eB bt tg tc ⟨2000+id*24,ay⟩,blk bn 144 [.int .i64 id,.int .i64 0,.pointer (some ⟨bc,0,none⟩),.pointer (some ⟨br,0,none⟩),.pointer (some ⟨bt,0,none⟩),.pointer none,.pointer (some ⟨bm,0,none⟩),.slice a xs.length c]]) ?_ ?_
 ·refine sj aj mixed [] (No) (.take 0 (.take 1 (.take 2 (.take 3 (.take 4 (.take 5 (.take 6 (.take 7 (.take 9 (.take 14 (.alt 8 (.alt 10 (.alt 11 (.take 12 (.alt 13 (.take 15 (.alt 16 (.take 17 .fin) .fin)) .fin)) .fin) .fin) (.alt 10 (.alt 8 (.alt 11 (.take 12 (.alt 13 (.take 15 (.alt 16 (.take 17 .fin) .fin)) .fin)) .fin) (.alt 11 (.take 12 (.alt 8 (.alt 13 (.take 15 (.alt 16 (.take 17 .fin) .fin)) .fin) (.alt 13 (.alt 8 (.take 15 (.alt 16 (.take 17 .fin) .fin)) .fin) .fin))) .fin)) .fin)))))))))))) zk ?_;rintro w1 rfl;replace hS:=hS.drew;have hK:=hS.ref No;repeat' ((conv=>whnf);first|refine And.intro ?_ ?_|refine hS.bU 1 rfl rfl (fun h=>h) ?_|(refine hS.DZ hK (fun bw w' hK hS=>ae.mk hK ?_))|(refine(ZB id hid _).mono ?_;rintro v w' ⟨bt,tg,tc,rfl,aU,hT,hf⟩;replace hS:=hS.made aU vM hT hf;replace hK:=hK.trans aU;clear aU hT hf;refine ae.mk hK ?_)|(refine(LL _).mono ?_;rintro v w' ⟨mg,mc,rfl,aU,ho,hf⟩;replace hS:=hS.made aU fq ho (fun g hg=>hf g (by simpa[az,own]using hg));replace hK:=hK.trans aU;clear aU ho hf;refine ae.mk hK ?_))
  all_goals first
   | exact dD.mk ⟨[(10,_)],⟨rfl,trivial⟩,_,_,_,_,_,_,_,_,rfl,(hS.dv [5,4,0,1,2,3,6] zd).mW⟩
   | exact dD.mk ⟨[(10,_)],⟨rfl,trivial⟩,_,_,_,_,_,_,_,_,rfl,(hS.dv [5,4,0,1,3,2,6] zd).mW⟩
   | exact dD.mk ⟨[(10,_)],⟨rfl,trivial⟩,_,_,_,_,_,_,_,_,rfl,(hS.dv [5,3,0,1,4,2,6] zd).mW⟩
   | exact dD.mk ⟨[(10,_)],⟨rfl,trivial⟩,_,_,_,_,_,_,_,_,rfl,(hS.dv [4,3,0,1,5,2,6] zd).mW⟩
   | trace_state
 rintro _ w7 ⟨br,bt,tg,tc,bm,mg,mc,bn,rfl,hS⟩;refine hS.lD 5 ?_;refine(ztE _).mono ?_;rintro v w8 ⟨bx,xg,xc,rfl,aU,hL,hf⟩;replace hS:=hS.made aU GN hL hf;refine hS.sT 5 fun w' hS=>?_
 have cT:=hS.dv [5,3,2,4,6,0,1] zd;refine zE ?_;exact⟨R',rO,uq,.inl ⟨rfl,⟨bn,br,bc,bt,tg,tc,bx,xg,xc,bm,mg,mc,b,a,c⟩,rfl,rfl,rfl,rfl,St.turns cT⟩⟩
end
end
end Go.Proofs.YtggfpjldhglmeaaGreatDoor