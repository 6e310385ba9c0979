/-
  Texts of this claim, joined: NodeT, NodeN, RowE, Notes, NotesB, LivesS, WorldS, WorldH, WorldA, WorldB, WorldC, WorldD.
-/
import Derived.Test.YtggfpjldhglmeaaGreatDoorSidePlaysH
import Derived.Lib.AppendZerosOnto
import Derived.Lib.Overlaps
set_option linter.unusedSectionVars false
set_option linter.unusedSimpArgs false
set_option linter.unusedVariables false
set_option maxRecDepth 20000
namespace Go.Proofs.YtggfpjldhglmeaaGreatDoor
open Go Tryz
section
open Ev
variable [Gap.Leaps]
variable {B:aP}{H:List bZ}{b m n q:Nat}{E:Nat→Addr}{S:Nat→Prop}{A:ja}{N:NodeS}{a:Option Addr}{w w' w0:World}
theorem Ev.St.vL {T:Nat→Prop}  {e1 e2 d1 d2:bZ}(h:St w0 S w (e1::e2::H))(k:Ext T w w')(hT:∀b,T b→b∈e1.aW∨b∈e2.aW)(l1:d1.Local)(h1:d1.holds w')(f1:d1.aW=e1.aW)(l2:d2.Local)(h2:d2.holds w')(f2:d2.aW=e2.aW):St w0 S w' (d1::d2::H):=by
 have jY:=List.pairwise_cons.1 h.apart;have mR:=List.pairwise_cons.1 jY.2;have Da:e1∈e1::e2::H:=List.mem_cons_self;have Db:e2∈e1::e2::H:=List.mem_cons_of_mem _ List.mem_cons_self;have vg:∀f∈H,f∈e1::e2::H:=fun f hf=>List.mem_cons_of_mem _ (List.mem_cons_of_mem _ hf)
 have WU:∀f∈H,∀b∈f.aW,¬T b:=fun f hf b hb ht=>(hT b ht).elim (fun h1=>jY.1 f (List.mem_cons_of_mem _ hf) b h1 hb) fun h2=>mR.1 f hf b h2 hb
 refine⟨h.ext.then k fun b hb=>(hT b hb).elim (fun hb=>(h.may e1 Da b hb).1) fun hb=>(h.may e2 Db b hb).1,?_,?_,?_,?_⟩
 ·intro e he;rcases List.mem_cons.1 he with rfl|he
  ·exact h1
  rcases List.mem_cons.1 he with rfl|he
  ·exact h2
  ·exact h.loc e (vg e he) w w' (fun b hb=>k.block b (h.may e (vg e he) b hb).2 (WU e he b hb)) (h.each e (vg e he))
 ·intro e he;rcases List.mem_cons.1 he with rfl|he
  ·exact l1
  rcases List.mem_cons.1 he with rfl|he
  ·exact l2
  ·exact h.loc e (vg e he)
 ·intro e he b hb
  have key:∃f∈e1::e2::H,b∈f.aW:=by
   rcases List.mem_cons.1 he with rfl|he
   ·exact⟨e1,Da,f1 ▸ hb⟩
   rcases List.mem_cons.1 he with rfl|he
   ·exact⟨e2,Db,f2 ▸ hb⟩
   ·exact⟨e,vg e he,hb⟩
  obtain⟨f,hf,hb⟩:=key;exact⟨(h.may f hf b hb).1,Nat.lt_of_lt_of_le (h.may f hf b hb).2 k.size⟩
 ·refine .cons (fun f hf b hb=>?_) (.cons (fun f hf b hb=>?_) mR.2)
  ·rw[f1]at hb;rcases List.mem_cons.1 hf with rfl|hf
   ·rw[f2];exact jY.1 e2 List.mem_cons_self b hb
   ·exact jY.1 f (List.mem_cons_of_mem _ hf) b hb
  ·rw[f2]at hb;exact mR.1 f hf b hb
theorem M6 {P:Program}{τ:Tab}{N:Nat}{σ:cr}(hτ:cO P τ)(hm:P.follows .mixedOrders=true){ops:Array Oper}{Q:cr→World→Prop}(late:List Nat)(S:World→World→Prop)(order:List Nat)
  (bR:(Region.noSelect ops&&Nat.beq order.length ops.size&&vU ops late order (Array.replicate ops.size false))=true)
  (h:∀w1,w1={ w with drawn:=w.drawn+1 }→S w1 w1∧BI P τ N ops late (S w1) order Q σ w1):ek P τ N ops Q σ w :=
 UU hτ hm late S order bR (h _ rfl).1 (by have:=(h _ rfl).2;rwa [K4]at this)
theorem rI.imp {S S':World→Prop}{o:Nat}{k:Value→Prop}(hi:∀w,S' w→S w)(h:rI S b o k):rI S' b o k:=by
 obtain⟨v,hv,hk⟩:=h;exact⟨v,fun w hw=>hv w (hi w hw),hk⟩
def fP (A:ja)(N:NodeS)(B:aP):List bZ:=fj A N++[blk A.b 176 (dL B)]
section
theorem EO (h:cp (fj A N) b):cp (fP A N B) b:=dJ.2 (.inl h)
theorem zws:cp (fP A N B) A.b:=⟨_,List.mem_of_getElem? (i:=7) rfl,List.mem_singleton.2 rfl⟩
theorem zqR (hN:Has w (fP A N B))(hO:eZ m N)(hB:gq B)(ha:N.role.aE=false)(hm:m+33≤50000000)(hE:bF w E q Hq)(hq:d7 (fP A N B) q) :
  aa prog 200 #[.pointer (some ⟨A.n,0,none⟩)] w fun v w'=>v=.tuple #[.bool (N.claim B).1.1,gC E (N.claim B).1.2]∧ak w w' (fP A N B) (fP A (N.claim B).2.1 (N.claim B).2.2):=by
 have ef:∀b,cp (fP A N B) b→q≤b:=hq;refine zN func200 ntmps200 ?_;have hS:=hN.start;refine hS.lD 0 ?_;refine hS.cn (RE (hS.blk 1 rfl) hO.role (hE.sub rfl)) fun w2 hS=>?_
 by_cases j8:N.role.next.2=0
 case neg =>
  obtain⟨j,hj⟩:∃j,N.role.next.2=j+1:=⟨N.role.next.2-1,by omega⟩;rw[show N.claim B=((false,0),N,B) from if_pos j8,hj];refine zE ?_;exact⟨rfl,hS.turns⟩
 have il:=bN.jj ha j8;have gQ:=bN.lK hO.role j8;rw[j8];have kZ:=hS.ne 0 2 rfl rfl zd;have nv:=hS.ne 0 7 rfl rfl zd;(conv=>whnf);refine hS.dr [] (fun b=>b=A.b∨b=A.c) [0,1,2,3,4,5,6,7,8,9,10,11] fun w1 hS=>?_
 have hK:=hS.ref (fun b=>b=A.b∨b=A.c);repeat' ((conv=>whnf);first|refine hS.bU 0 rfl rfl (fun h=>h.elim nv kZ) ?_)
 refine(uI (hS.blk 2 rfl)).mono ?_;rintro v w3 ⟨rfl,hx⟩;replace hS:=hS.no hx;replace hK:=hK.trans hx.aF;refine ae.mk hK ?_;refine(Tj N.role.next.1 N.cell.li (hS.blk 2 rfl) (hS.blk 7 rfl) hB hO.num ((hE.ext hS.ext ef).sub rfl) (ef A.b zws) (ef A.c (EO zwt))).mono ?_;rintro v w4 ⟨rfl,hx,gK,u5⟩;have jG:=hS.dv [7,2,0,1,3,4,5,6] zd;have eE:=(Ev.St.vL jG hx (by simp[blk]) (eh _ _ _) gK rfl (eh _ _ _) u5 rfl).dv [2,3,1,4,5,6,7,0] zd;replace hK:=hK.trans hx;refine ae.mk hK ?_;by_cases hp:(N.cell.put B N.role.next.1 N.cell.li).1=0
 case neg =>
  obtain⟨j,hj⟩:∃j,(N.cell.put B N.role.next.1 N.cell.li).1=j+1:=⟨(N.cell.put B N.role.next.1 N.cell.li).1-1,by omega⟩
  rw[show N.claim B=((false,(N.cell.put B N.role.next.1 N.cell.li).1),{ N with cell:=(N.cell.put B N.role.next.1 N.cell.li).2.2 },(N.cell.put B N.role.next.1 N.cell.li).2.1) by
   unfold NodeS.claim;rw[if_neg (fun h=>h j8),if_pos hp],hj]
  refine zE ?_;exact⟨rfl,St.turns eE⟩
 rw[show N.claim B=((true,0),{ N with cell:=(N.cell.put B N.role.next.1 N.cell.li).2.2,role:=(N.role.claim N.role.next.1).2,aL:=qF N.now N.aL (lO N.fu.cells) },(N.cell.put B N.role.next.1 N.cell.li).2.1) by
  unfold NodeS.claim;rw[if_neg (fun h=>h j8),if_neg (fun h=>h hp)],hp]
 generalize (N.cell.put B N.role.next.1 N.cell.li).2=BC at eE ⊢;obtain⟨B2,C2⟩:=BC;have hS:St w (cp (fP A N B)) w4 (fP A { N with cell:=C2 } B2):=eE;refine hS.lD 0 ?_;refine(zpj N.role.next.1 (hS.blk 1 rfl) hO.role ((hE.ext hS.ext ef).sub rfl) (ef A.r (EO zwu))).mono ?_;rintro v w' ⟨rfl,hx,hB⟩;replace hS:=hS.uB 1 hx hB;rw[show(N.role.claim N.role.next.1).1=0 by rw[il]];refine hS.lD 0 ?_;refine(zsZ (hS.blk 5 rfl) hO.fu).mono ?_;rintro v w' ⟨a,c,rfl,hx,ho,hf⟩;replace hS:=hS.made hx fq ho (fun g hg=>hf g (by simpa[az,own]using hg));have hlen:=Eg N.fu.cells;rw[hO.fu]at hlen;generalize lO N.fu.cells=l at hS hlen ⊢;generalize (N.role.claim N.role.next.1).2=r2 at hS ⊢;have jq:=hO.n0;have Dh:=hO.n1
 refine d5 aj (fun σ w' q=>∃k:Nat,σ=[(49,.int .i64 k),(48,.int .i64 l.length),(47,.slice a l.length c),(0,.pointer (some ⟨A.n,0,none⟩))]∧q=l.length-k∧k≤l.length∧St w (cp (fP A N B)) w' (fP A { N with cell:=C2,role:=r2,aL:=qF N.now N.aL (l.take k) } B2++[az 216 8 dW (.slice a l.length c) l]))
  (σ':=[(49,.int .i64 ((0:Nat):Int)),(48,.int .i64 l.length),(47,.slice a l.length c),(0,.pointer (some ⟨A.n,0,none⟩))]) (n:=l.length) zs ⟨0,rfl,rfl,Nat.zero_le _,hS⟩ ?_
 rintro _ w1 q' ⟨k,rfl,rfl,hk,hS⟩;apply aR<;>intro h3
 ·obtain⟨b0,o0,x,dB,_,rfl,kM,hc⟩:=(fE (G:=fun _=>True) BH (hS.get 8 rfl) (fun _ _=>trivial)).at (k:=k) zo;have aw:=Qi N.now N.aL dB;have sN:=G1 N.now (l.take k) hO.aL;have mU:(l.take k).length≤32:=by rw[List.length_take];omega
  generalize qF N.now N.aL (l.take k)=T at hS aw sN;refine ao.mk zo zo ?_;refine⟨dW x,rfl,hc,?_⟩;refine hS.new (fun bf w' rQ hS=>?_);refine hS.sT 9 fun w' hS=>?_
  have ee:=hS.ne 0 9 rfl rfl zd;have iY:=hS.ne 9 3 rfl rfl zd;have jF:=hS.ne 0 3 rfl rfl zd;have uA:=Bz x.proto x.state;refine M6 aj mixed [] (fun w1 w'=>Ext (· = bf) w1 w'∧∃y,bC w' bf 216 (dW { x with i5:=y })) [0,1,2,3,4,5,6,7,8,9,10,11] zk ?_;rintro w1 rfl;replace hS:=hS.drew;refine⟨⟨Ext.refl _ _,x.i5,hS.blk 9 rfl⟩,?_⟩;have hK:=hS.ref (· = bf);refine rI.imp (fun _ h=>h.1) (hS.bU 0 rfl rfl ee ?_);refine⟨.int .i64 x.proto,fun w' h=>by obtain⟨_,y,h⟩:=h;rw[h.cell];rfl,?_⟩;refine⟨.int .i64 x.state,fun w' h=>by obtain⟨_,y,h⟩:=h;rw[h.cell];rfl,?_⟩;refine(MS _ _ _).mono ?_;rintro v w' ⟨rfl,hx⟩;replace hS:=hS.no hx;replace hK:=hK.trans hx.aF;refine ae.mk ⟨hK,x.i5,hS.blk 9 rfl⟩ ?_;refine ag.mk (by dsimp only;omega) (by dsimp only;omega) ?_;refine hS.kD hK 9 rfl zl rfl rfl (fun w' hK hS=>ae.mk ⟨hK,N.now+lW x.proto x.state,hS.blk 9 rfl⟩ ?_);(conv=>whnf);refine hS.dr [] (fun b=>b=A.t) [0,1,2,3,4,5,6,7,8] fun w1 hS=>?_
  repeat' ((conv=>whnf);first|refine hS.fK 9 rfl rfl iY ?_|refine hS.bU 0 rfl rfl jF ?_)
  refine(zxJ { x with i5:=N.now+lW x.proto x.state } (hS.blk 3 rfl) sN.len (sN.qz zo) ((hE.ext hS.ext ef).sub rfl) (ef A.t (EO Tq))).mono ?_;rintro v w' ⟨rfl,hx,hB⟩;refine ae.mk hx ?_;replace hS:=hS.uB 3 hx hB;rw[←aw]at hS;refine ag.mk zo zo ?_;refine aD.mk ⟨_,[(49,.int .i64 ((k+1:Nat):Int)),(48,_),(47,_),(0,_)],?_,zs,⟨k+1,rfl,rfl,by omega,hS.keep 9⟩⟩;omega
 ·obtain rfl:k=l.length:=by omega
  rw[List.take_length]at hS;refine zE ?_;exact⟨rfl,St.turns (hS.keep 8)⟩
end
structure bW where
 bP:Int
 au:Int
 ah:Int
 claim:Bool
 a:Option Addr
 n:Nat
 c:Nat
def bA (x:bW):List Value:=[.int .i64 x.bP,.int .i64 x.au,.int .i64 x.ah,.bool x.claim,.slice x.a x.n x.c]
theorem dA:cR 5 bA:=⟨fun _=>rfl,fun _=>rfl,by decide⟩
def fw:bW:=⟨0,0,0,false,none,0,0⟩
def fV (x:Option Addr)(y:Nat)(n:bE):bW:=⟨n.bP,n.au,n.ah,n.claim,if n.claim=true then none else x,n.cells.length,if n.claim=true then 0 else y⟩
def kE (l:List bE):List ax:=l.flatMap (·.cells)
def ye (a:Option Addr)(c:Nat)(x:Option Addr)(y:Nat)(l:List bE):List bZ:=[az 273 5 bA (.slice a (l.map (fV x y)).length c) (l.map (fV x y)),az 218 10 bV (.slice x (kE l).length y) (kE l)]
theorem Ev.St.bJ {α:Type}(h:St w0 S w H)(e:TypeId)(sz:Nat)(enc:α→List Value):St w0 S w (H++[az e sz enc (.slice none 0 0) []]) :=
 h.add fq (sf _ _ _) (by simp[az,own,Value.ownBlock]) (by simp[az,own,Value.ownBlock])
theorem Ev.St.high (h:St w0 S w H)(h1:∀b,S b→q≤b)(h2:q≤w0.heap.size):d7 H q:=fun b ⟨e,he,hb⟩=>(h.may e he b hb).1.elim (h1 b) (fun h=>Nat.le_trans h2 h)
theorem Ev.St.turned {H':List bZ}(h:St w0 S w H)(k:ak w w' H H'):St w0 S w' H':=by
 have:=St.call (B:=[]) (by simpa using h) k;simpa using this
theorem r6 (h:N.cS=false):N.notes false=([],N):=by
 unfold NodeS.notes;rw[h];rfl
theorem xO (h:N.cS=false):N.notes true=([⟨N.id,N.cell.li,N.role.ah,true,[]⟩],N):=by
 unfold NodeS.notes;rw[h];rfl
theorem uM {cl:Bool}(h:N.cS=true):N.notes cl=([⟨N.id,N.cell.li,N.role.ah,true,[]⟩,⟨N.id,N.cell.li,N.role.ah,false,fx N.aL.cells (N.dN.aY N.aL.cells)⟩],{ N with dN:=N.dN.next N.aL.cells }):=by
 unfold NodeS.notes;rw[h,if_pos (.inr rfl),if_pos rfl,if_pos rfl];rfl
section
theorem ztj (hN:Has w (fP A N B))(hO:eZ m N)(VM:gq B)(hm:m+34≤50000000)(hE:bF w E q Hq)(hq:d7 (fP A N B) q) :
  aa prog 148 #[.pointer (some ⟨A.n,0,none⟩)] w fun v w'=>∃a c x y,v=.tuple #[.slice a ((N.tick B).2.1.map (fV x y)).length c,gC E (N.tick B).1]∧ak w w' (fP A N B) (fP A (N.tick B).2.2.1 (N.tick B).2.2.2++ye a c x y (N.tick B).2.1):=by
 have ef:∀b,cp (fP A N B) b→q≤b:=hq
 have tH:q≤w.heap.size:=by
  have h1:=hq A.n (EO Tx);have h2:=hN.lt _ (List.mem_of_getElem? (i:=0) rfl) A.n (List.mem_singleton.2 rfl);omega
 have jq:=hO.n0;refine zN func148 ntmps148 ?_;have hS:=hN.start;refine hS.lD 0 ?_;apply aR<;>intro hn
 ·rw[show N.tick B=(2,[],N,B) from if_pos hn];(conv=>whnf);refine hS.dr [] No [0,1,2] fun w1 hS=>?_
  refine hS.cV (hE.at_ 2 rfl) (bF.out hE 2 rfl ef) id ?_;refine zE ?_;exact⟨none,0,none,0,rfl,St.turns ((hS.bJ 273 5 bA).bJ 218 10 bV)⟩
 refine hS.lD 0 ?_;refine ag.mk zo zo ?_;refine hS.sT 0 fun w' hS=>?_
 have xe:=hS.ne 0 3 rfl rfl zd;(conv=>whnf);refine hS.dr [] (fun b=>b=A.t) [0,1,2,3,4,5,6,7,8] fun w1 hS=>?_
 repeat' ((conv=>whnf);first|refine hS.bU 0 rfl rfl xe ?_)
 refine(zpr (N.now+1) (hS.blk 3 rfl) hO.aL zo ((hE.ext hS.ext ef).sub rfl) (ef A.t (EO Tq))).mono ?_;rintro v w' ⟨⟨a',c',rfl⟩,hx,gK,_,_⟩;refine ae.mk hx ?_;have hB:=gK;replace hS:=hS.uB 3 hx hB;refine hS.lD 0 ?_;refine(zrA (hS.blk 1 rfl) hO.role).mono ?_;rintro v w' ⟨rfl,hx,hB⟩;replace hS:=hS.uB 1 hx hB;replace hS:St w (cp (fP A N B)) w' (fP A N.step.2 B):=hS;have jk:=hO.step zo zo;clear hx hB gK;cases hs:N.role.tick.1
 ·have dG:=jk
  rw[show N.tick B=(0,(N.step.2.notes false).1,(N.step.2.notes false).2,B) by
   unfold NodeS.tick;rw[if_neg hn,if_neg (by rw[show N.step.1=N.role.tick.1 from rfl,hs];decide)]]
  generalize N.step.2=N2 at hS dG ⊢;(conv=>whnf);refine hS.ld 0 rfl rfl ?_;(conv=>whnf);refine(Aw (hS.blk 1 rfl)).mono ?_;rintro v w9 ⟨rfl,rfl⟩;replace hS:=hS.bJ 273 5 bA;cases iD:(N2).role.aE
  ·have gE:(N2).cS=false:=by
    unfold NodeS.cS;rw[iD];rfl
   repeat' ((conv=>whnf);first|apply aI.mk|refine bO.mk zd ?_|refine ag.mk zo zo ?_|refine ao.mk zo zo ?_|(first|apply aM|apply ca|apply cE|apply cD)<;>(intro))
   rw[r6 gE];exact⟨none,0,none,0,rfl,St.turns (hS.bJ 218 10 bV)⟩
  ·skip
   (conv=>whnf);refine hS.ld 0 rfl rfl ?_;refine bO.mk zd ?_;refine aM (fun hz=>?_) (fun hz=>?_)
   ·have gE:(N2).cS=true:=by
     unfold NodeS.cS;rw[iD,decide_eq_true hz];rfl
    (conv=>whnf);refine hS.dr [] No [0,1,2,3,4,5,6,7,8,10,11,12,13,9,14,15,16,17,18] fun w1 hS=>?_
    have hK:=hS.ref No;repeat' ((conv=>whnf);first|refine hS.bU 0 rfl rfl id ?_)
    refine(uI (hS.blk 2 rfl)).mono ?_;rintro v w' ⟨rfl,hx⟩;replace hS:=hS.no hx;replace hK:=hK.trans hx;refine ae.mk hK ?_;refine(vN (hS.blk 1 rfl)).mono ?_;rintro v w2 ⟨rfl,rfl⟩;refine ae.mk hK ?_;refine hS.fz underlying95 (sz:=5) zk (z:=.agg (bA fw).toArray) zk rfl rfl (cs:=bA ⟨(N2).id,(N2).cell.li,(N2).role.ah,true,none,0,0⟩) (by rfl) (fun b9 w3 jl hx hS=>?_);replace hK:=hK.trans hx;refine ae.mk hK ?_;refine hS.fR dA 8 (ys:=[⟨(N2).id,(N2).cell.li,(N2).role.ah,true,none,0,0⟩]) (G:=fun _=>True) underlying95 (bytes:=56) zk (z:=.agg (bA fw).toArray) zk rfl rfl (bQ.bG dA (hS.blk 9 rfl) rfl zi (fun _ _=>trivial) rfl) (by unfold maxLen;decide) zd (fun a1 c1 w4 hx hS=>?_);replace hK:=hK.trans (hx.mono fun q h=>by simp[Value.ownBlock]at h);refine ae.mk hK ?_;replace hS:=hS.keep 9;replace hS:St w (cp (fP A N B)) w4 (fP A (N2) (B)++[az 273 5 bA (.slice a1 1 c1) [⟨(N2).id,(N2).cell.li,(N2).role.ah,true,none,0,0⟩]]):=hS;(conv=>whnf);refine aM (fun _=>?_) (fun h=>absurd hz h);(conv=>whnf);have nw:=hS.ne 0 4 rfl rfl zd;have nV:¬(Value.slice a1 1 c1).ownBlock=some A.n:=fun h=>hS.bS 0 8 rfl rfl zd _ (List.mem_singleton.2 rfl) (by simp only[az,own];rw[h];simp)
    refine hS.dr [] (fun b=>b=A.x∨(Value.slice a1 1 c1).ownBlock=some b) [0,1,2,3,4,5,6,7,8,10,11,12,13,15,16,17,18,9,14,19,20,21,22,23] fun w1 hS=>?_
    have hK:=hS.ref (fun b=>b=A.x∨(Value.slice a1 1 c1).ownBlock=some b);repeat' ((conv=>whnf);first|refine hS.bU 0 rfl rfl (fun h=>h.elim nw nV) ?_)
    refine(uI (hS.blk 2 rfl)).mono ?_;rintro v w' ⟨rfl,hx⟩;replace hS:=hS.no hx;replace hK:=hK.trans hx.aF;refine ae.mk hK ?_;refine(vN (hS.blk 1 rfl)).mono ?_;rintro v w2 ⟨rfl,rfl⟩;refine ae.mk hK ?_;refine(LF (hS.blk 4 rfl) (hS.blk 3 rfl) dG.aL.len dG.told dG.cur).mono ?_;rintro v w' ⟨⟨x,y,rfl⟩,hx,hB,ho,hf⟩;replace hS:=hS.iS 4 rfl hx (fun c hc=>by subst hc;exact List.mem_singleton.2 rfl) (eh _ _ _) hB (fun c hc=>hc) fq ho (fun g hg=>hf g (by simpa[az,own]using hg));replace hK:=hK.trans (hx.mono fun b h=>.inl h);refine ae.mk hK ?_;refine hS.fz underlying95 (sz:=5) zk (z:=.agg (bA fw).toArray) zk rfl rfl (cs:=bA ⟨(N2).id,(N2).cell.li,(N2).role.ah,false,x,((N2).dN.aY (N2).aL.cells).length,y⟩) (by rfl) (fun b9 w3 jl hx hS=>?_);replace hK:=hK.trans hx.aF;refine ae.mk hK ?_;refine hS.fR dA 8 (ys:=[⟨(N2).id,(N2).cell.li,(N2).role.ah,false,x,((N2).dN.aY (N2).aL.cells).length,y⟩]) (G:=fun _=>True) underlying95 (bytes:=56) zk (z:=.agg (bA fw).toArray) zk rfl rfl (bQ.bG dA (hS.blk 10 rfl) rfl zi (fun _ _=>trivial) rfl) (by unfold maxLen;show 1+1≤_;decide) (by show(1+1)*56≤_;decide) (fun a2 c2 w4 hx hS=>?_);replace hK:=hK.trans (hx.mono fun q h=>.inr h);refine ae.mk hK ?_;replace hS:=hS.keep 10;repeat' first|refine zP ?_|apply aR<;>intro
    rw[uM gE]
    replace hS:St w (cp (fP A N B)) w4 (fP A { (N2) with dN:=(N2).dN.next (N2).aL.cells } (B)++ye a2 c2 x y [⟨(N2).id,(N2).cell.li,(N2).role.ah,true,[]⟩,⟨(N2).id,(N2).cell.li,(N2).role.ah,false,fx (N2).aL.cells ((N2).dN.aY (N2).aL.cells)⟩]):=by
     have hc:kE [⟨(N2).id,(N2).cell.li,(N2).role.ah,true,[]⟩,⟨(N2).id,(N2).cell.li,(N2).role.ah,false,fx (N2).aL.cells ((N2).dN.aY (N2).aL.cells)⟩]=fx (N2).aL.cells ((N2).dN.aY (N2).aL.cells):=by simp[kE]
     have hv:[(⟨(N2).id,(N2).cell.li,(N2).role.ah,true,[]⟩:bE),⟨(N2).id,(N2).cell.li,(N2).role.ah,false,fx (N2).aL.cells ((N2).dN.aY (N2).aL.cells)⟩].map (fV x y)=[⟨(N2).id,(N2).cell.li,(N2).role.ah,true,none,0,0⟩,⟨(N2).id,(N2).cell.li,(N2).role.ah,false,x,((N2).dN.aY (N2).aL.cells).length,y⟩]:=by simp[fV,kp]
     unfold ye;rw[hc,hv,kp];exact hS
    exact⟨a2,c2,x,y,rfl,St.turns hS⟩
   ·have gE:(N2).cS=false:=by
     unfold NodeS.cS;rw[decide_eq_false hz,Bool.and_false]
    (conv=>whnf);refine aM (fun h=>absurd h hz) (fun _=>?_);refine zE ?_;rw[r6 gE];exact⟨none,0,none,0,rfl,St.turns (hS.bJ 218 10 bV)⟩
 ·have eE:N.step.1=true:=hs;refine(zqR hS.has jk VM (Gu eE) zo (hE.ext hS.ext ef) (hS.high ef tH)).mono ?_;rintro v w' ⟨rfl,ht⟩;replace hS:=hS.turned ht;have dG:=jk.claim (Gu eE) B
  rw[show N.tick B=if (N.step.2.claim B).1.2≠0 then ((N.step.2.claim B).1.2,[],(N.step.2.claim B).2.1,(N.step.2.claim B).2.2) else (0,((N.step.2.claim B).2.1.notes (N.step.2.claim B).1.1).1,((N.step.2.claim B).2.1.notes (N.step.2.claim B).1.1).2,(N.step.2.claim B).2.2) by
   unfold NodeS.tick;rw[if_neg hn,if_pos eE]]
  generalize N.step.2.claim B=R at hS dG ⊢;obtain⟨⟨cl,e⟩,N2,B2⟩:=R;replace dG:eZ (m+1+33) N2:=dG;cases e with
  | succ j =>
   rw[if_pos (show((cl,j+1),N2,B2).1.2≠0 by simp)];refine zE ?_;exact⟨none,0,none,0,rfl,St.turns ((hS.bJ 273 5 bA).bJ 218 10 bV)⟩
  | zero =>
   rw[if_neg (show ¬((cl,0),N2,B2).1.2≠0 by simp)];dsimp only;cases cl
   ·skip
    refine hS.lD 0 ?_;refine(Aw (hS.blk 1 rfl)).mono ?_;rintro v w9 ⟨rfl,rfl⟩;replace hS:=hS.bJ 273 5 bA;cases iD:(N2).role.aE
    ·have gE:(N2).cS=false:=by
      unfold NodeS.cS;rw[iD];rfl
     refine zE ?_;rw[r6 gE];exact⟨none,0,none,0,rfl,St.turns (hS.bJ 218 10 bV)⟩
    ·skip
     refine hS.lD 0 ?_;refine bO.mk zd ?_;refine aM (fun hz=>?_) (fun hz=>?_)
     ·have gE:(N2).cS=true:=by
       unfold NodeS.cS;rw[iD,decide_eq_true hz];rfl
      (conv=>whnf);refine hS.dr [] No [0,1,2,3,4,5,6,7,8,10,11,12,13,9,14,15,16,17,18] fun w1 hS=>?_
      have hK:=hS.ref No;repeat' ((conv=>whnf);first|refine hS.bU 0 rfl rfl id ?_)
      refine(uI (hS.blk 2 rfl)).mono ?_;rintro v w' ⟨rfl,hx⟩;replace hS:=hS.no hx;replace hK:=hK.trans hx;refine ae.mk hK ?_;refine(vN (hS.blk 1 rfl)).mono ?_;rintro v w2 ⟨rfl,rfl⟩;refine ae.mk hK ?_;refine hS.fz underlying95 (sz:=5) zk (z:=.agg (bA fw).toArray) zk rfl rfl (cs:=bA ⟨(N2).id,(N2).cell.li,(N2).role.ah,true,none,0,0⟩) (by rfl) (fun b9 w3 jl hx hS=>?_);replace hK:=hK.trans hx;refine ae.mk hK ?_;refine hS.fR dA 8 (ys:=[⟨(N2).id,(N2).cell.li,(N2).role.ah,true,none,0,0⟩]) (G:=fun _=>True) underlying95 (bytes:=56) zk (z:=.agg (bA fw).toArray) zk rfl rfl (bQ.bG dA (hS.blk 9 rfl) rfl zi (fun _ _=>trivial) rfl) (by unfold maxLen;decide) zd (fun a1 c1 w4 hx hS=>?_);replace hK:=hK.trans (hx.mono fun q h=>by simp[Value.ownBlock]at h);refine ae.mk hK ?_;replace hS:=hS.keep 9;replace hS:St w (cp (fP A N B)) w4 (fP A (N2) (B2)++[az 273 5 bA (.slice a1 1 c1) [⟨(N2).id,(N2).cell.li,(N2).role.ah,true,none,0,0⟩]]):=hS;(conv=>whnf);refine aM (fun _=>?_) (fun h=>absurd hz h);(conv=>whnf);have nw:=hS.ne 0 4 rfl rfl zd;have nV:¬(Value.slice a1 1 c1).ownBlock=some A.n:=fun h=>hS.bS 0 8 rfl rfl zd _ (List.mem_singleton.2 rfl) (by simp only[az,own];rw[h];simp)
      refine hS.dr [] (fun b=>b=A.x∨(Value.slice a1 1 c1).ownBlock=some b) [0,1,2,3,4,5,6,7,8,10,11,12,13,15,16,17,18,9,14,19,20,21,22,23] fun w1 hS=>?_
      have hK:=hS.ref (fun b=>b=A.x∨(Value.slice a1 1 c1).ownBlock=some b);repeat' ((conv=>whnf);first|refine hS.bU 0 rfl rfl (fun h=>h.elim nw nV) ?_)
      refine(uI (hS.blk 2 rfl)).mono ?_;rintro v w' ⟨rfl,hx⟩;replace hS:=hS.no hx;replace hK:=hK.trans hx.aF;refine ae.mk hK ?_;refine(vN (hS.blk 1 rfl)).mono ?_;rintro v w2 ⟨rfl,rfl⟩;refine ae.mk hK ?_;refine(LF (hS.blk 4 rfl) (hS.blk 3 rfl) dG.aL.len dG.told dG.cur).mono ?_;rintro v w' ⟨⟨x,y,rfl⟩,hx,hB,ho,hf⟩;replace hS:=hS.iS 4 rfl hx (fun c hc=>by subst hc;exact List.mem_singleton.2 rfl) (eh _ _ _) hB (fun c hc=>hc) fq ho (fun g hg=>hf g (by simpa[az,own]using hg));replace hK:=hK.trans (hx.mono fun b h=>.inl h);refine ae.mk hK ?_;refine hS.fz underlying95 (sz:=5) zk (z:=.agg (bA fw).toArray) zk rfl rfl (cs:=bA ⟨(N2).id,(N2).cell.li,(N2).role.ah,false,x,((N2).dN.aY (N2).aL.cells).length,y⟩) (by rfl) (fun b9 w3 jl hx hS=>?_);replace hK:=hK.trans hx.aF;refine ae.mk hK ?_;refine hS.fR dA 8 (ys:=[⟨(N2).id,(N2).cell.li,(N2).role.ah,false,x,((N2).dN.aY (N2).aL.cells).length,y⟩]) (G:=fun _=>True) underlying95 (bytes:=56) zk (z:=.agg (bA fw).toArray) zk rfl rfl (bQ.bG dA (hS.blk 10 rfl) rfl zi (fun _ _=>trivial) rfl) (by unfold maxLen;show 1+1≤_;decide) (by show(1+1)*56≤_;decide) (fun a2 c2 w4 hx hS=>?_);replace hK:=hK.trans (hx.mono fun q h=>.inr h);refine ae.mk hK ?_;replace hS:=hS.keep 10;repeat' first|refine zP ?_|apply aR<;>intro
      rw[uM gE]
      replace hS:St w (cp (fP A N B)) w4 (fP A { (N2) with dN:=(N2).dN.next (N2).aL.cells } (B2)++ye a2 c2 x y [⟨(N2).id,(N2).cell.li,(N2).role.ah,true,[]⟩,⟨(N2).id,(N2).cell.li,(N2).role.ah,false,fx (N2).aL.cells ((N2).dN.aY (N2).aL.cells)⟩]):=by
       have hc:kE [⟨(N2).id,(N2).cell.li,(N2).role.ah,true,[]⟩,⟨(N2).id,(N2).cell.li,(N2).role.ah,false,fx (N2).aL.cells ((N2).dN.aY (N2).aL.cells)⟩]=fx (N2).aL.cells ((N2).dN.aY (N2).aL.cells):=by simp[kE]
       have hv:[(⟨(N2).id,(N2).cell.li,(N2).role.ah,true,[]⟩:bE),⟨(N2).id,(N2).cell.li,(N2).role.ah,false,fx (N2).aL.cells ((N2).dN.aY (N2).aL.cells)⟩].map (fV x y)=[⟨(N2).id,(N2).cell.li,(N2).role.ah,true,none,0,0⟩,⟨(N2).id,(N2).cell.li,(N2).role.ah,false,x,((N2).dN.aY (N2).aL.cells).length,y⟩]:=by simp[fV,kp]
       unfold ye;rw[hc,hv,kp];exact hS
      exact⟨a2,c2,x,y,rfl,St.turns hS⟩
     ·have gE:(N2).cS=false:=by
       unfold NodeS.cS;rw[decide_eq_false hz,Bool.and_false]
      (conv=>whnf);refine aM (fun h=>absurd h hz) (fun _=>?_);refine zE ?_;rw[r6 gE];exact⟨none,0,none,0,rfl,St.turns (hS.bJ 218 10 bV)⟩
   ·skip
    refine hS.lD 0 ?_;refine(Aw (hS.blk 1 rfl)).mono ?_;rintro v w9 ⟨rfl,rfl⟩;replace hS:=hS.bJ 273 5 bA;cases iD:(N2).role.aE
    ·have gE:(N2).cS=false:=by
      unfold NodeS.cS;rw[iD];rfl
     (conv=>whnf);refine hS.dr [] No [0,1,2,3,4,5,6,7,8,10,11,12,13,9,14,15,16,17,18] fun w1 hS=>?_
     have hK:=hS.ref No;repeat' ((conv=>whnf);first|refine hS.bU 0 rfl rfl id ?_)
     refine(uI (hS.blk 2 rfl)).mono ?_;rintro v w' ⟨rfl,hx⟩;replace hS:=hS.no hx;replace hK:=hK.trans hx;refine ae.mk hK ?_;refine(vN (hS.blk 1 rfl)).mono ?_;rintro v w2 ⟨rfl,rfl⟩;refine ae.mk hK ?_;refine hS.fz underlying95 (sz:=5) zk (z:=.agg (bA fw).toArray) zk rfl rfl (cs:=bA ⟨(N2).id,(N2).cell.li,(N2).role.ah,true,none,0,0⟩) (by rfl) (fun b9 w3 jl hx hS=>?_);replace hK:=hK.trans hx;refine ae.mk hK ?_;refine hS.fR dA 8 (ys:=[⟨(N2).id,(N2).cell.li,(N2).role.ah,true,none,0,0⟩]) (G:=fun _=>True) underlying95 (bytes:=56) zk (z:=.agg (bA fw).toArray) zk rfl rfl (bQ.bG dA (hS.blk 9 rfl) rfl zi (fun _ _=>trivial) rfl) (by unfold maxLen;decide) zd (fun a1 c1 w4 hx hS=>?_);replace hK:=hK.trans (hx.mono fun q h=>by simp[Value.ownBlock]at h);refine ae.mk hK ?_;replace hS:=hS.keep 9;refine zE ?_;rw[xO gE];exact⟨a1,c1,none,0,rfl,St.turns (hS.bJ 218 10 bV)⟩
    ·skip
     refine hS.lD 0 ?_;refine bO.mk zd ?_;by_cases hz:(N2).now.tmod 3=0
     ·have gE:(N2).cS=true:=by
       unfold NodeS.cS;rw[iD,decide_eq_true hz];rfl
      (conv=>whnf);refine hS.dr [] No [0,1,2,3,4,5,6,7,8,10,11,12,13,9,14,15,16,17,18] fun w1 hS=>?_
      have hK:=hS.ref No;repeat' ((conv=>whnf);first|refine hS.bU 0 rfl rfl id ?_)
      refine(uI (hS.blk 2 rfl)).mono ?_;rintro v w' ⟨rfl,hx⟩;replace hS:=hS.no hx;replace hK:=hK.trans hx;refine ae.mk hK ?_;refine(vN (hS.blk 1 rfl)).mono ?_;rintro v w2 ⟨rfl,rfl⟩;refine ae.mk hK ?_;refine hS.fz underlying95 (sz:=5) zk (z:=.agg (bA fw).toArray) zk rfl rfl (cs:=bA ⟨(N2).id,(N2).cell.li,(N2).role.ah,true,none,0,0⟩) (by rfl) (fun b9 w3 jl hx hS=>?_);replace hK:=hK.trans hx;refine ae.mk hK ?_;refine hS.fR dA 8 (ys:=[⟨(N2).id,(N2).cell.li,(N2).role.ah,true,none,0,0⟩]) (G:=fun _=>True) underlying95 (bytes:=56) zk (z:=.agg (bA fw).toArray) zk rfl rfl (bQ.bG dA (hS.blk 9 rfl) rfl zi (fun _ _=>trivial) rfl) (by unfold maxLen;decide) zd (fun a1 c1 w4 hx hS=>?_);replace hK:=hK.trans (hx.mono fun q h=>by simp[Value.ownBlock]at h);refine ae.mk hK ?_;replace hS:=hS.keep 9;replace hS:St w (cp (fP A N B)) w4 (fP A (N2) (B2)++[az 273 5 bA (.slice a1 1 c1) [⟨(N2).id,(N2).cell.li,(N2).role.ah,true,none,0,0⟩]]):=hS;(conv=>whnf);refine aM (fun _=>?_) (fun h=>absurd hz h);(conv=>whnf);have nw:=hS.ne 0 4 rfl rfl zd;have nV:¬(Value.slice a1 1 c1).ownBlock=some A.n:=fun h=>hS.bS 0 8 rfl rfl zd _ (List.mem_singleton.2 rfl) (by simp only[az,own];rw[h];simp)
      refine hS.dr [] (fun b=>b=A.x∨(Value.slice a1 1 c1).ownBlock=some b) [0,1,2,3,4,5,6,7,8,10,11,12,13,15,16,17,18,9,14,19,20,21,22,23] fun w1 hS=>?_
      have hK:=hS.ref (fun b=>b=A.x∨(Value.slice a1 1 c1).ownBlock=some b);repeat' ((conv=>whnf);first|refine hS.bU 0 rfl rfl (fun h=>h.elim nw nV) ?_)
      refine(uI (hS.blk 2 rfl)).mono ?_;rintro v w' ⟨rfl,hx⟩;replace hS:=hS.no hx;replace hK:=hK.trans hx.aF;refine ae.mk hK ?_;refine(vN (hS.blk 1 rfl)).mono ?_;rintro v w2 ⟨rfl,rfl⟩;refine ae.mk hK ?_;refine(LF (hS.blk 4 rfl) (hS.blk 3 rfl) dG.aL.len dG.told dG.cur).mono ?_;rintro v w' ⟨⟨x,y,rfl⟩,hx,hB,ho,hf⟩;replace hS:=hS.iS 4 rfl hx (fun c hc=>by subst hc;exact List.mem_singleton.2 rfl) (eh _ _ _) hB (fun c hc=>hc) fq ho (fun g hg=>hf g (by simpa[az,own]using hg));replace hK:=hK.trans (hx.mono fun b h=>.inl h);refine ae.mk hK ?_;refine hS.fz underlying95 (sz:=5) zk (z:=.agg (bA fw).toArray) zk rfl rfl (cs:=bA ⟨(N2).id,(N2).cell.li,(N2).role.ah,false,x,((N2).dN.aY (N2).aL.cells).length,y⟩) (by rfl) (fun b9 w3 jl hx hS=>?_);replace hK:=hK.trans hx.aF;refine ae.mk hK ?_;refine hS.fR dA 8 (ys:=[⟨(N2).id,(N2).cell.li,(N2).role.ah,false,x,((N2).dN.aY (N2).aL.cells).length,y⟩]) (G:=fun _=>True) underlying95 (bytes:=56) zk (z:=.agg (bA fw).toArray) zk rfl rfl (bQ.bG dA (hS.blk 10 rfl) rfl zi (fun _ _=>trivial) rfl) (by unfold maxLen;show 1+1≤_;decide) (by show(1+1)*56≤_;decide) (fun a2 c2 w4 hx hS=>?_);replace hK:=hK.trans (hx.mono fun q h=>.inr h);refine ae.mk hK ?_;replace hS:=hS.keep 10;refine zE ?_;rw[uM gE]
      replace hS:St w (cp (fP A N B)) w4 (fP A { (N2) with dN:=(N2).dN.next (N2).aL.cells } (B2)++ye a2 c2 x y [⟨(N2).id,(N2).cell.li,(N2).role.ah,true,[]⟩,⟨(N2).id,(N2).cell.li,(N2).role.ah,false,fx (N2).aL.cells ((N2).dN.aY (N2).aL.cells)⟩]):=by
       have hc:kE [⟨(N2).id,(N2).cell.li,(N2).role.ah,true,[]⟩,⟨(N2).id,(N2).cell.li,(N2).role.ah,false,fx (N2).aL.cells ((N2).dN.aY (N2).aL.cells)⟩]=fx (N2).aL.cells ((N2).dN.aY (N2).aL.cells):=by simp[kE]
       have hv:[(⟨(N2).id,(N2).cell.li,(N2).role.ah,true,[]⟩:bE),⟨(N2).id,(N2).cell.li,(N2).role.ah,false,fx (N2).aL.cells ((N2).dN.aY (N2).aL.cells)⟩].map (fV x y)=[⟨(N2).id,(N2).cell.li,(N2).role.ah,true,none,0,0⟩,⟨(N2).id,(N2).cell.li,(N2).role.ah,false,x,((N2).dN.aY (N2).aL.cells).length,y⟩]:=by simp[fV,kp]
       unfold ye;rw[hc,hv,kp];exact hS
      exact⟨a2,c2,x,y,rfl,St.turns hS⟩
     ·have gE:(N2).cS=false:=by
       unfold NodeS.cS;rw[decide_eq_false hz,Bool.and_false]
      (conv=>whnf);refine hS.dr [] No [0,1,2,3,4,5,6,7,8,10,11,12,13,9,14,15,16,17,18] fun w1 hS=>?_
      have hK:=hS.ref No;repeat' ((conv=>whnf);first|refine hS.bU 0 rfl rfl id ?_)
      refine(uI (hS.blk 2 rfl)).mono ?_;rintro v w' ⟨rfl,hx⟩;replace hS:=hS.no hx;replace hK:=hK.trans hx;refine ae.mk hK ?_;refine(vN (hS.blk 1 rfl)).mono ?_;rintro v w2 ⟨rfl,rfl⟩;refine ae.mk hK ?_;refine hS.fz underlying95 (sz:=5) zk (z:=.agg (bA fw).toArray) zk rfl rfl (cs:=bA ⟨(N2).id,(N2).cell.li,(N2).role.ah,true,none,0,0⟩) (by rfl) (fun b9 w3 jl hx hS=>?_);replace hK:=hK.trans hx;refine ae.mk hK ?_;refine hS.fR dA 8 (ys:=[⟨(N2).id,(N2).cell.li,(N2).role.ah,true,none,0,0⟩]) (G:=fun _=>True) underlying95 (bytes:=56) zk (z:=.agg (bA fw).toArray) zk rfl rfl (bQ.bG dA (hS.blk 9 rfl) rfl zi (fun _ _=>trivial) rfl) (by unfold maxLen;decide) zd (fun a1 c1 w4 hx hS=>?_);replace hK:=hK.trans (hx.mono fun q h=>by simp[Value.ownBlock]at h);refine ae.mk hK ?_;replace hS:=hS.keep 9;refine aM (fun h=>absurd h hz) (fun _=>?_);refine zE ?_;rw[xO gE];exact⟨a1,c1,none,0,rfl,St.turns (hS.bJ 218 10 bV)⟩
end
theorem Ev.bQ.qP {α:Type}   {sz:Nat}{enc:α→List Value}{G:α→Prop}  {xs:List α}(h:bQ w sz enc G a n xs)(hx:Ext S w w')(hS:0<n→∀b o,a=some ⟨b,o,none⟩→¬S b):bQ w' sz enc G a n xs:=by
 rcases Nat.eq_zero_or_pos n with h0|h0
 ·subst h0;obtain rfl:xs=[]:=List.length_eq_zero_iff.1 h.len;exact⟨h.len,h.max,fun k x hk=>by simp at hk,h.lg⟩
 ·exact h.ext hx (hS h0)
section
theorem RB {G:RuleS→Prop}  {c:Nat}{xs:List RuleS}(hx:bQ w 5 eW G a n xs)(hn:n≤1000) :
  aa prog 33 #[.slice a n c] w fun v w'=>∃a' c',v=.slice a' n c'∧Ext No w w'∧(az 58 5 eW v xs).holds w'∧m7 w w' v:=by
 have hl:=hx.len;refine zN func33 ntmps33 ?_;have hS:=St.start w No;cases a with
 | none =>
  have jq:n=0:=by
   rcases Nat.eq_zero_or_pos n with h|h
   ·exact h
   ·obtain⟨_,_,_,_,_,h,_⟩:=hx.at h;cases h
  subst jq;obtain rfl:xs=[]:=List.length_eq_zero_iff.1 hl;refine zE ?_;have hS:=hS.bJ 58 5 eW;exact⟨none,0,rfl,hS.ext,hS.get 0 rfl,hS.du 0 rfl⟩
 | some a0 =>
  refine hS.vE underlying22 (sz:=5) zk (fun b0 w1 hS=>?_);refine hS.d8 vY 0 (xs:=[]) underlying22 (bytes:=32) zk (z:=.agg (eW HL).toArray) zk rfl rfl (hx.no hS.ext) (by unfold maxLen;simp;omega) (by simp;omega) (fun a' c' w' hS=>?_);refine zE ?_;have jq:([]:List RuleS).length+n=n:=by simp
  rw[jq]at hS ⊢;exact⟨a',c',rfl,hS.ext,hS.get 0 rfl,hS.du 0 rfl⟩
theorem zti {G:ax→Prop}(x:bW)(cs:List ax)(hx:bQ w 10 bV G x.a x.n cs)(eF:0<x.n→∀b0 o0,x.a=some ⟨b0,o0,none⟩→¬cp (fj A N) b0)(hN:Has w (fj A N))(hO:eZ m N)(hE:bF w E q Hq)(hq:d7 (fj A N) q) :
  aa prog 144 #[.pointer (some ⟨A.n,0,none⟩),.agg (bA x).toArray] w fun v w'=>v=gC E (N.hear ⟨x.bP,x.au,x.ah,x.claim,cs⟩).1∧ak w w' (fj A N) (fj A (N.hear ⟨x.bP,x.au,x.ah,x.claim,cs⟩).2):=by
 have ef:∀b,cp (fj A N) b→q≤b:=hq;have hid:=hO.id;refine zN func144 ntmps144 ?_;have hS:=hN.start;refine hS.new (fun bx w' yL hS=>?_);(conv=>whnf)
 (refine ir aj mixed [] No [0,1,2,3,4,5,6,7,8,9,10,11,12,13,14,15,16,17,18] zk ?_;rintro w1 rfl;replace hS:=hS.drew)
 repeat' ((conv=>whnf);first|refine hS.bU 7 rfl rfl id ?_|refine hS.bU 0 rfl rfl id ?_|refine ag.mk zo zo ?_)
 have bound:∀{σ':Prop},σ'→σ':=fun h=>h
 generalize oq:(⟨x.bP,x.au,x.ah,x.claim,cs⟩:bE)=xs
 have lx:(x.bP≠1-N.id∨x.ah<0∨x.ah>1073741824)→N.hear xs=(2,N):=fun h=>by
  subst oq;exact if_pos h
 refine ca (fun h1=>?_) (fun h1=>?_)
 ·rw[lx (.inl h1)];repeat' first|refine zP ?_|refine hS.cK (hE.at_ 2 rfl) (bF.out hE 2 rfl ef) ?_
  exact⟨rfl,(hS.keep 7).turns⟩
 refine hS.bU 7 rfl rfl id ?_;apply aR<;>intro h2
 ·rw[lx (.inr (.inl h2))];repeat' first|refine zP ?_|refine hS.cK (hE.at_ 2 rfl) (bF.out hE 2 rfl ef) ?_
  exact⟨rfl,(hS.keep 7).turns⟩
 refine hS.bU 7 rfl rfl id ?_;apply aR<;>intro h3
 ·rw[lx (.inr (.inr h3))];repeat' first|refine zP ?_|refine hS.cK (hE.at_ 2 rfl) (bF.out hE 2 rfl ef) ?_
  exact⟨rfl,(hS.keep 7).turns⟩
 refine hS.ld 7 rfl rfl ?_;cases il:x.claim
 case true =>
  rw[show N.hear xs=(3,N) by subst oq;unfold NodeS.hear;rw[if_neg (by dsimp only;omega),if_pos il]];repeat' first|refine zP ?_|refine hS.cK (hE.at_ 3 rfl) (bF.out hE 3 rfl ef) ?_|apply aR<;>intro
  exact⟨rfl,(hS.keep 7).turns⟩
 have hh:N.hear xs=if (N.fu.tell x.au cs).1≠0 then ((N.fu.tell x.au cs).1,{ N with fu:=(N.fu.tell x.au cs).2 }) else (0,{ N with fu:=(N.fu.tell x.au cs).2,role:=(N.role.hear x.ah).2 }):=by
  subst oq;unfold NodeS.hear;rw[if_neg (by dsimp only;omega),if_neg (by show ¬x.claim=true;rw[il];decide)]
 have vk:=hS.ne 0 5 rfl rfl zd;have Dg:=hS.ne 7 5 rfl rfl zd;(conv=>whnf);refine hS.dr [] (fun b=>b=A.m) [0,1,2,3,4,5,6,7,8,9] fun w1 hS=>?_
 repeat' ((conv=>whnf);first|refine hS.bU 0 rfl rfl vk ?_|refine hS.bU 7 rfl rfl Dg ?_)
 refine(zxD x.au (hS.blk 5 rfl) hO.fu ((hE.ext hS.ext ef).sub rfl) (ef A.m Tw) (hx.qP hS.ext eF) (fun h b0 o0 ha hb=>eF h b0 o0 ha (hb ▸ Tw))).mono ?_;rintro v w' ⟨rfl,aU,hB⟩;refine ae.mk aU ?_;replace hS:=hS.uB 5 aU hB;rw[hh];generalize N.fu.tell x.au cs=R at hS ⊢;obtain⟨k,M⟩:=R;cases k with
 | succ j =>
  rw[if_pos (show((j+1,M):Nat × aC).1≠0 by simp)];refine zE ?_;exact⟨rfl,(hS.keep 7).turns⟩
 | zero =>
  rw[if_neg (show ¬((0,M):Nat × aC).1≠0 by simp)];have kZ:=hS.ne 0 1 rfl rfl zd;have nV:=hS.ne 7 1 rfl rfl zd;(conv=>whnf);refine hS.dr [] (fun b=>b=A.r) [0,1,2,3,4,5,6] fun w1 hS=>?_
  repeat' ((conv=>whnf);first|refine hS.bU 0 rfl rfl kZ ?_|refine hS.bU 7 rfl rfl nV ?_)
  refine(zrz x.ah (hS.blk 1 rfl)).mono ?_;rintro v w' ⟨rfl,aU,hB⟩;refine ae.mk aU ?_;replace hS:=hS.uB 1 aU hB;refine zE ?_;exact⟨rfl,(hS.keep 7).turns⟩
theorem ME {G:RuleS→Prop}  {c:Nat}{xs:List RuleS}(id:Int)(hid:id=0∨id=1)(hx:bQ w 5 eW G a n xs)(hn:n≤1000)(h0:(gg xs).1=0)(eF:0<n→∀b0 o0,a=some ⟨b0,o0,none⟩→b0≠b)
  (hb:bC w b 176 (dL B)) (hB:gq B) (W8:B.off=false) (hE:bF w E q Hq) (hq:q≤b) :
  aa prog 35 #[.int .i64 id,.pointer (some ⟨b,0,none⟩),.slice a n c] w fun v w' =>
   ((d6 id B xs).1=0∧∃A:ja,A.b=b∧v=.tuple #[.pointer (some ⟨A.n,0,none⟩),.nilIface]∧ak w w' [blk b 176 (dL B)] (fP A (d6 id B xs).2.1 (d6 id B xs).2.2)) ∨
   ((d6 id B xs).1≠0∧v=.tuple #[.pointer none,gC E (d6 id B xs).1]∧Ext (· = b) w w'∧bC w' b 176 (dL (d6 id B xs).2.2)):=by
 have hl:=hx.len;have hH:Has w [blk b 176 (dL B)]:=(St.sb hb).has
 have ez:∀d,cp [blk b 176 (dL B)] d→d=b:=fun d ⟨e,he,hd⟩=>by
  obtain rfl:=List.mem_singleton.1 he;exact List.mem_singleton.1 hd
 have ef:∀d,cp [blk b 176 (dL B)] d→q≤d:=fun d hd=>by rw[ez d hd];exact hq
 have tH:q≤w.heap.size:=Nat.le_trans hq (Nat.le_of_lt hb.lt);have Ov:0<n→∀b0 o0,a=some ⟨b0,o0,none⟩→¬cp [blk b 176 (dL B)] b0:=fun h b0 o0 ha hd=>eF h b0 o0 ha (ez _ hd)
 have hS:=hH.start;refine zN func35 ntmps35 ?_;refine(zxF id w hid).mono ?_;rintro v w1 ⟨bt,rfl,hb,aU,gK⟩;replace hS:=hS.made aU (eh _ _ _) gK (by simp[blk];exact⟨hb,gK.lt⟩);refine(G2 (hx.qP hS.ext Ov) ((hE.ext hS.ext ef).sub rfl)).mono ?_;rintro v w2 ⟨hF,aU⟩;replace hS:=hS.no aU
 obtain rfl:v=.nilIface:=by
  rw[h0]at hF;rcases hF with⟨_,h⟩|⟨_,h,_⟩
  ·exact h
  ·exact absurd h zd
 refine(zsO (hS.blk 0 rfl) hB.len W8).mono ?_;rintro v w3 ⟨bc,rfl,wR,aU,gK⟩;replace hS:=hS.made aU (eh _ _ _) gK (by simp[blk];exact⟨wR,gK.lt⟩);have tG:q≤bc:=hS.high ef tH bc ⟨_,List.mem_of_getElem? (i:=2) rfl,List.mem_singleton.2 rfl⟩;have aQ:=Hl B.data 2;generalize hC:cU B.data=C at hS;have aQ:C.num<4294967296∧C.ep<4294967296∧C.li<4294967296:=by rw[←hC];exact aQ
 refine hS.cn (Rn (hS.blk 2 rfl)) fun w4 hS=>?_
 refine hS.cn (uI (hS.blk 2 rfl)) fun w5 hS=>?_
 refine ag.mk zo zo ?_;refine(Tj C.ep (C.li+1) (hS.blk 2 rfl) (hS.blk 0 rfl) hB aQ.1 ((hE.ext hS.ext ef).sub rfl) hq tG).mono ?_;rintro v w6 ⟨rfl,aU,gK,u5⟩;have jG:=hS.dv [0,2,1] zd;have eE:=(Ev.St.vL jG aU (by simp[blk]) (eh _ _ _) gK rfl (eh _ _ _) u5 rfl).dv [0,2,1] zd;have fU:d6 id B xs=((C.put B C.ep (C.li+1)).1,.born id (C.put B C.ep (C.li+1)).2.2 xs,(C.put B C.ep (C.li+1)).2.1):=by rw[←hC];rfl
 have yX:=LV C B C.ep (C.li+1);rw[fU];generalize C.put B C.ep (C.li+1)=R at eE yX ⊢;obtain⟨k,B2,C2⟩:=R;have hS:St w (cp [blk b 176 (dL B)]) w6 [blk b 176 (dL B2),blk bt 251 (cP ⟨2000+id*24,ay⟩),blk bc 253 (mH b C2)]:=eE;dsimp only at yX ⊢;cases k with
 | succ j =>
  refine zE ?_;exact .inr ⟨Nat.succ_ne_zero j,rfl,hS.ext.mono ez,hS.blk 0 rfl⟩
 | zero =>
  obtain⟨he,_⟩:=yX rfl;refine hS.cn (Rn (hS.blk 2 rfl)) fun w7 hS=>?_
  refine(ztF id C2.ep _ hid zo zo).mono ?_;rintro v w8 ⟨br,rfl,lr,aU,gK⟩;replace hS:=hS.made aU (eh _ _ _) gK (by simp[blk];exact⟨lr,gK.lt⟩);refine(zva bt _).mono ?_;rintro v w9 ⟨bx,rfl,yL,aU,gK⟩;replace hS:=hS.made aU (eh _ _ _) gK (by simp[blk];exact⟨yL,gK.lt⟩);refine(zyy _).mono ?_;rintro v Au ⟨bm,rfl,CE,aU,gK⟩;replace hS:=hS.made aU (eh _ _ _) gK (by simp[blk];exact⟨CE,gK.lt⟩);refine(RB (hx.qP hS.ext Ov) hn).mono ?_;rintro v OS ⟨ra,rc,rfl,aU,ho,hf⟩;replace hS:=hS.made aU fq ho (fun g hg=>hf g (by simpa[az,own]using hg));refine hS.new (fun bn KH yJ hS=>?_)
  replace hS:St w (cp [blk b 176 (dL B)]) KH [blk b 176 (dL B2),blk bt 251 (cP ⟨2000+id*24,ay⟩),blk bc 253 (mH b C2),blk br 257 (k4 ⟨id,C2.ep,0,false⟩),blk bx 260 (i6 bt sx),blk bm 262 (cP ⟨0,ay⟩),az 58 5 eW (.slice ra n rc) xs,blk bn 192 (TB ⟨bn,br,bc,bt,bx,bm,b,ra,rc⟩ (.born id C2 xs))]:=by
   rw[show n=xs.length from hl.symm]at hS ⊢;exact hS
  have cT:=hS.dv [7,3,2,1,4,5,6,0] zd;refine zE ?_;refine .inl ⟨rfl,⟨bn,br,bc,bt,bx,bm,b,ra,rc⟩,rfl,rfl,?_⟩;rw[show n=xs.length from hl.symm]at cT;exact St.turns cT
theorem zv0 {id:Int}{C:dC}{xs:List RuleS}(hid:id=0∨id=1)(h1:C.num<4294967296)(h2:C.ep≤1073741824)(h3:C.li≤1073741824)(h0:(gg xs).1=0):eZ 0 (.born id C xs) :=
 ⟨hid,Int.le_refl _,by show(0:Int)≤_;decide,⟨hid,Int.natCast_nonneg _,by show(C.ep:Int)≤_;omega,Int.le_refl _,by show(0:Int)≤_;decide⟩,rfl,Int.le_refl _,h1,h2,h3,eo.empty _,rfl,by simp[NodeS.born,sx],by simp[NodeS.born,sx],uF,df.1 h0⟩
theorem Tv {id:Int}  {xs:List RuleS}(hid:id=0∨id=1)(hB:gq B)(h0:(gg xs).1=0):gq (d6 id B xs).2.2∧((d6 id B xs).1=0→eZ 0 (d6 id B xs).2.1):=by
 have aQ:=Hl B.data 2;refine⟨Tr _ _ _ _ hB,fun h=>?_⟩;have:=LV _ _ _ _ h;exact zv0 hid (LW _ _ _ _ aQ.1) this.1 this.2 h0
end
end
namespace Ev
variable [Gap.Leaps]
variable {i:Int}{q:IntKind}{B cs cur vs:List Value}{b c cap g j n o p sz:Nat}{a:Option Addr}{e t:TypeId}{k:Value→Prop}
variable {P:Program}{w w':World}
theorem BL {n':Nat}  {xs:List Value}(h:(own e sz (.slice a n' cap) n xs).holds w) :
  (a=none∧n'=0∧cap=0∧n=0∧xs=[])∨∃g cur,a=some ⟨g,0,none⟩∧n'=n∧bC w g e cur∧n≤cap∧cap≤maxLen∧cur.length=cap*sz∧cur.take (n*sz)=xs:=by
 obtain⟨h0,h⟩:=h;rcases h with⟨h1,h2⟩|⟨g,c,cur,h1,_,hb,hn,hm,hs,ht⟩
 ·simp only[Value.slice.injEq]at h1;obtain⟨rfl,rfl,rfl⟩:=h1;subst h2;exact .inl ⟨rfl,rfl,rfl,rfl,List.length_eq_zero_iff.1 (by rw[h0];simp)⟩
 ·simp only[Value.slice.injEq]at h1;obtain⟨rfl,rfl,rfl⟩:=h1;exact .inr ⟨g,cur.toList,rfl,rfl,by unfold bC;simpa using hb,hn,hm,by simpa using hs,ht⟩
theorem MJ {xs:List Value}(hb:bC w g e cur)(hn:n≤cap)(hm:cap≤maxLen)(hl:cur.length=cap*sz)(ht:cur.take (n*sz)=xs):(own e sz (.slice (some ⟨g,0,none⟩) n cap) n xs).holds w:=by
 refine⟨?_,.inr ⟨g,cap,cur.toArray,rfl,Nat.zero_le _,hb,hn,hm,by simpa using hl,by simpa using ht⟩⟩;rw[←ht,List.length_take,hl];exact Nat.min_eq_left (Nat.mul_le_mul_right sz hn)
theorem Lv {l:List Value}(hc:aH w b o l):(loadCells ⟨b,o,none⟩ l.length).run P w=.ok l.toArray w :=
 run_loadCells_list w ⟨b,o,none⟩ l (fun j v hj=>by rw[oZ];exact hc j v hj)
theorem zvR {m:Nat}{news:List Value}{k:Value→World→Prop}
  (hu:P.underlying t=some (.slice e)) (hs:(P.info? e).map (·.size)=some sz) (hb:bC w g e cur) (hc:aH w b o news) (hl:news.length=m*sz) (h1:news.all kG=true) (Dv:n+m≤cap) (j6:n*sz+news.length≤cur.length)
  (hk:k (.slice (some ⟨g,0,none⟩) (n+m) cap) (jT w g e (over cur (n*sz) news))) :
  dy P (Builtin.append_ #[t,t] 0 #[.slice (some ⟨g,0,none⟩) n cap,.slice (some ⟨b,o,none⟩) m c]) w k:=by
 obtain⟨i,hi,rfl⟩:=Option.map_eq_some_iff.1 hs;have hf:=Lv (P:=P) hc;rw[hl]at hf;have aX:=Gh (P:=P) g e news (n*i.size) 0 w cur hb (by simpa using h1) (by simpa using j6);refine .quiet (Gap.fA _ _ _) ?_ (show(jT w g e (over cur (n*i.size) news)).heap.size=w.heap.size by simp[jT]) rfl hk;simp[Builtin.append_,underlying,hu,sizeOf,typeInfo,hi,Builtin.lenOf,Dv,Builtin.firstCells,hf,oZ,aX]
theorem ZH (ts:Array TypeId)(t:TypeId)(xs:Array Value):Gap.Plain P (Builtin.clear_ ts t xs):=by
 unfold Builtin.clear_;split
 ·refine Gap.af (Gap.eV _) fun d=>?_
  split
  ·trivial
  ·trivial
  ·trivial
  ·exact fun o ho=>by
    cases o<;>first|exact⟨⟨rfl,rfl⟩,trivial⟩|trivial
  ·exact Gap.af (Gap.js _) fun z=>Gap.af (Gap.dK _ _ _) fun _=>trivial
  ·trivial
 ·trivial
theorem zsI {z:Value}{zs:List Value}{k:Value→World→Prop}
  (hu:P.underlying t=some (.slice e)) (hz:(P.info? e).bind (·.zero)=some z) (hb:bC w g e cur) (hn:0<n) (qn:(Builtin.zeroCells z.cells n).toList=zs) (h1:zs.all kG=true) (j6:o+zs.length≤cur.length)
  (hk:k (.tuple #[]) (jT w g e (over cur o zs))) :
  dy P (Builtin.clear_ #[t] 0 #[.slice (some ⟨g,o,none⟩) n c]) w k:=by
 obtain⟨q,rfl⟩:∃q,n=q+1:=⟨n-1,by omega⟩;have aX:=Gh (P:=P) g e zs o 0 w cur hb (by simpa using h1) (by simpa using j6);refine .quiet (ZH _ _ _) ?_ (show(jT w g e (over cur o zs)).heap.size=w.heap.size by simp[jT]) rfl hk;simp[Builtin.clear_,underlying,hu,L8 hz,qn,aX]
theorem HE {tr ty:TypeId}{dl dc o' sl sc:Nat}{news:List Value}{k:Value→World→Prop}
  (hu:P.underlying t=some (.slice e)) (hs:(P.info? e).map (·.size)=some sz) (hb:bC w g e cur) (hc:aH w b o' news) (hl:news.length=Nat.min sl dl*sz) (h1:news.all kG=true) (j6:o+news.length≤cur.length)
  (hk:k (goInt (Nat.min sl dl)) (jT w g e (over cur o news))) :
  dy P (Builtin.copy_ #[t,tr] ty #[.slice (some ⟨g,o,none⟩) dl dc,.slice (some ⟨b,o',none⟩) sl sc]) w k:=by
 obtain⟨i,hi,rfl⟩:=Option.map_eq_some_iff.1 hs;have hf:=Lv (P:=P) hc;rw[hl]at hf;have aX:=Gh (P:=P) g e news o 0 w cur hb (by simpa using h1) (by simpa using j6);refine .quiet (Gap.lL _ _ _) ?_ (show(jT w g e (over cur o news)).heap.size=w.heap.size by simp[jT]) rfl hk;simp[Builtin.copy_,underlying,hu,sizeOf,typeInfo,hi,Builtin.lenOf,Builtin.firstCells,hf,aX]
theorem zsy {tn:TypeId}{bytes m:Nat}{z:Value}{kq:IntKind}{y:Int}  {k:Value→World→Prop}
  (hu:P.underlying t=some (.slice e)) (Bn:P.underlying tn=some (.int .i64)) (hs:(P.info? e).map (fun i=>(i.size,i.bytes))=some (sz,bytes)) (hz:(P.info? e).bind (·.zero)=some z) (qn:z.cells.size=sz)
  (hb:bC w g e cur) (ux:n≤cap) (hl:cur.length=cap*sz) (hy:y=(m:Int)) (h0:0<m) (jG:0<sz) (uy:cap<n+m) (yD:n+m≤maxLen) (sU:(n+m)*bytes≤140737488355328)
  (hk:∀G iX Z w',Ext No w w'→w.heap.size≤G→bC w' G e (cur.take (n*sz)++Z)→n+m≤iX→iX≤maxLen→(cur.take (n*sz)++Z).length=iX*sz→k (.slice (some ⟨G,0,none⟩) (n+m) iX) w') :
  dy P (Builtin.append_ #[t,tn] 0 #[.slice (some ⟨g,0,none⟩) n cap,.int kq y]) w k:=by
 refine .kR (Gap.fA _ _ _) fun gn gd=>?_
 replace hb:=(Ext.ed No w gn gd).blk hb id;replace hk:=fun G iX Z w' (hx:Ext No (Gap.wgap w gn gd) w') (hG:(Gap.wgap w gn gd).heap.size≤G)=>hk G iX Z w' ((Ext.ed No w gn gd).trans hx) (Nat.le_trans (Ext.ed No w gn gd).size hG)
 generalize Gap.wgap w gn gd=w at hb hk ⊢;subst hy;obtain⟨ie,e1,e2⟩:=Option.map_eq_some_iff.1 hs;obtain⟨Kj,e3,e4⟩:=Option.bind_eq_some_iff.1 hz;obtain rfl:=Option.some.inj (e1.symm.trans e3);simp only[Prod.mk.injEq]at e2;have hle:n*sz≤cur.length:=by rw[hl];exact Nat.mul_le_mul_right sz ux
 have rV:(cur.take (n*sz)).length=n*sz:=by rw[List.length_take];exact Nat.min_eq_left hle
 have yP:aH w.drew g 0 (cur.take (n*sz)):=fun j v hj=>by
  rw[List.getElem?_take]at hj;split at hj
  ·have:=hb.cell (o:=0+j);rw[Nat.zero_add]at this ⊢;exact this.trans hj
  ·cases hj
 have hold:(Builtin.firstCells ie.size n (.slice (some ⟨g,0,none⟩) n cap)).run P w.drew=.ok (cur.take (n*sz)).toArray w.drew:=by
  have:=Lv (P:=P) yP;rw[rV]at this;simp[Builtin.firstCells,e2.1,this]
 have hr:=Lib.run_append_grow_zeros w t tn 0 e ie z kq .i64 hu Bn e1 e4 (some ⟨g,0,none⟩) n cap (cur.take (n*sz)) hold m h0 zo zo (by unfold maxLen at yD;omega) (by
  rw[e2.2];have:=Nat.mul_le_mul_right bytes (Nat.le_add_left m n);omega) (by rw[e2.2];exact growslice_fits uy sU)
 have tq:=grownCap_ge w (n+m) cap e;have Xt:∀q,(Builtin.zeroCells z.cells q).size=q*sz:=fun q=>by simp[Builtin.zeroCells,qn]
 refine⟨_,_,hr,hk _ _ ((Builtin.zeroCells z.cells m).toList++(Builtin.zeroCells z.cells (grownCap w (n+m) cap e-(n+m))).toList) _ ⟨rfl,rfl,rfl,?_,fun b hb _=>?_⟩ (Nat.le_refl _) ?_ tq (grownCap_le_maxLen w (n+m) cap e yD) ?_⟩
 ·show w.heap.size≤(w.heap.push _).size;rw[Array.size_push];omega
 ·show(w.heap.push _)[b]?=_;rw[Array.getElem?_push,if_neg zo]
 ·show(w.heap.push _)[w.heap.size]?=_;rw[Array.getElem?_push,if_pos rfl];congr 2;simp
 ·simp only[List.length_append,rV,Array.length_toList,Xt];rw[←Nat.add_mul,←Nat.add_mul];congr 1;omega
theorem Nc (hu:P.underlying t=some (.slice e))(he:(P.info? e).isSome=true)(hi:i=(j:Int))(hj:j≤c)
  (hk:k (.slice (some ⟨g,o,none⟩) j c)):aB P (Instr.sliceAt t (.slice (some ⟨g,o,none⟩) n c) none (some (.int q i)) none) k:=by
 subst hi;have ht:P.underlying t=some (.slice (P.elem t)):=by rw[oY hu];exact hu
 refine .of (fun w=>?_) hk;rw[run_sliceAt_slice w t _ _ _ _ ht,run_slice_h w t _ n c ht q _ zo zo,oY hu,ny he];simp[sliced,oZ]
theorem ya (hu:P.underlying t=some (.slice e))(he:(P.info? e).isSome=true)(hsz:P.cellsOf e=sz)(hi:i=(j:Int))(hj:j≤n)
  (hk:k (.slice (some ⟨g,if c=j then o else o+j*sz,none⟩) (n-j) (c-j))):aB P (Instr.sliceAt t (.slice (some ⟨g,o,none⟩) n c) (some (.int q i)) none none) k:=by
 subst hi;have ht:P.underlying t=some (.slice (P.elem t)):=by rw[oY hu];exact hu
 refine .of (fun w=>?_) hk;rw[run_sliceAt_slice w t _ _ _ _ ht,run_slice_l w t _ n c ht q _ zo zo,oY hu,ny he,hsz];by_cases h:c=j
 ·simp[sliced,h]
 ·simp[sliced,h,oZ]
theorem zzG {q':IntKind}{i':Int}{h:Nat}(hu:P.underlying t=some (.slice e))(he:(P.info? e).isSome=true)(hsz:P.cellsOf e=sz)(hi:i=(j:Int))(mD:i'=(h:Int))(hj:j≤h)(hh:h≤c)
  (hk:k (.slice (some ⟨g,if c=j then o else o+j*sz,none⟩) (h-j) (c-j))):aB P (Instr.sliceAt t (.slice (some ⟨g,o,none⟩) n c) (some (.int q i)) (some (.int q' i')) none) k:=by
 subst hi mD;have ht:P.underlying t=some (.slice (P.elem t)):=by rw[oY hu];exact hu
 refine .of (fun w=>?_) hk;rw[run_sliceAt_slice w t _ _ _ _ ht,run_slice_lh w t _ n c ht q q' _ _ zo zo zo,oY hu,ny he,hsz];by_cases h:c=j
 ·simp[sliced,h]
 ·simp[sliced,h,oZ]
theorem zzJ {q' OM:IntKind}{i' F0:Int}(hu:P.underlying t=some (.slice e))(he:(P.info? e).isSome=true)(h0:0≤i)(hi:i≤i')(mD:i'≤F0)(hh:F0≤c)
  (hk:∀v,k v):aB P (Instr.sliceAt t (.slice a n c) (some (.int q i)) (some (.int q' i')) (some (.int OM F0))) k:=by
 have ht:P.underlying t=some (.slice (P.elem t)):=by rw[oY hu];exact hu
 refine .of (v:=sliced a i.toNat i'.toNat F0.toNat (P.cellsOf e)) (fun w=>?_) (hk _);rw[run_sliceAt_slice w t _ _ _ _ ht,run_slice_lhm w t _ n c ht q q' OM _ _ _ zo zo zo zo,oY hu,ny he];rfl
theorem zzI (hu:P.underlying t=some (.slice e))(he:(P.info? e).isSome=true)(h0:0≤i)(hi:i≤n)
  (hk:∀v,k v):aB P (Instr.sliceAt t (.slice a n c) (some (.int q i)) none none) k:=by
 have ht:P.underlying t=some (.slice (P.elem t)):=by rw[oY hu];exact hu
 refine .of (v:=sliced a i.toNat n c (P.cellsOf e)) (fun w=>?_) (hk _);rw[run_sliceAt_slice w t _ _ _ _ ht,run_slice_l w t _ n c ht q _ zo zo,oY hu,ny he];rfl
theorem Ge (h:o≤cs.length):(over cs o vs).take (o+vs.length)=cs.take o++vs:=by
 have hl:(cs.take o++vs).length=o+vs.length:=by rw[List.length_append,List.length_take,Nat.min_eq_left h]
 unfold over;rw[←hl,List.take_left'];rfl
theorem Px (h:o≤cs.length)(hp:p≤o):(over cs o vs).take p=cs.take p:=by
 have h1:((over cs o vs).take (o+vs.length)).take p=(cs.take o++vs).take p:=by rw[Ge h]
 rw[List.take_take,Nat.min_eq_left zo]at h1;rw[h1,List.take_append_of_le_length (by rw[List.length_take,Nat.min_eq_left h];exact hp),List.take_take,Nat.min_eq_left hp]
theorem Ze (h:o≤cs.length):(over cs o vs).drop o=vs++cs.drop (o+vs.length):=by
 unfold over;rw[List.append_assoc,List.drop_left'];rw[List.length_take,Nat.min_eq_left h]
theorem zsR {Z:List Value}(h:p+B.length≤cur.length):(over (over cur p B) (p+B.length) Z).take (p+B.length)=cur.take p++B:=by
 rw[Px (by rw[vR h];exact h) (Nat.le_refl _),Ge zo]
theorem zs7 {X:List Value}(h:p+X.length+B.length≤cur.length):(over (over cur (p+X.length) B) p X).take (p+X.length+B.length)=cur.take p++X++B:=by
 have h1:(over cur (p+X.length) B).take p=cur.take p:=Px zo zo;have h2:(over cur (p+X.length) B).drop (p+X.length)=B++cur.drop (p+X.length+B.length):=Ze zo
 have h3:over (over cur (p+X.length) B) p X=(cur.take p++X++B)++cur.drop (p+X.length+B.length):=by
  show(over cur (p+X.length) B).take p++X++(over cur (p+X.length) B).drop (p+X.length)=_;rw[h1,h2];simp
 have hl:(cur.take p++X++B).length=p+X.length+B.length:=by rw[List.length_append,List.length_append,List.length_take,Nat.min_eq_left zo]
 rw[h3,←hl,List.take_left'];rfl
theorem zqI {X:List Value}(h:p+X.length+B.length≤cur.length):(over (over cur p X) (p+X.length) B).take (p+X.length+B.length)=cur.take p++X++B:=by
 rw[Ge (by rw[vR zo];omega),Ge zo]
theorem St.rh {w0 w:World}{S:Nat→Prop}{H:List bZ}(h:St w0 S w H)(i:Nat){b:Nat}{t:TypeId}{cs:List Value}(hi:H[i]?=some (Ev.blk b t cs))(kK:List Value):St w0 S (jT w b t kK) (H.set i (Ev.blk b t kK)) :=
 h.upd i hi (Ext.set (S:=(· = b)) (b:=b) rfl t _) (fun c hc=>by simp[Ev.blk,hc]) (eh _ _ _) (AF (h.blk i hi).lt) (fun c hc=>.inl hc)
end Ev
section
open Ev
variable [Gap.Leaps]
variable {α:Type}{n:Int}{H H':List bZ}{ns:List bE}{xs:List α}{b c i k m o q sz:Nat}{E:Nat→Addr}{S:Nat→Prop}{y:bE}{a:Option Addr}{e:TypeId}{w w' w0:World}{enc:α→List Value}
theorem Ev.bQ.here {n:Nat}  {G:α→Prop}(h:bQ w sz enc G a n xs)(he:0<n→∀b o,a=some ⟨b,o,none⟩→w'.heap[b]?=w.heap[b]?):bQ w' sz enc G a n xs:=by
 refine⟨h.len,h.max,fun k x hk=>?_,h.lg⟩;obtain⟨b,o,ha,hb,hc⟩:=h.cells k x hk
 have hn:0<n:=by
  have:=(List.getElem?_eq_some_iff.1 hk).1;rw[h.len]at this;omega
 have e:=he hn b o ha;refine⟨b,o,ha,?_,fun i v hi=>?_⟩
 ·have:w'.heap[b]?=some w.heap[b]:=e.trans (Array.getElem?_eq_getElem hb);exact(Array.getElem?_eq_some_iff.1 this).1
 ·have h1:w'.cell? ⟨b,o+k*sz+i,none⟩=w.cell? ⟨b,o+k*sz+i,none⟩:=by simp only[World.cell?,e]
  exact h1.trans (hc i v hi)
structure k8 (x:bW)(y:bE):Prop where
 bP:x.bP=y.bP
 au:x.au=y.au
 ah:x.ah=y.ah
 claim:x.claim=y.claim
def yb (x:bW):List Nat:=if x.n=0 then [] else (Value.slice x.a x.n x.c).ownBlock.toList
def dX (vs:List bW)(ns:List bE):bZ:=⟨vs.flatMap yb,fun w=>vs.length=ns.length∧∀(k:Nat) x y,vs[k]?=some x→ns[k]?=some y→k8 x y∧bQ w 10 bV (fun _=>True) x.a x.n y.cells⟩
theorem LM {x:bW}(hn:0<x.n)(ha:x.a=some ⟨b,o,none⟩):b∈yb x:=by
 unfold yb;rw[if_neg zo,ha];simp[Value.ownBlock]
theorem qB {vs:List bW}:(dX vs ns).Local:=by
 intro w w' hb h;refine⟨h.1,fun k x y hx hy=>⟨(h.2 k x y hx hy).1,(h.2 k x y hx hy).2.here fun hn b o ha=>hb b ?_⟩⟩;exact List.mem_flatMap.2 ⟨x,List.mem_of_getElem? hx,LM hn ha⟩
theorem QD (w:World):(dX [] []).holds w:=⟨rfl,fun k x y hx _=>by simp at hx⟩
theorem K0 {x:bW}(h:k8 x y)(hs:bQ w 10 bV (fun _=>True) x.a x.n y.cells):(dX [x] [y]).holds w:=by
 refine⟨rfl,fun k u v hu hv=>?_⟩
 have hk:k=0:=by
  have:=(List.getElem?_eq_some_iff.1 hu).1;simp at this;exact this
 subst hk;simp only[List.getElem?_cons_zero,Option.some.injEq]at hu hv;subst hu hv;exact⟨h,hs⟩
theorem AE {vs:List bW}(h:(dX vs ns).holds w){k:Nat}{x:bW}{y:bE}(hx:vs[k]?=some x)(hy:ns[k]?=some y):k8 x y∧bQ w 10 bV (fun _=>True) x.a x.n y.cells:=h.2 k x y hx hy
theorem cz {vs:List bW}:b∈(dX vs ns).aW↔∃x∈vs,b∈yb x:=List.mem_flatMap
theorem KR {vs:List bW}(h:(dX vs ns).holds w)(k:Nat):(dX (vs.eraseIdx k) (ns.eraseIdx k)).holds w:=by
 refine⟨by rw[List.length_eraseIdx,List.length_eraseIdx,h.1],fun i x y hx hy=>?_⟩;rw[List.getElem?_eraseIdx]at hx hy;split at hx
 ·exact h.2 i x y hx (by rwa [if_pos (by assumption)]at hy)
 ·exact h.2 (i+1) x y hx (by rwa [if_neg (by assumption)]at hy)
theorem GV {vs us:List bW}{ms:List bE}(h:(dX vs ns).holds w)(g:(dX us ms).holds w):(dX (vs++us) (ns++ms)).holds w:=by
 have hl:=h.1;refine⟨by rw[List.length_append,List.length_append,hl,g.1],fun i x y hx hy=>?_⟩;by_cases hi:i<vs.length
 ·rw[List.getElem?_append_left hi]at hx;rw[List.getElem?_append_left zo]at hy;exact h.2 i x y hx hy
 ·rw[List.getElem?_append_right zo]at hx;rw[List.getElem?_append_right zo,←hl]at hy;exact g.2 _ x y hx hy
theorem ZS {vs:List bW}(h:(dX vs ns).holds w)(k:Nat):(dX (vs.take k) (ns.take k)).holds w:=by
 refine⟨by rw[List.length_take,List.length_take,h.1],fun i x y hx hy=>?_⟩;rw[List.getElem?_take]at hx hy;split at hx
 ·exact h.2 i x y hx (by rwa [if_pos (by assumption)]at hy)
 ·cases hx
theorem ZR {vs:List bW}(h:(dX vs ns).holds w)(k:Nat):(dX (vs.drop k) (ns.drop k)).holds w:=by
 refine⟨by rw[List.length_drop,List.length_drop,h.1],fun i x y hx hy=>?_⟩;rw[List.getElem?_drop]at hx hy;exact h.2 _ x y hx hy
section
theorem zpV {G:ax→Prop}  {n:Nat}{xs:List ax}(hx:bQ w 10 bV G a n xs)(hn:n≤1000) :
  aa prog 197 #[.slice a n c] w fun v w'=>∃a' c',v=.slice a' n c'∧Ext No w w'∧(az 218 10 bV v xs).holds w'∧m7 w w' v:=by
 have hl:=hx.len;refine zN func197 ntmps197 ?_;have hS:=St.start w No;cases a with
 | none =>
  have jq:n=0:=by
   rcases Nat.eq_zero_or_pos n with h|h
   ·exact h
   ·obtain⟨_,_,_,_,_,h,_⟩:=hx.at h;cases h
  subst jq;obtain rfl:xs=[]:=List.length_eq_zero_iff.1 hl;refine zE ?_;have hS:=hS.bJ 218 10 bV;exact⟨none,0,rfl,hS.ext,hS.get 0 rfl,hS.du 0 rfl⟩
 | some a0 =>
  refine hS.vE underlying138 (sz:=10) zk (fun b0 w1 hS=>?_);refine hS.d8 gF 0 (xs:=[]) underlying138 (bytes:=80) zk (z:=.agg (bV ⟨0,0,fN⟩).toArray) zk rfl rfl (hx.no hS.ext) (by unfold maxLen;simp;omega) (by simp;omega) (fun a' c' w' hS=>?_);refine zE ?_;have jq:([]:List ax).length+n=n:=by simp
  rw[jq]at hS ⊢;exact⟨a',c',rfl,hS.ext,hS.get 0 rfl,hS.du 0 rfl⟩
def bW.with (x:bW)(a:Option Addr)(c:Nat):bW:=⟨x.bP,x.au,x.ah,x.claim,a,x.n,c⟩
theorem Uf {G:ax→Prop}{x:bW}{cs:List ax}(hx:bQ w 10 bV G x.a x.n cs)(hn:x.n≤1000) :
  aa prog 146 #[.agg (bA x).toArray] w fun v w'=>∃a' c',v=.agg (bA (x.with a' c')).toArray∧Ext No w w'∧(az 218 10 bV (.slice a' x.n c') cs).holds w'∧m7 w w' (.slice a' x.n c'):=by
 refine zN func146 ntmps146 ?_;have hS:=St.start w No;refine hS.new (fun bx w1 yL hS=>?_);refine hS.new (fun br w2 lr hS=>?_);refine hS.lD 0 ?_;refine(zpV (hx.no hS.ext) hn).mono ?_;rintro v w3 ⟨a',c',rfl,k3,ho,hf⟩;have ic:m7 w w3 (.slice a' x.n c'):=fun g hg=>⟨Nat.le_trans hS.ext.size (hf g hg).1,(hf g hg).2⟩
 replace hS:=hS.made k3 fq ho (fun g hg=>hf g (by simpa[az,own]using hg));refine hS.sT 0 fun w4 hS=>?_
 refine hS.lX 0 ?_;refine hS.sT 1 fun w5 hS=>?_
 refine hS.lX 1 ?_;refine zE ?_;exact⟨a',c',rfl,hS.ext,hS.get 2 rfl,hS.du 2 rfl⟩
theorem QL (C:cR sz enc)(xs:List α)(k:Nat):(xs.flatMap enc).take (k*sz)=(xs.take k).flatMap enc:=by
 by_cases hk:k≤xs.length
 ·conv=>lhs;rw[←List.take_append_drop k xs,List.flatMap_append]
  have hl:((xs.take k).flatMap enc).length=k*sz:=by rw[gU C,List.length_take,Nat.min_eq_left hk]
  rw[←hl,List.take_left'];rfl
 ·have h1:xs.length≤k:=by omega
  rw[List.take_of_length_le h1,List.take_of_length_le];rw[gU C];exact Nat.mul_le_mul_right sz h1
theorem QJ (C:cR sz enc)(xs:List α)(k:Nat):(xs.flatMap enc).drop (k*sz)=(xs.drop k).flatMap enc:=by
 by_cases hk:k≤xs.length
 ·conv=>lhs;rw[←List.take_append_drop k xs,List.flatMap_append]
  have hl:((xs.take k).flatMap enc).length=k*sz:=by rw[gU C,List.length_take,Nat.min_eq_left hk]
  rw[←hl,List.drop_left'];rfl
 ·have h1:xs.length≤k:=by omega
  rw[List.drop_of_length_le h1,List.drop_of_length_le]
  ·rfl
  rw[gU C];exact Nat.mul_le_mul_right sz h1
theorem En {t:TypeId}{cur l:List Value}(hb:bC w b t cur)(h:∀i v,l[i]?=some v→cur[o+i]?=some v):aH w b o l:=fun i v hi=>by
 rw[hb.cell];exact h i v hi
end
section
theorem Ev.bC.shape {t:TypeId}{cs:List Value}(h:bC w b t cs):w.shape? b=some (t,cs.length):=by
 unfold bC at h;simp[World.shape?,h]
theorem YR {P:Program} {f:FuncId} {fn:Func} {e:Array Value → Sem Value}(hf : P.funcs[f]? = some fn) (eG : (fn.name == "runtime.NumGoroutine") = false)
  (hb:fn.body.isNone=true) (hn:Extern.findNext fn=none) (he:Extern.find fn=some e) {args:Array Value} {w:World} {v:Value} (hq:Gap.Quiet P (e args) w v w):Gap.Quiet P (callFunc f args) w (.value v) w:=by
 have h1 : fn.name ≠ "runtime.NumGoroutine" := by simpa using eG
 have h2:fn.body=none:=by simpa using hb
 intro O Z W hl;obtain⟨W',hD,h3,h4⟩:=hq O Z W hl;refine⟨W',⟨?_,hD.os,hD.tape,hD.output,hD.size,hD.keep,fun ev hev=>?_⟩,h3,h4⟩
 ·rw[run_callFunc_extern hf eG hb hn he,hD.run];rfl
 ·have e1:(callFunc f args).events P W #[]=(e args).events P W #[⟨.mark (.extern f),false,true⟩]:=by
   unfold callFunc;simp[hf,h1,h2,hn,he,hD.run]
  rw[e1]at hev;rcases Gap.dE _ _ _ hev with hev|hev
  ·obtain rfl:ev=⟨.mark (.extern f),false,true⟩:=by simpa using hev
   trivial
  ·exact hD.evs ev hev
theorem QU {O Z:Nat→Prop}{W:World}  {t:TypeId}{cs:List Value}(hl:Gap.dx O Z w W)(hb:bC w b t cs)(h0:cs≠[]):bC W b t cs:=by
 have dk:w.heap[b]?=some (.cells cs.toArray t (0,0)):=hb
 have hO:O b:=Classical.byContradiction fun hn=>by
  rcases hl.rest b _ hn dk with e | ⟨_,c,t2,f,_,e⟩
  ·cases e
  ·exact(Gap.gJ e).elim
 obtain⟨o,e1,e2,_⟩:=hl.own b hO;show W.heap[b]?=_;rw[e2,←e1,dk]
theorem zpd {g o' n n' c':Nat}{t1 t2:TypeId}{yu Fs:List Value}(hb:bC w b t1 yu)(hg:bC w g t2 Fs)(cj:b≠g)(h1:yu≠[])(hp:Fs.length≠0) :
  Gap.Quiet prog (callFunc 195 #[.slice (some ⟨b,o,none⟩) n c,.slice (some ⟨g,o',none⟩) n' c']) w (.value (.bool false)) w:=by
 have hz:∀w,(Go.sizeOf 273).run prog w=.ok 5 w:=fun w=>(aj 273 _ rfl).lM w
 have hu:=underlying95;refine YR func195 zk zk zk (e:=Extern.SlicesOverlaps.overlaps #[95,95] #[4]) zk ?_;intro O Z W hl;have dk:=QU hl hb h1;have ni:=QU hl hg (fun e=>hp (by rw[e];rfl));have cm:=Lib.run_overlaps_apart W 95 4 273 hu 5 hz ⟨b,o,none⟩ ⟨g,o',none⟩ n c n' c' cj t1 t2 yu.length Fs.length dk.shape ni.shape hp (dk.frozen o) (dk.frozen yu.length);refine⟨W,⟨cm,rfl,rfl,rfl,Nat.le_refl _,fun _ _ _=>rfl,fun ev hev=>?_⟩,by rw[Gap.eM];exact hl,rfl⟩;exfalso;have I0:W.heap[b]?=some (.cells yu.toArray t1 (0,0)):=dk;have Ct:W.heap[g]?=some (.cells Fs.toArray t2 (0,0)):=ni;have f7:(b != g)=true:=by simpa using cj
 have JA:(b == g)=false:=by simpa using cj
 obtain⟨e2,u,q,tf⟩:∃e2 u q,Extern.SlicesOverlaps.overlaps #[95,95] #[4] #[.slice (some ⟨b,o,none⟩) n c,.slice (some ⟨g,o',none⟩) n' c']=(do
   let .slice elem ←underlying 95|stuck e2
   let size ←sizeOf elem
   if n=0∨n'=0∨size=0 then pure (Value.bool false)
   else if b != g&&(←frozen ⟨b,o,none⟩)&&(←frozen ⟨g,o',none⟩) then unsupported u
   else do
    if b != g then do
     noView ⟨b,o,none⟩;noView ⟨g,o',none⟩
     if ←mayBeOne ⟨b,o,none⟩ ⟨g,o',none⟩ then return Value.bool ((←choose q) == 1)
    pure (Value.bool (b == g&&decide (o<o'+n'*size)&&decide (o'<o+n*size)))):=⟨_,_,_,rfl⟩
 rw[tf]at hev;by_cases h0:n=0∨n'=0
 ·simp[run_underlying hu,hz,h0]at hev
 ·simp[run_underlying hu,hz,h0,f7,JA,World.frozen?,I0,Ct,noView,viewAt,World.shape?,mayBeOne,stringish]at hev
theorem Tu {vs:List bW}(ho:(az 273 5 bA (.slice a vs.length c) vs).holds w)(hi:i<vs.length)(hm:vs.length≤1000) :
  aa prog 142 #[.slice a vs.length c,.int .i64 (i:Int),.int .i64 ((i:Int)+1)] w fun v w' =>
   v=.slice a (vs.length-1) c∧Ext (fun b=>(Value.slice a vs.length c).ownBlock=some b) w w'∧(az 273 5 bA (.slice a (vs.length-1) c) (vs.eraseIdx i)).holds w':=by
 rcases BL ho with⟨_,_,_,h0,_⟩|⟨g,cur,rfl,_,hb,ux,FC,hl,ht⟩
 ·omega
 have hS:=(St.start w (fun b=>(Value.slice (some ⟨g,0,none⟩) vs.length c).ownBlock=some b)).add (eh g _ _) hb (fun b dk=>by obtain rfl:=List.mem_singleton.1 dk;exact⟨.inl rfl,hb.lt⟩) zi;have hB:((vs.drop (i+1)).flatMap bA).length=(vs.length-(i+1))*5:=by rw[gU dA,List.length_drop]
 have hA:cur.take (i*5)=(vs.take i).flatMap bA:=by
  rw[←QL dA,←ht,List.take_take,Nat.min_eq_left zo]
 have FB:∀j v,((vs.drop (i+1)).flatMap bA)[j]?=some v→cur[(i+1)*5+j]?=some v:=fun j v hj=>by
  rw[←QJ dA,List.getElem?_drop,←ht,List.getElem?_take]at hj;split at hj
  ·exact hj
  ·cases hj
 refine zN func142 ntmps142 ?_;refine zzJ underlying95 zk zo zo zo zo (fun v0=>?_);refine aM (fun h=>by omega) (fun _=>?_);(conv=>whnf);refine hS.dr [] (fun b=>b=g) [0,1,2,3,4,5,6,7] fun w1 hS=>?_
 have hK:=hS.ref (fun b=>b=g);refine Nc underlying95 zk rfl zo ?_;refine ya (j:=i+1) (sz:=5) underlying95 zk zk zo zo ?_;refine zvR (sz:=5) (cur:=cur) (news:=(vs.drop (i+1)).flatMap bA) underlying95 zk (hS.blk 0 rfl) ?_ hB (AH dA _) zo (by rw[hB,hl];omega) ?_
 ·by_cases hc:c=i+1
  ·have:(vs.drop (i+1)).flatMap bA=[]:=List.length_eq_zero_iff.1 (by rw[hB];omega);rw[this];intro j v hj;simp at hj
  ·rw[if_neg hc];exact En (hS.blk 0 rfl) (fun j v hj=>by rw[Nat.zero_add];exact FB j v hj)
 replace hK:=hK.trans (Ext.set (S:=fun b=>b=g) (b:=g) rfl 273 (over cur (i*5) ((vs.drop (i+1)).flatMap bA)));refine ae.mk hK ?_;replace hS:=hS.rh 0 rfl (over cur (i*5) ((vs.drop (i+1)).flatMap bA));have kZ:i+(vs.length-(i+1))=vs.length-1:=by omega
 have Jv:(over cur (i*5) ((vs.drop (i+1)).flatMap bA)).length=c*5:=by rw[vR (by rw[hB,hl];omega),hl]
 rw[kZ];refine zzG (j:=vs.length-1) (h:=vs.length) (sz:=5) underlying95 zk zk rfl rfl zo zo ?_;rw[if_neg zo]
 refine zsI (zs:=bA fw) (cur:=over cur (i*5) ((vs.drop (i+1)).flatMap bA)) underlying95 (z:=.agg (bA fw).toArray) zk (hS.blk 0 rfl) zo (by
  rw[show vs.length-(vs.length-1)=1 by omega];show((Array.range (1*5)).map _).toList=_;rw[Th (.agg (bA fw).toArray)];rfl) rfl (by rw[Jv];simp only[bA,List.length_cons,List.length_nil];omega) ?_
 replace hS:=hS.rh 0 rfl (over (over cur (i*5) ((vs.drop (i+1)).flatMap bA)) (0+(vs.length-1)*5) (bA fw));refine zE ?_;refine⟨rfl,hS.ext,?_⟩;have hle:(vs.eraseIdx i).length=vs.length-1:=by rw[List.length_eraseIdx,if_pos hi]
 have:=MJ (sz:=5) (n:=vs.length-1) (cap:=c) (xs:=(vs.eraseIdx i).flatMap bA) (hS.blk 0 rfl) zo FC (by rw[vR (by rw[Jv];simp only[bA,List.length_cons,List.length_nil];omega),Jv]) (by
  have h5:(vs.length-1)*5=i*5+((vs.drop (i+1)).flatMap bA).length:=by rw[hB];omega
  rw[Nat.zero_add,h5,zsR (by rw[hB,hl];omega),hA,List.eraseIdx_eq_take_drop_succ,List.flatMap_append])
 unfold az;rw[hle];exact this
theorem zwr {vs:List bW}{x:bW}(hH:Has w [az 273 5 bA (.slice a vs.length c) vs,blk b 273 (bA x)])(hk:k≤vs.length)(hm:vs.length≤1000) :
  aa prog 145 #[.slice a vs.length c,.int .i64 (k:Int),.slice (some ⟨b,0,none⟩) 1 1] w fun v w' =>
   ∃a' c',v=.slice a' (vs.length+1) c'∧ak w w' [az 273 5 bA (.slice a vs.length c) vs,blk b 273 (bA x)] [az 273 5 bA (.slice a' (vs.length+1) c') (vs.take k++x::vs.drop k),blk b 273 (bA x)]:=by
 have ho:(az 273 5 bA (.slice a vs.length c) vs).holds w:=hH.get 0 rfl
 have gZ:vs.length≤c:=by
  rcases BL ho with⟨_,h,_,h0,_⟩|⟨_,_,_,_,_,h,_⟩
  ·omega
  ·exact h
 refine zN func145 ntmps145 ?_;have hS:=hH.start;refine zzI underlying95 zk zo zo (fun v0=>?_);refine aM (fun h=>?_) (fun h=>?_)
 ·obtain rfl:k=vs.length:=by omega
  refine hS.d8 dA 0 (ys:=[x]) (G:=fun _=>True) underlying95 (bytes:=56) zk (z:=.agg (bA fw).toArray) zk rfl rfl (bQ.bG dA (hS.blk 1 rfl) rfl zi (fun _ _=>trivial) rfl) (by unfold maxLen;omega) zo (fun a2 c2 w4 hS=>?_);repeat' first|refine zP ?_|apply aR<;>intro
  refine⟨a2,c2,rfl,?_⟩;rw[List.take_length,List.drop_length];exact St.turns hS
 have rU:k<vs.length:=by omega
 rcases BL ho with⟨_,_,_,h0,_⟩|⟨g,cur,rfl,_,hb,ux,FC,hl,ht⟩
 ·omega
 have hA:cur.take (k*5)=(vs.take k).flatMap bA:=by
  rw[←QL dA,←ht,List.take_take,Nat.min_eq_left zo]
 have hB:((vs.drop k).flatMap bA).length=(vs.length-k)*5:=by rw[gU dA,List.length_drop]
 have hX:(bA x).length=5:=rfl
 have FB:∀j v,((vs.drop k).flatMap bA)[j]?=some v→cur[k*5+j]?=some v:=fun j v hj=>by
  rw[←QJ dA,List.getElem?_drop,←ht,List.getElem?_take]at hj;split at hj
  ·exact hj
  ·cases hj
 have cx:(vs.length+1)*5=k*5+(bA x).length+((vs.drop k).flatMap bA).length:=by rw[hX,hB];omega
 have tx:(k+1)*5=k*5+(bA x).length:=by rw[hX];omega
 have gN:(vs.take k++x::vs.drop k).flatMap bA=(vs.take k).flatMap bA++bA x++(vs.drop k).flatMap bA:=by simp
 have hlen:(vs.take k++x::vs.drop k).length=vs.length+1:=by simp;omega
 have Jm:∀n' c' (xs:List bW),(az 273 5 bA (.slice (some ⟨g,0,none⟩) n' c') xs).aW=[g]:=fun n' c' xs=>by simp[az,own,Value.ownBlock]
 have cj:g≠b:=fun h=>hS.bS 0 1 rfl rfl zd g (by rw[Jm];exact List.mem_singleton.2 rfl) (by rw[h];exact List.mem_singleton.2 rfl)
 replace hS:St w (cp [az 273 5 bA (.slice (some ⟨g,0,none⟩) vs.length c) vs,blk b 273 (bA x)]) w [blk g 273 cur,blk b 273 (bA x)] :=
  hS.upd 0 rfl (T:=No) (Ext.refl _ _) (fun _ h=>h.elim) (eh _ _ _) hb (fun d hd=>.inl (by rw[Jm];exact hd))
 refine ag.mk zo zo ?_;apply aR<;>intro h3
 ·refine Nc underlying95 zk rfl zo ?_;refine ag.mk zo zo ?_;refine ag.mk zo zo ?_;refine zsy (sz:=5) (bytes:=56) (m:=vs.length+1-k) (cur:=cur) underlying95 underlying3 zk (z:=.agg (bA fw).toArray) zk rfl (hS.blk 0 rfl) zo hl zo zo zo zo (by unfold maxLen;omega) zo (fun G iX Z w1 eH hG gK nh fT fy=>?_);replace hS:=hS.made eH (eh _ _ _) gK (by simp[blk];exact⟨hG,gK.lt⟩);rw[hA]at hS gK fy;rw[show k+(vs.length+1-k)=vs.length+1 by omega]
  have rP:((vs.take k).flatMap bA++Z).take (k*5)=(vs.take k).flatMap bA:=by
   rw[List.take_append_of_le_length (by rw[gU dA,List.length_take];omega),List.take_of_length_le (by rw[gU dA,List.length_take];omega)]
  generalize (vs.take k).flatMap bA++Z=qO at hS fy rP;refine ya (j:=k) (sz:=5) underlying95 zk zk rfl zo ?_;rw[if_neg zo];refine HE (sz:=5) (cur:=qO) (news:=bA x) underlying95 zk (hS.blk 2 rfl) (En (hS.blk 1 rfl) (fun j v hj=>by rw[Nat.zero_add];exact hj)) (by rw[show Nat.min 1 (vs.length+1-k)=1 from Nat.min_eq_left zo];rfl) rfl (by rw[hX,fy];omega) ?_;replace hS:=hS.rh 2 rfl (over qO (0+k*5) (bA x));(conv=>whnf);refine hS.dr [] (fun b=>b=G) [0,1,2,3,4,5,6,7,8] fun w1 hS=>?_
  have hK:=hS.ref (fun b=>b=G);refine ag.mk zo zo ?_;refine ya (j:=k+1) (sz:=5) underlying95 zk zk zo zo ?_;refine ya (j:=k) (sz:=5) underlying95 zk zk rfl zo ?_;rw[if_neg zo,if_neg zo];(conv=>whnf);have ft:(over qO (0+k*5) (bA x)).length=iX*5:=by rw[vR (by rw[hX,fy];omega),fy]
  refine HE (sz:=5) (cur:=over qO (0+k*5) (bA x)) (news:=(vs.drop k).flatMap bA) underlying95 zk (hS.blk 2 rfl) (En (hS.blk 0 rfl) (fun j v hj=>by rw[Nat.zero_add];exact FB j v hj)) (by rw[hB];congr 1;rw[show vs.length+1-(k+1)=vs.length-k by omega];exact(Nat.min_self _).symm) (AH dA _) (by rw[hB,ft];omega) ?_;replace hK:=hK.trans (Ext.set (S:=fun b=>b=G) (b:=G) rfl 273 (over (over qO (0+k*5) (bA x)) (0+(k+1)*5) ((vs.drop k).flatMap bA)));refine ae.mk hK ?_;replace hS:=hS.rh 2 rfl (over (over qO (0+k*5) (bA x)) (0+(k+1)*5) ((vs.drop k).flatMap bA));refine zE ?_
  have iZ:=MJ (sz:=5) (n:=vs.length+1) (cap:=iX) (xs:=(vs.take k++x::vs.drop k).flatMap bA) (hS.blk 2 rfl) zo fT (by rw[vR (by rw[hB,ft];omega),ft]) (by
   rw[Nat.zero_add,Nat.zero_add,cx,tx,zqI (by rw[hX,hB,fy];omega),rP,gN])
  have cT:=(hS.upd 2 rfl (e':=az 273 5 bA (.slice (some ⟨G,0,none⟩) (vs.length+1) iX) (vs.take k++x::vs.drop k)) (T:=No) (Ext.refl _ _) (fun _ h=>h.elim) fq (by unfold az;rw[hlen];exact iZ) (fun d hd=>.inl (by rw[show(az 273 5 bA (.slice (some ⟨G,0,none⟩) (vs.length+1) iX) (vs.take k++x::vs.drop k)).aW=[G] by simp[az,own,Value.ownBlock]]at hd;exact hd))).dv [2,1] zd;exact⟨_,_,rfl,St.turns cT⟩
 ·refine ag.mk zo zo ?_;refine Nc (j:=vs.length+1) underlying95 zk zo zo ?_;refine ag.mk zo zo ?_;refine ya (j:=k+1) (sz:=5) underlying95 zk zk zo zo ?_;refine⟨.inr (.inl ⟨_,_,zpd (hS.blk 1 rfl) (hS.blk 0 rfl) (Ne.symm cj) (by simp[bA]) (by rw[hl];omega),?_⟩)⟩;(conv=>whnf);refine hS.dr [] (fun b=>b=g) [0,1,2,3,4,5,6,7,8] fun w1 hS=>?_
  have hK:=hS.ref (fun b=>b=g);refine ag.mk zo zo ?_;refine ya (j:=k+1) (sz:=5) underlying95 zk zk zo zo ?_;refine ya (j:=k) (sz:=5) underlying95 zk zk rfl zo ?_;rw[if_neg zo];have FP:(if c=k+1 then 0 else 0+(k+1)*5)=0+(k+1)*5:=if_neg zo;rw[FP];refine HE (sz:=5) (cur:=cur) (news:=(vs.drop k).flatMap bA) underlying95 zk (hS.blk 0 rfl) (En (hS.blk 0 rfl) (fun j v hj=>by rw[Nat.zero_add];exact FB j v hj)) (by rw[hB];congr 1;rw[show vs.length+1-(k+1)=vs.length-k by omega];exact(Nat.min_eq_right zo).symm) (AH dA _) (by rw[hB,hl];omega) ?_;replace hK:=hK.trans (Ext.set (S:=fun b=>b=g) (b:=g) rfl 273 (over cur (0+(k+1)*5) ((vs.drop k).flatMap bA)));refine ae.mk hK ?_;replace hS:=hS.rh 0 rfl (over cur (0+(k+1)*5) ((vs.drop k).flatMap bA));have ft:(over cur (0+(k+1)*5) ((vs.drop k).flatMap bA)).length=c*5:=by rw[vR (by rw[hB,hl];omega),hl]
  refine ya (j:=k) (sz:=5) underlying95 zk zk rfl zo ?_;rw[if_neg zo];refine HE (sz:=5) (cur:=over cur (0+(k+1)*5) ((vs.drop k).flatMap bA)) (news:=bA x) underlying95 zk (hS.blk 0 rfl) (En (hS.blk 1 rfl) (fun j v hj=>by rw[Nat.zero_add];exact hj)) (by rw[show Nat.min 1 (vs.length+1-k)=1 from Nat.min_eq_left zo];rfl) rfl (by rw[hX,ft];omega) ?_;replace hS:=hS.rh 0 rfl (over (over cur (0+(k+1)*5) ((vs.drop k).flatMap bA)) (0+k*5) (bA x));refine zE ?_
  have iZ:=MJ (sz:=5) (n:=vs.length+1) (cap:=c) (xs:=(vs.take k++x::vs.drop k).flatMap bA) (hS.blk 0 rfl) zo FC (by rw[vR (by rw[hX,ft];omega),ft]) (by
   rw[Nat.zero_add,Nat.zero_add,cx,tx,zs7 (by rw[hX,hB,hl];omega),hA,gN])
  have cT:=hS.upd 0 rfl (e':=az 273 5 bA (.slice (some ⟨g,0,none⟩) (vs.length+1) c) (vs.take k++x::vs.drop k)) (T:=No) (Ext.refl _ _) (fun _ h=>h.elim) fq (by unfold az;rw[hlen];exact iZ) (fun d hd=>.inl (by rw[Jm]at hd;exact hd));exact⟨_,_,rfl,St.turns cT⟩
end
structure Pow (B:aP):Prop where
 mr:gq B
 off:B.off=false
 left:B.left = -1
theorem G9:∀(s:List UInt8) (B:aP) (p:Nat),B.off=false→B.left = -1→(B.write p s).1=true∧(B.write p s).2.off=false∧(B.write p s).2.left = -1
 | [],B,p,h1,h2=>⟨rfl,h1,h2⟩
 | x::r,B,p,h1,h2=>by
  rw[xK,if_neg (by rw[h1,h2];decide)];exact G9 r _ _ h1 (by rw[h2];rfl)
theorem zth (B:aP)(p:Nat)(h1:B.off=false)(h2:B.left = -1):(mark B p).1=true∧(mark B p).2.off=false∧(mark B p).2.left = -1:=by
 unfold mark;split
 ·split
  ·exact⟨rfl,h1,h2⟩
  ·exact G9 _ _ _ h1 h2
 ·exact⟨rfl,h1,h2⟩
theorem QG (B:aP)(n e l:Nat)(h1:B.off=false)(h2:B.left = -1):(cJ B n e l).1=true∧(cJ B n e l).2.off=false∧(cJ B n e l).2.left = -1:=by
 obtain⟨a1,a2,a3⟩:=zth B (n % 2*20+16) h1 h2;obtain⟨b1,b2,b3⟩:=G9 (iu n e l) (mark B (n % 2*20+16)).2 (n % 2*20) a2 a3;unfold cJ;rw[if_neg (by rw[h1];decide),if_pos a1,if_pos b1];exact G9 _ _ _ b2 b3
theorem zwD {B:aP}{C:dC}{e l:Nat}(hP:Pow B)(hC:cU B.data=C)(hn:C.num+1<4294967296)(he:C.ep≤e∧e≤1073741824)(hl:C.li≤l∧l≤1073741824) :
  (C.put B e l).1=0∧Pow (C.put B e l).2.1∧cU (C.put B e l).2.1.data=(C.put B e l).2.2∧(C.put B e l).2.2=⟨C.num+1,e,l,false⟩:=by
 have hd:C.dead=false:=by rw[←hC];exact Z0 _
 obtain⟨w1,w2,w3⟩:=QG B (C.num+1) e l hP.off hP.left;have hk:=hP.mr.cJ (C.num+1) e l;have C7:=zoK (e:=e) (l:=l) hP.mr hP.off (by rw[hC];exact hn) zo zo;rw[hC]at C7
 have ho:cU (cJ B (C.num+1) e l).2.data=⟨C.num+1,e,l,false⟩:=by
  rcases C7 with⟨_,h,_⟩|⟨h,_⟩
  ·exact h
  ·rw[w1]at h;cases h
 have JP:C.put B e l=(0,(cJ B (C.num+1) e l).2,⟨C.num+1,e,l,C.dead⟩):=by
  unfold dC.put;rw[if_neg (by rw[hd];decide),if_neg zo,if_neg zo,if_neg zo];simp only[Int.toNat_natCast];rw[if_pos w1]
 rw[JP,hd];exact⟨rfl,⟨hk,w2,w3⟩,ho,rfl⟩
structure p7 (ep li n k:Nat)(N:NodeS)(B:aP):Prop where
 ok:eZ (34*k) N
 pow:Pow B
 cell:cU B.data=N.cell
 now:N.now=k
 aL:N.aL.cells=ay
 fu:N.fu.cells=ay
 li:N.cell.li=li
 num:N.cell.num≤n+1
 at_:(k≤9∧N.role.aE=false∧N.role.cd=k∧N.role.ah=ep∧N.cell.ep=ep∧N.cell.num=n) ∨
  (9<k∧N.role.aE=true∧∃e:Nat,N.role.ah=e∧ep<e∧e≤ep+2∧N.cell.ep=e)
theorem p7.born {id:Int}{B:aP}{rules:List RuleS}(hid:id=0∨id=1)(hg:(gg rules).1=0)(hP:Pow B)(hn:(cU B.data).num≤1000000)(he:(cU B.data).ep≤1000000)(hl:(cU B.data).li≤1000000) :
  (d6 id B rules).1=0∧p7 (cU B.data).ep ((cU B.data).li+1) ((cU B.data).num+1) 0 (d6 id B rules).2.1 (d6 id B rules).2.2:=by
 obtain⟨p1,p2,p3,p4⟩:=zwD (B:=B) (C:=cU B.data) (e:=(cU B.data).ep) (l:=(cU B.data).li+1) hP rfl zo zo zo;have h1:=(Tv (id:=id) (xs:=rules) hid hP.mr hg).2 p1;refine⟨p1,h1,p2,p3,rfl,rfl,rfl,?_,?_,.inl ⟨by decide,rfl,rfl,?_,?_,?_⟩⟩
 ·show((cU B.data).put B (cU B.data).ep ((cU B.data).li+1)).2.2.li=_;rw[show(((cU B.data).li:Int)+1)=(((cU B.data).li+1:Nat):Int) from rfl,p4]
 ·show((cU B.data).put B (cU B.data).ep ((cU B.data).li+1)).2.2.num≤_;rw[show(((cU B.data).li:Int)+1)=(((cU B.data).li+1:Nat):Int) from rfl,p4];exact Nat.le_succ _
 ·show((((cU B.data).put B (cU B.data).ep ((cU B.data).li+1)).2.2.ep:Nat):Int)=_;rw[show(((cU B.data).li:Int)+1)=(((cU B.data).li+1:Nat):Int) from rfl,p4]
 ·show((cU B.data).put B (cU B.data).ep ((cU B.data).li+1)).2.2.ep=_;rw[show(((cU B.data).li:Int)+1)=(((cU B.data).li+1:Nat):Int) from rfl,p4]
 ·show((cU B.data).put B (cU B.data).ep ((cU B.data).li+1)).2.2.num=_;rw[show(((cU B.data).li:Int)+1)=(((cU B.data).li+1:Nat):Int) from rfl,p4]
structure bX where
 node:Option NodeS
 cw:aP
structure WorldS where
 a:bX
 b:bX
 rules:List RuleS
 aN:List bE
 to:Int
 ah:Int
 events:List (Int × Int)
def WorldS.side (W:WorldS)(n:Int):bX:=if n=0 then W.a else W.b
def WorldS.ai (W:WorldS)(n:Int)(s:bX):WorldS:=if n=0 then { W with a:=s } else { W with b:=s }
def WorldS.cF (W:WorldS)(n:Int):Nat:=if n≠0∧n≠1 then 2 else match (W.side n).node with
 | none=>7
 | some _=>0
def WorldS.iL (W:WorldS)(n:Int)(N:NodeS)(T:Nat × List bE × NodeS × aP):Nat × WorldS :=
 if T.2.2.2.off=true then (T.1,W.ai n ⟨none,T.2.2.2⟩) else
 if T.1≠0 then (T.1,W.ai n ⟨some T.2.2.1,T.2.2.2⟩) else
 (0,{ W.ai n ⟨some T.2.2.1,T.2.2.2⟩ with
  events:=if N.role.aE=false∧T.2.2.1.role.aE=true∧W.events.length<1000 then W.events++[(n,T.2.2.1.role.ah)] else W.events
  aN:=W.aN++T.2.1.take (200-W.aN.length) })
def WorldS.tick (W:WorldS)(n:Int):Nat × WorldS :=
 if n≠0∧n≠1 then (2,W) else match (W.side n).node with
 | none=>(7,W)
 | some N=>W.iL n N (N.tick (W.side n).cw)
def WorldS.bM (W:WorldS):Nat:=if W.to<0 then 4 else W.cF W.to
def WorldS.inside (W:WorldS)(p:cC):Nat × cC × WorldS :=
 if W.bM≠0 then (W.bM,i7,W) else match (W.side W.to).node with
 | none=>(7,i7,W)
 | some N=>((N.inside p).1,(N.inside p).2.1,W.ai W.to ⟨some (N.inside p).2.2,(W.side W.to).cw⟩)
def WorldS.outside (W:WorldS)(p:cC):Nat × cC × WorldS :=
 if W.bM≠0 then (W.bM,i7,W) else match (W.side W.to).node with
 | none=>(7,i7,W)
 | some N=>((N.outside p).1,(N.outside p).2.1,W.ai W.to ⟨some (N.outside p).2.2,(W.side W.to).cw⟩)
def WorldS.at_ (W:WorldS)(k:Int):Nat:=if k<0∨k≥W.aN.length then 4 else 0
def WorldS.off (W:WorldS)(k:Int):WorldS:={ W with aN:=W.aN.eraseIdx k.toNat }
def WorldS.got (W:WorldS)(x:bE):WorldS :=
 if x.claim=true then (if x.ah>W.ah∨W.to<0 then { W with to:=x.bP,ah:=x.ah } else W) else
 if 1-x.bP≠0∧1-x.bP≠1 then W else match (W.side (1-x.bP)).node with
 | none=>W
 | some N=>W.ai (1-x.bP) ⟨some (N.hear x).2,(W.side (1-x.bP)).cw⟩
def WorldS.cq (W:WorldS)(k:Int):Nat × WorldS :=
 if W.at_ k≠0 then (W.at_ k,W) else match W.aN[k.toNat]? with
 | none=>(4,W)
 | some x=>(0,(W.off k).got x)
def WorldS.drop (W:WorldS)(k:Int):Nat × WorldS:=if W.at_ k≠0 then (W.at_ k,W) else (0,W.off k)
def WorldS.dw (W:WorldS)(k:Int):Nat × WorldS :=
 if W.at_ k≠0 then (W.at_ k,W) else if W.aN.length≥200 then (6,W) else match W.aN[k.toNat]? with
 | none=>(4,W)
 | some x=>(0,{ W with aN:=W.aN.take (k.toNat+1)++x::W.aN.drop (k.toNat+1) })
def WorldS.down (W:WorldS)(n:Int):Nat × WorldS :=
 if W.cF n≠0 then (W.cF n,W) else (0,W.ai n ⟨none,{ (W.side n).cw with off:=true }⟩)
def fD (B:aP):aP:=⟨B.data,false,-1⟩
def WorldS.up (W:WorldS)(n:Int):Nat × WorldS :=
 if n≠0∧n≠1 then (2,W) else match (W.side n).node with
 | some _=>(11,W)
 | none=>if (d6 n (fD (W.side n).cw) W.rules).1≠0 then ((d6 n (fD (W.side n).cw) W.rules).1,W.ai n ⟨none,(d6 n (fD (W.side n).cw) W.rules).2.2⟩)
  else (0,W.ai n ⟨some (d6 n (fD (W.side n).cw) W.rules).2.1,(d6 n (fD (W.side n).cw) W.rules).2.2⟩)
def AX (B:aP)(k:Int):Nat:=if k<0 then 2 else if B.off=true then 7 else 0
def oM (B:aP)(k:Int):aP:=if k<0∨B.off=true then B else ⟨B.data,B.off,k⟩
def WorldS.cut (W:WorldS)(n k:Int):Nat × WorldS :=
 if W.cF n≠0 then (W.cF n,W) else (AX (W.side n).cw k,W.ai n ⟨(W.side n).node,oM (W.side n).cw k⟩)
def WorldS.born (l:List RuleS):WorldS:=⟨⟨some (d6 0 gD l).2.1,(d6 0 gD l).2.2⟩,⟨some (d6 1 gD l).2.1,(d6 1 gD l).2.2⟩,l,[],-1,0,[]⟩
structure gW (m:Nat)(n:Int)(s:bX):Prop where
 mr:gq s.cw
 node:∀N,s.node=some N→eZ m N∧N.id=n∧s.cw.off=false
structure dM (m:Nat)(W:WorldS):Prop where
 a:gW m 0 W.a
 b:gW m 1 W.b
 rules:zip W.rules
 aN:W.aN.length≤200
 notes:∀x∈W.aN,(x.bP=0∨x.bP=1)∧x.cells.length≤8
 to:W.to = -1∨W.to=0∨W.to=1
 events:W.events.length≤1000
theorem dM.side {W:WorldS}(h:dM m W){n:Int}(hn:n=0∨n=1):gW m n (W.side n):=by
 rcases hn with rfl|rfl
 ·exact h.a
 ·exact h.b
theorem gW.mono {s:bX}(h:gW m n s)(hk:m≤k):gW k n s:=⟨h.mr,fun N hN=>⟨(h.node N hN).1.mono hk,(h.node N hN).2⟩⟩
theorem dM.mono {W:WorldS}(h:dM m W)(hk:m≤k):dM k W:=⟨h.a.mono hk,h.b.mono hk,h.rules,h.aN,h.notes,h.to,h.events⟩
theorem dM.ai {W:WorldS}(h:dM m W){n:Int}(hn:n=0∨n=1){s:bX}(hs:gW m n s):dM m (W.ai n s):=by
 rcases hn with rfl|rfl
 ·exact⟨hs,h.b,h.rules,h.aN,h.notes,h.to,h.events⟩
 ·exact⟨h.a,hs,h.rules,h.aN,h.notes,h.to,h.events⟩
theorem L3 (N:NodeS)(B:aP):(N.claim B).2.1.id=N.id:=by
 unfold NodeS.claim;repeat' split
 all_goals rfl
theorem SK (N:NodeS)(c:Bool):(N.notes c).2.id=N.id:=by
 unfold NodeS.notes;dsimp only;split<;>rfl
theorem zxE (N:NodeS)(B:aP):(N.tick B).2.2.1.id=N.id:=by
 unfold NodeS.tick;split
 ·rfl
 split
 ·split
  ·exact L3 _ _
  ·exact(SK _ (N.step.2.claim B).1.1).trans (L3 _ _)
 ·exact SK _ false
theorem zsD (N:NodeS)(p:cC):(N.begin p).2.id=N.id:=by
 unfold NodeS.begin;repeat' split
 all_goals rfl
theorem zqJ (N:NodeS)(p:cC):(N.inside p).2.2.id=N.id:=by
 unfold NodeS.inside;repeat' split
 all_goals first|rfl|exact zsD N p
theorem Z1 (N:NodeS)(p:cC):(N.outside p).2.2.id=N.id:=by
 unfold NodeS.outside;repeat' split
 all_goals rfl
theorem zwj (N:NodeS)(x:bE):(N.hear x).2.id=N.id:=by
 unfold NodeS.hear;repeat' split
 all_goals rfl
theorem R5 (N:NodeS)(c:Bool):∀x∈(N.notes c).1,x.bP=N.id:=by
 cases hb:N.cS
 ·cases c
  ·rw[r6 hb];intro x hx;cases hx
  ·rw[xO hb];intro x hx;obtain rfl:=List.mem_singleton.1 hx;rfl
 ·rw[uM hb];intro x hx;rcases List.mem_cons.1 hx with rfl|hx
  ·rfl
  ·obtain rfl:=List.mem_singleton.1 hx;rfl
theorem zu8 (N:NodeS)(B:aP):∀x∈(N.tick B).2.1,x.bP=N.id:=by
 unfold NodeS.tick;split
 ·intro x hx;cases hx
 split
 ·split
  ·intro x hx;cases hx
  ·intro x hx;exact(R5 _ (N.step.2.claim B).1.1 x hx).trans (L3 _ _)
 ·intro x hx;exact R5 N.step.2 false x hx
theorem R4 {N:NodeS}(h:N.dN.bK<32)(c:Bool):∀x∈(N.notes c).1,x.cells.length≤8:=by
 cases hb:N.cS
 ·cases c
  ·rw[r6 hb];intro x hx;cases hx
  ·rw[xO hb];intro x hx;obtain rfl:=List.mem_singleton.1 hx;exact Nat.zero_le _
 ·rw[uM hb];intro x hx;rcases List.mem_cons.1 hx with rfl|hx
  ·exact Nat.zero_le _
  ·obtain rfl:=List.mem_singleton.1 hx;show(fx N.aL.cells (N.dN.aY N.aL.cells)).length≤8;unfold fx;rw[List.length_map];exact Nat.le_of_eq (GZ N.aL.cells h).len
theorem zpZ (N:NodeS)(B:aP):(N.claim B).2.1.dN=N.dN:=by
 unfold NodeS.claim;repeat' split
 all_goals rfl
theorem Ta {N:NodeS}(h:eZ m N)(B:aP):∀x∈(N.tick B).2.1,x.cells.length≤8:=by
 unfold NodeS.tick;split
 ·intro x hx;cases hx
 split
 ·split
  ·intro x hx;cases hx
  ·intro x hx;exact R4 (by rw[zpZ];exact h.cur) (N.step.2.claim B).1.1 x hx
 ·intro x hx;exact R4 (N:=N.step.2) h.cur false x hx
theorem dM.tick {W:WorldS}(h:dM m W)(hm:m≤40000000)(n:Int):dM (m+34) (W.tick n).2:=by
 unfold WorldS.tick;split
 ·exact h.mono (Nat.le_add_right _ _)
 rename_i hn;have hn:n=0∨n=1:=by omega
 have hs:=h.side hn;cases hN:(W.side n).node with
 | none=>exact h.mono (Nat.le_add_right _ _)
 | some N =>
  obtain⟨g1,g2,g3⟩:=hs.node N hN;have bR:=g1.tick zo (W.side n).cw;have yI:=NodeS.oG (N:=N) hs.mr;have hid:=zxE N (W.side n).cw;have oQ:=zu8 N (W.side n).cw;have sY:=Ta g1 (W.side n).cw;show dM (m+34) (W.iL n N (N.tick (W.side n).cw)).2;generalize N.tick (W.side n).cw=T at bR yI hid oQ sY ⊢;obtain⟨e,l,N',B'⟩:=T;dsimp only at bR yI hid oQ sY ⊢;have Ox:B'.off=false→gW (m+34) n ⟨some N',B'⟩:=fun ho=>⟨yI,fun M hM=>by obtain rfl:=Option.some.inj hM;exact⟨bR,hid.trans g2,ho⟩⟩
  have Bf:gW (m+34) n ⟨none,B'⟩:=⟨yI,fun M hM=>by cases hM⟩;have h2:=h.mono (Nat.le_add_right m 34);unfold WorldS.iL;dsimp only;split
  ·exact h2.ai hn Bf
  rename_i ho;have ho:B'.off=false:=Bool.eq_false_iff.2 ho;split
  ·exact h2.ai hn (Ox ho)
  ·obtain⟨w1,w2,w3,w4,w5,w6,w7⟩:=h2.ai hn (Ox ho);have Wo:(W.ai n ⟨some N',B'⟩).aN=W.aN:=by unfold WorldS.ai;split<;>rfl
   have hlen:=h.aN;refine⟨w1,w2,w3,?_,?_,w6,?_⟩
   ·simp only[List.length_append,List.length_take];omega
   ·intro x hx;rcases List.mem_append.1 hx with hx|hx
    ·exact h.notes x hx
    ·refine⟨?_,sY x (List.mem_of_mem_take hx)⟩;rw[oQ x (List.mem_of_mem_take hx),g2];exact hn
   ·show(if _ then _ else _:List (Int × Int)).length≤1000;have he:=h.events;split
    ·simp only[List.length_append,List.length_singleton];omega
    ·exact he
theorem dM.hand {W:WorldS}(h:dM m W)(he:W.bM=0):(W.to=0∨W.to=1)∧∃N,(W.side W.to).node=some N:=by
 unfold WorldS.bM at he;split at he
 ·exact absurd he zd
 rename_i h1;have ht:W.to=0∨W.to=1:=by have:=h.to;omega
 refine⟨ht,?_⟩;unfold WorldS.cF at he;rw[if_neg zo]at he;cases hN:(W.side W.to).node with
 | none=>rw[hN]at he;exact absurd he zd
 | some N=>exact⟨N,rfl⟩
theorem zy4 {N:NodeS}(h:eZ m N)(p:cC):eZ (m+1) (N.inside p).2.2:=by
 unfold NodeS.inside;split
 ·exact h.mono (Nat.le_succ _)
 split
 ·exact h.mono (Nat.le_succ _)
 split
 ·exact h.pass _ _ _
 split;all_goals exact h.begin p
theorem zxI {N:NodeS}(h:eZ m N)(p:cC):eZ (m+1) (N.outside p).2.2:=by
 unfold NodeS.outside;split
 ·exact h.mono (Nat.le_succ _)
 split
 ·exact h.mono (Nat.le_succ _)
 split
 ·exact h.mono (Nat.le_succ _)
 split
 ·exact h.mono (Nat.le_succ _)
 ·exact h.pass _ _ _
theorem dM.inside {W:WorldS}(h:dM m W)(p:cC):dM (m+1) (W.inside p).2.2:=by
 unfold WorldS.inside;by_cases he:W.bM=0
 ·obtain⟨ht,N,hN⟩:=h.hand he;rw[if_neg (fun h=>h he),hN];obtain⟨g1,g2,g3⟩:=(h.side ht).node N hN;exact(h.mono (Nat.le_succ m)).ai ht ⟨(h.side ht).mr,fun M hM=>by obtain rfl:=Option.some.inj hM;exact⟨zy4 g1 p,(zqJ N p).trans g2,g3⟩⟩
 ·rw[if_pos he];exact h.mono (Nat.le_succ m)
theorem dM.outside {W:WorldS}(h:dM m W)(p:cC):dM (m+1) (W.outside p).2.2:=by
 unfold WorldS.outside;by_cases he:W.bM=0
 ·obtain⟨ht,N,hN⟩:=h.hand he;rw[if_neg (fun h=>h he),hN];obtain⟨g1,g2,g3⟩:=(h.side ht).node N hN;exact(h.mono (Nat.le_succ m)).ai ht ⟨(h.side ht).mr,fun M hM=>by obtain rfl:=Option.some.inj hM;exact⟨zxI g1 p,(Z1 N p).trans g2,g3⟩⟩
 ·rw[if_pos he];exact h.mono (Nat.le_succ m)
theorem dM.off {W:WorldS}(h:dM m W)(k:Int):dM m (W.off k):=by
 have h1:(W.aN.eraseIdx k.toNat).length≤W.aN.length:=List.length_eraseIdx_le _ _;have h2:=h.aN;exact⟨h.a,h.b,h.rules,by show(W.aN.eraseIdx k.toNat).length≤200;omega,fun x hx=>h.notes x (List.mem_of_mem_eraseIdx hx),h.to,h.events⟩
theorem dM.got {W:WorldS}(h:dM m W){x:bE}(hx:x.bP=0∨x.bP=1):dM m (W.got x):=by
 unfold WorldS.got;split
 ·split
  ·exact⟨h.a,h.b,h.rules,h.aN,h.notes,.inr hx,h.events⟩
  ·exact h
 split
 ·exact h
 rename_i h1;have hn:1-x.bP=0∨1-x.bP=1:=by omega
 cases hN:(W.side (1-x.bP)).node with
 | none=>exact h
 | some N =>
  obtain⟨g1,g2,g3⟩:=(h.side hn).node N hN;exact h.ai hn ⟨(h.side hn).mr,fun M hM=>by obtain rfl:=Option.some.inj hM;exact⟨g1.hear x,(zwj N x).trans g2,g3⟩⟩
theorem dM.cq {W:WorldS}(h:dM m W)(k:Int):dM m (W.cq k).2:=by
 unfold WorldS.cq;split
 ·exact h
 cases hx:W.aN[k.toNat]? with
 | none=>exact h
 | some x=>exact(h.off k).got (h.notes x (List.mem_of_getElem? hx)).1
theorem dM.drop {W:WorldS}(h:dM m W)(k:Int):dM m (W.drop k).2:=by
 unfold WorldS.drop;split
 ·exact h
 ·exact h.off k
theorem dM.dw {W:WorldS}(h:dM m W)(k:Int):dM m (W.dw k).2:=by
 unfold WorldS.dw;split
 ·exact h
 split
 ·exact h
 rename_i h2;cases hx:W.aN[k.toNat]? with
 | none=>exact h
 | some x =>
  refine⟨h.a,h.b,h.rules,?_,fun y hy=>?_,h.to,h.events⟩
  ·show(W.aN.take (k.toNat+1)++x::W.aN.drop (k.toNat+1)).length≤200;simp only[List.length_append,List.length_take,List.length_cons,List.length_drop];omega
  ·rcases List.mem_append.1 hy with hy|hy
   ·exact h.notes y (List.mem_of_mem_take hy)
   ·rcases List.mem_cons.1 hy with rfl|hy
    ·exact h.notes y (List.mem_of_getElem? hx)
    ·exact h.notes y (List.mem_of_mem_drop hy)
theorem BF {W:WorldS}(he:W.cF n=0):(n=0∨n=1)∧∃N,(W.side n).node=some N:=by
 unfold WorldS.cF at he;split at he
 ·exact absurd he zd
 rename_i h1;refine⟨by omega,?_⟩;cases hN:(W.side n).node with
 | none=>rw[hN]at he;exact absurd he zd
 | some N=>exact⟨N,rfl⟩
theorem dM.down {W:WorldS}(h:dM m W)(n:Int):dM m (W.down n).2:=by
 unfold WorldS.down;by_cases he:W.cF n=0
 ·obtain⟨hn,N,hN⟩:=BF he;rw[if_neg (fun h=>h he)];have hb:=(h.side hn).mr;exact h.ai hn ⟨⟨hb.len,hb.lo,hb.hi⟩,fun M hM=>by cases hM⟩
 ·rw[if_pos he];exact h
theorem M3 {B:aP}(h:gq B):gq (fD B):=⟨h.len,by show(-1:Int)≤-1;decide,by show(-1:Int)≤9223372036854775807;decide⟩
theorem zyH (C:dC)(B:aP)(e l:Int)(h1:B.off=false)(h2:B.left = -1):(C.put B e l).2.1.off=false:=by
 unfold dC.put;repeat' split
 all_goals first|exact h1|exact(QG _ _ _ _ h1 h2).2.1
theorem zyz (n:Int)(B:aP)(l:List RuleS):(d6 n (fD B) l).2.2.off=false:=zyH _ _ _ _ rfl rfl
theorem dM.up {W:WorldS}(h:dM m W)(n:Int):dM m (W.up n).2:=by
 unfold WorldS.up;split
 ·exact h
 rename_i h1;have hn:n=0∨n=1:=by omega
 cases hN:(W.side n).node with
 | some N=>exact h
 | none =>
  obtain⟨g1,g2⟩:=Tv (id:=n) (B:=fD (W.side n).cw) (xs:=W.rules) hn (M3 (h.side hn).mr) (df.2 h.rules);dsimp only;split
  ·exact h.ai hn ⟨g1,fun M hM=>by cases hM⟩
  ·rename_i h2;have h2:(d6 n (fD (W.side n).cw) W.rules).1=0:=Classical.byContradiction h2;exact h.ai hn ⟨g1,fun M hM=>by obtain rfl:=Option.some.inj hM;exact⟨(g2 h2).mono (Nat.zero_le m),rfl,zyz n (W.side n).cw W.rules⟩⟩
theorem zv3 {B:aP}(h:gq B)(k:Int)(hk:k≤9223372036854775807):gq (oM B k):=by
 unfold oM;split
 ·exact h
 ·exact⟨h.len,by dsimp only;omega,hk⟩
theorem zsQ (B:aP)(k:Int):(oM B k).off=B.off:=by
 unfold oM;split<;>rfl
theorem dM.cut {W:WorldS}(h:dM m W)(n k:Int)(hk:k≤9223372036854775807):dM m (W.cut n k).2:=by
 unfold WorldS.cut;by_cases he:W.cF n=0
 ·obtain⟨hn,N,hN⟩:=BF he;rw[if_neg (fun h=>h he)]
  exact h.ai hn ⟨zv3 (h.side hn).mr k hk,fun M hM=>by
   obtain⟨g1,g2,g3⟩:=(h.side hn).node M hM;exact⟨g1,g2,(zsQ _ _).trans g3⟩⟩
 ·rw[if_pos he];exact h
theorem dM.born {l:List RuleS}(hl:zip l):(d6 0 gD l).1=0∧(d6 1 gD l).1=0∧dM 0 (.born l):=by
 have h0:cU gD.data=⟨0,0,0,false⟩:=by decide +kernel
 have hb:gq gD:=⟨by simp[gD],by decide,by decide⟩;obtain⟨a1,a2⟩:=p7.born (id:=0) (B:=gD) (rules:=l) (.inl rfl) (df.2 hl) ⟨hb,rfl,rfl⟩ (by rw[h0];decide) (by rw[h0];decide) (by rw[h0];decide);obtain⟨b1,b2⟩:=p7.born (id:=1) (B:=gD) (rules:=l) (.inr rfl) (df.2 hl) ⟨hb,rfl,rfl⟩ (by rw[h0];decide) (by rw[h0];decide) (by rw[h0];decide);refine⟨a1,b1,⟨a2.pow.mr,fun N hN=>?_⟩,⟨b2.pow.mr,fun N hN=>?_⟩,hl,Nat.zero_le _,(fun x hx=>by cases hx),.inl rfl,Nat.zero_le _⟩
 ·obtain rfl:=Option.some.inj hN;exact⟨a2.ok,rfl,a2.pow.off⟩
 ·obtain rfl:=Option.some.inj hN;exact⟨b2.ok,rfl,b2.pow.off⟩
theorem Ev.iF (hp:H.Perm H'){b:Nat}(h:cp H b):cp H' b:=by
 obtain⟨e,he,hb⟩:=h;exact⟨e,hp.mem_iff.1 he,hb⟩
theorem Ev.St.perm (h:St w0 S w H)(hp:H.Perm H'):St w0 S w H' :=
 ⟨h.ext,fun e he=>h.each e (hp.mem_iff.2 he),fun e he=>h.loc e (hp.mem_iff.2 he),fun e he=>h.may e (hp.mem_iff.2 he),(hp.pairwise_iff (fun {a b} h=>Bt a b h)).1 h.apart⟩
theorem Ev.Has.perm (h:Has w H)(hp:H.Perm H'):Has w H' :=
 ⟨fun e he=>h.each e (hp.mem_iff.2 he),fun e he=>h.loc e (hp.mem_iff.2 he),fun e he=>h.lt e (hp.mem_iff.2 he),(hp.pairwise_iff (fun {a b} h=>Bt a b h)).1 h.apart⟩
theorem Ev.ak.perm {G G':List bZ}(k:ak w w' H G)(hp:H.Perm H')(hq:G.Perm G'):ak w w' H' G' :=
 ⟨k.ext.mono fun _ hb=>iF hp hb,k.has.perm hq,fun e he b hb=>(k.aW e (hq.mem_iff.2 he) b hb).imp (iF hp) id⟩
theorem d7.turns (h:d7 H q)(hq:q≤w.heap.size)(k:ak w w' H H'):d7 H' q:=fun b ⟨e,he,hb⟩=>(k.aW e he b hb).elim (h b) (fun g=>Nat.le_trans hq g)
theorem d7.perm (h:d7 H q)(hp:H.Perm H'):d7 H' q:=fun b hb=>h b (iF hp.symm hb)
theorem d7.app {A B:List bZ}(h:d7 (A++B) q):d7 A q∧d7 B q:=⟨fun b hb=>h b (dJ.2 (.inl hb)),fun b hb=>h b (dJ.2 (.inr hb))⟩
theorem bF.turns {ks:List Nat}(h:bF w E q ks)(hH:d7 H q)(k:ak w w' H H'):bF w' E q ks:=h.ext k.ext hH
theorem Zm (hH:d7 H q)(hw:Has w H)(hb:cp H b):q≤w.heap.size:=by
 have h1:=hH b hb;obtain⟨e,he,hb⟩:=hb;have h2:=hw.lt e he b hb;omega
structure cX where
 s:Nat
 A:ja
structure WorldA where
 w:Nat
 a:cX
 b:cX
 ra:Option Addr
 rc:Nat
 fa:Option Addr
 fc:Nat
 vs:List bW
 ea:Option Addr
 ec:Nat
def WorldA.side (X:WorldA)(n:Int):cX:=if n=0 then X.a else X.b
def WorldA.ai (X:WorldA)(n:Int)(Y:cX):WorldA:=if n=0 then { X with a:=Y } else { X with b:=Y }
def Nk (Y:cX)(s:bX):Option Addr:=match s.node with|some _=>some ⟨Y.A.n,0,none⟩|none=>none
def ry (Y:cX)(s:bX):List Value:=[.pointer (Nk Y s),.pointer (some ⟨Y.A.b,0,none⟩)]
def EI (X:WorldA)(W:WorldS):List Value:=[.pointer (some ⟨X.a.s,0,none⟩),.pointer (some ⟨X.b.s,0,none⟩),.slice X.ra W.rules.length X.rc,.slice X.fa W.aN.length X.fc,.int .i64 W.to,.int .i64 W.ah,.slice X.ea W.events.length X.ec]
def fv (e:Int × Int):List Value:=[.int .i64 e.1,.int .i64 e.2]
theorem ua:cR 2 fv:=⟨fun _=>rfl,fun _=>rfl,by decide⟩
def nH (Y:cX)(s:bX):List bZ:=match s.node with
 | some N=>fP Y.A N s.cw
 | none=>[blk Y.A.b 176 (dL s.cw)]
def gG (X:WorldA)(W:WorldS)(Y Z:cX)(s t:bX):List bZ:=[blk X.w 97 (EI X W),blk Y.s 104 (ry Y s),blk Z.s 104 (ry Z t),az 58 5 eW (.slice X.ra W.rules.length X.rc) W.rules,az 273 5 bA (.slice X.fa W.aN.length X.fc) X.vs,dX X.vs W.aN,az 81 2 fv (.slice X.ea W.events.length X.ec) W.events]
def cQ (X:WorldA)(W:WorldS):List bZ:=gG X W X.a X.b W.a W.b++(nH X.a W.a++nH X.b W.b)
def wq (X:WorldA)(W:WorldS)(n:Int):List bZ:=gG X W (X.side n) (X.side (1-n)) (W.side n) (W.side (1-n))++(nH (X.side n) (W.side n)++nH (X.side (1-n)) (W.side (1-n)))
theorem ED (X:WorldA)(W:WorldS){n:Int}(hn:n=0∨n=1):(cQ X W).Perm (wq X W n):=by
 rcases hn with rfl|rfl
 ·exact List.Perm.refl _
 ·unfold cQ wq;refine List.Perm.append ?_ List.perm_append_comm;exact List.Perm.cons _ (List.Perm.swap _ _ _)
section
variable {X:WorldA}{W:WorldS}
structure bH (E:Nat→Addr)(q m:Nat)(w:World)(X:WorldA)(W:WorldS):Prop where
 has:Has w (cQ X W)
 ok:dM m W
 eD:bF w E q xU
 high:d7 (cQ X W) q
theorem bH.size (h:bH E q m w X W):q≤w.heap.size:=Zm h.high h.has (b:=X.w) ⟨_,List.mem_of_getElem? (i:=0) rfl,List.mem_singleton.2 rfl⟩
theorem bH.turns {m':Nat}{X':WorldA}{W':WorldS}(h:bH E q m w X W)(k:ak w w' (cQ X W) (cQ X' W'))(ok:dM m' W'):bH E q m' w' X' W' :=
 ⟨k.has,ok,h.eD.turns h.high k,h.high.turns h.size k⟩
theorem bH.no (h:bH E q m w X W)(hx:Ext No w w'):bH E q m w' X W:=h.turns (ak.aF h.has hx) h.ok
theorem bH.view (h:bH E q m w X W){n:Int}(hn:n=0∨n=1):Has w (wq X W n)∧d7 (wq X W n) q:=⟨h.has.perm (ED X W hn),h.high.perm (ED X W hn)⟩
theorem ak.Ai (hn:n=0∨n=1){X':WorldA}{W':WorldS}(k:ak w w' (wq X W n) (wq X' W' n)):ak w w' (cQ X W) (cQ X' W'):=k.perm (ED X W hn).symm (ED X' W' hn).symm
theorem Ev.ak.frame {A B R:List bZ}(h:Has w (A++R))(k:ak w w' A B):ak w w' (A++R) (B++R):=(h.start.call k).turns
def jS (X:WorldA)(W:WorldS)(n:Int):List bZ:=gG X W (X.side n) (X.side (1-n)) (W.side n) (W.side (1-n))++nH (X.side n) (W.side n)
theorem G7 (X:WorldA)(W:WorldS)(n:Int):wq X W n=jS X W n++nH (X.side (1-n)) (W.side (1-n)):=by
 unfold wq jS;rw[List.append_assoc]
theorem bH.half (h:bH E q m w X W){n:Int}(hn:n=0∨n=1):Has w (jS X W n)∧d7 (jS X W n) q:=by
 obtain⟨h1,h2⟩:=h.view hn;rw[G7]at h1 h2;exact⟨h1.left,h2.app.1⟩
theorem ak.world (h:Has w (cQ X W)){n:Int}(hn:n=0∨n=1){X':WorldA}{W':WorldS}(k:ak w w' (jS X W n) (jS X' W' n))(hx:X'.side (1-n)=X.side (1-n))(hw:W'.side (1-n)=W.side (1-n)):ak w w' (cQ X W) (cQ X' W'):=by
 have h1:=h.perm (ED X W hn);rw[G7]at h1;refine ak.Ai hn ?_;rw[G7,G7,hx,hw];exact ak.frame h1 k
theorem Mh (hn:n=0∨n=1)(Y:cX)(s:bX):(X.ai n Y).side n=Y∧(X.ai n Y).side (1-n)=X.side (1-n)∧(W.ai n s).side n=s∧(W.ai n s).side (1-n)=W.side (1-n):=by
 rcases hn with rfl|rfl<;>exact⟨rfl,rfl,rfl,rfl⟩
theorem SC (hn:n=0∨n=1){Y:cX}(hY:Y.s=(X.side n).s)(s:bX):jS (X.ai n Y) (W.ai n s) n=gG X W Y (X.side (1-n)) s (W.side (1-n))++nH Y s:=by
 rcases hn with rfl|rfl
 ·show _++_=_++_;congr 1;show [blk X.w 97 [.pointer (some ⟨Y.s,0,none⟩),_,_,_,_,_,_],_,_,_,_,_,_]=_;rw[hY];rfl
 ·show _++_=_++_;congr 1;show [blk X.w 97 [_,.pointer (some ⟨Y.s,0,none⟩),_,_,_,_,_],_,_,_,_,_,_]=_;rw[hY];rfl
theorem ak.side (h:Has w (cQ X W)){n:Int}(hn:n=0∨n=1){Y:cX}(hY:Y.s=(X.side n).s){s:bX}(k:ak w w' (jS X W n) (gG X W Y (X.side (1-n)) s (W.side (1-n))++nH Y s)):ak w w' (cQ X W) (cQ (X.ai n Y) (W.ai n s)):=by
 rw[←SC hn hY s]at k;exact ak.world h hn k (Mh (W:=W) hn Y s).2.1 (Mh (X:=X) hn Y s).2.2.2
theorem bH.qq (h:bH E q m w X W){n:Int}(hn:n=0∨n=1)(k:ak w w' (jS X W n) (jS X W n)):bH E q m w' X W:=h.turns (ak.world h.has hn k rfl rfl) h.ok
theorem Ev.St.eU {L:List bZ}(h:St w0 S w L)(i p n:Nat){e:bZ}{b:Nat}(hi:L[i]?=some e)(hb:b∈e.aW)(hp:i<p∨p+n≤i):¬cp ((L.drop p).take n) b:=by
 rintro⟨f,hf,rQ⟩;obtain⟨j,hj⟩:=List.getElem?_of_mem hf;rw[List.getElem?_take]at hj;split at hj
 ·rw[List.getElem?_drop]at hj;exact h.bS i (p+j) hi hj zo b hb rQ
 ·cases hj
end
section
variable {X:WorldA}{W:WorldS}
theorem Gc {Y:cX}{s:bX}{N:NodeS}(h:s.node=some N):ry Y s=[.pointer (some ⟨Y.A.n,0,none⟩),.pointer (some ⟨Y.A.b,0,none⟩)]:=by
 unfold ry Nk;rw[h]
theorem KS {Y:cX}{s:bX}(h:s.node=none):ry Y s=[.pointer none,.pointer (some ⟨Y.A.b,0,none⟩)]:=by
 unfold ry Nk;rw[h]
theorem zpq {Y:cX}{s:bX}{N:NodeS}(h:s.node=some N):nH Y s=fP Y.A N s.cw:=by
 unfold nH;rw[h]
theorem zpp {Y:cX}{s:bX}(h:s.node=none):nH Y s=[blk Y.A.b 176 (dL s.cw)]:=by
 unfold nH;rw[h]
theorem Et {N:NodeS}(hn:n=0∨n=1)(h:(W.side n).node=some N):W.cF n=0:=by
 unfold WorldS.cF;rw[if_neg zo,h]
theorem Es (hn:n=0∨n=1)(h:(W.side n).node=none):W.cF n=7:=by
 unfold WorldS.cF;rw[if_neg zo,h]
theorem BQ (n:Int)(h:bH E q m w X W):aa prog 143 #[.pointer (some ⟨X.w,0,none⟩),.int .i64 n] w fun v w'=>v=.tuple #[.pointer (if W.cF n=0 then some ⟨(X.side n).s,0,none⟩ else none),gC E (W.cF n)]∧Ext No w w':=by
 by_cases hn:n=0∨n=1
 ·obtain⟨hV,hQ⟩:=h.view hn;have ef:∀b,cp (wq X W n) b→q≤b:=hQ;cases hN:(W.side n).node with
  | none =>
   rw[Es hn hN,if_neg zd];rcases hn with rfl|rfl
   all_goals
    refine zN func143 ntmps143 ?_;have hS:=hV.start;refine ao.mk zd zd ?_;refine hS.lD 0 ?_;refine hS.ld 1 rfl (v:=.pointer none) (by rw[KS hN];rfl) ?_;(conv=>whnf)
    (refine ir aj mixed [] No [0,1,2] zk ?_;rintro w1 rfl;replace hS:=hS.drew)
    repeat' first|refine zP ?_|refine hS.cV (h.eD.at_ 7 rfl) (bF.out h.eD 7 rfl ef) id ?_
    exact⟨rfl,Ext.drawn _ _ _⟩
  | some N =>
   rw[Et hn hN,if_pos rfl];rcases hn with rfl|rfl
   all_goals
    refine zN func143 ntmps143 ?_;have hS:=hV.start;refine ao.mk zd zd ?_;refine hS.lD 0 ?_;refine hS.ld 1 rfl (v:=.pointer (some ⟨(X.side _).A.n,0,none⟩)) (by rw[Gc hN];rfl) ?_;refine ao.mk zd zd ?_;refine hS.lD 0 ?_;refine zE ?_;exact⟨rfl,Ext.refl _ _⟩
 ·have hu:W.cF n=2:=if_pos zo;rw[hu,if_neg zd];have ef:∀b,cp (cQ X W) b→q≤b:=h.high;refine zN func143 ntmps143 ?_;have hS:=h.has.start;refine ca (fun h1=>?_) (fun h1=>absurd (.inl h1) hn);refine ca (fun h1=>?_) (fun h1=>absurd (.inr h1) hn);(conv=>whnf)
  (refine ir aj mixed [] No [0,1,2] zk ?_;rintro w1 rfl;replace hS:=hS.drew)
  repeat' first|refine zP ?_|refine hS.cV (h.eD.at_ 2 rfl) (bF.out h.eD 2 rfl ef) id ?_
  exact⟨rfl,Ext.drawn _ _ _⟩
theorem t8 (h:Has w (cQ X W)):aa prog 90 #[.pointer (some ⟨X.w,0,none⟩)] w fun v w'=>v=.int .i64 (W.aN.length:Nat)∧w=w':=by
 refine zN func90 ntmps90 ?_;have hS:=h.start;refine hS.lD 0 ?_;exact zH
theorem Hw (h:bH E q m w X W):aa prog 151 #[.pointer (some ⟨X.w,0,none⟩)] w fun v w'=>v=.tuple #[.pointer (if W.bM=0 then some ⟨(X.side W.to).s,0,none⟩ else none),gC E W.bM]∧Ext No w w':=by
 have ef:∀b,cp (cQ X W) b→q≤b:=h.high;refine zN func151 ntmps151 ?_;have hS:=h.has.start;refine hS.lD 0 ?_;apply aR<;>intro h1
 ·have hu:W.bM=4:=if_pos h1;rw[hu,if_neg zd];(conv=>whnf)
  (refine ir aj mixed [] No [0,1,2] zk ?_;rintro w1 rfl;replace hS:=hS.drew)
  repeat' first|refine zP ?_|refine hS.cV (h.eD.at_ 4 rfl) (bF.out h.eD 4 rfl ef) id ?_
  exact⟨rfl,Ext.drawn _ _ _⟩
 ·have hu:W.bM=W.cF W.to:=if_neg h1;rw[hu];refine hS.lD 0 ?_;refine(BQ W.to h).mono ?_;rintro v w1 ⟨rfl,hx⟩;refine zE ?_;exact⟨rfl,hx⟩
theorem MZ (k:Int)(h:bH E q m w X W):aa prog 141 #[.pointer (some ⟨X.w,0,none⟩),.int .i64 k] w fun v w'=>v=gC E (W.at_ k)∧Ext No w w':=by
 have ef:∀b,cp (cQ X W) b→q≤b:=h.high;refine zN func141 ntmps141 ?_;have hS:=h.has.start;apply aR<;>intro h1
 ·have hu:W.at_ k=4:=if_pos (.inl h1);rw[hu];repeat' first|refine zP ?_|refine hS.cK (h.eD.at_ 4 rfl) (bF.out h.eD 4 rfl ef) ?_
  exact⟨rfl,Ext.refl _ _⟩
 refine hS.lD 0 ?_;apply aR<;>intro h2
 ·have hu:W.at_ k=4:=if_pos (.inr h2);rw[hu];repeat' first|refine zP ?_|refine hS.cK (h.eD.at_ 4 rfl) (bF.out h.eD 4 rfl ef) ?_
  exact⟨rfl,Ext.refl _ _⟩
 ·have hu:W.at_ k=0:=if_neg zo;rw[hu];refine zE ?_;exact⟨rfl,Ext.refl _ _⟩
end
section
variable {X:WorldA}{W:WorldS}
theorem zqD {N:NodeS}(h:(W.side n).node=some N):jS X W n=gG X W (X.side n) (X.side (1-n)) (W.side n) (W.side (1-n))++fP (X.side n).A N (W.side n).cw:=by
 unfold jS;rw[zpq h]
theorem zsX {N:NodeS}{Y Z:cX}{t:bX}(h:(W.side n).node=some N):gG X W Y Z (W.side n) t=gG X W Y Z ⟨some N,(W.side n).cw⟩ t:=by
 unfold gG;rw[Gc h,Gc (s:=⟨some N,(W.side n).cw⟩) rfl]
theorem zsW {Y Z:cX}{t:bX}(h:(W.side n).node=none):gG X W Y Z (W.side n) t=gG X W Y Z ⟨none,(W.side n).cw⟩ t:=by
 unfold gG;rw[KS h,KS (s:=⟨none,(W.side n).cw⟩) rfl]
theorem rz {N:NodeS}(h:(W.side n).node=some N):jS X W n=gG X W (X.side n) (X.side (1-n)) ⟨some N,(W.side n).cw⟩ (W.side (1-n))++fP (X.side n).A N (W.side n).cw:=by
 rw[zqD h,zsX h]
theorem RU (h:(W.side n).node=none):jS X W n=gG X W (X.side n) (X.side (1-n)) ⟨none,(W.side n).cw⟩ (W.side (1-n))++[blk (X.side n).A.b 176 (dL (W.side n).cw)]:=by
 unfold jS;rw[zpp h,zsW h]
theorem Bx (hn:n=0∨n=1):X.ai n (X.side n)=X:=by
 rcases hn with rfl|rfl<;>rfl
theorem Td (n:Int)(h:bH E q m w X W):aa prog 100 #[.pointer (some ⟨X.w,0,none⟩),.int .i64 n] w fun v w'=>v=gC E (W.down n).1∧ak w w' (cQ X W) (cQ X (W.down n).2):=by
 refine zN func100 ntmps100 ?_;refine(BQ n h).mono ?_;rintro v w1 ⟨rfl,hx⟩;by_cases hu:W.cF n=0
 case neg =>
  obtain⟨j,hj⟩:∃j,W.cF n=j+1:=⟨W.cF n-1,by omega⟩;rw[show W.down n=(W.cF n,W) from if_pos hu,hj];refine zE ?_;exact⟨rfl,ak.aF h.has hx⟩
 obtain⟨hn,N,hN⟩:=BF hu;rw[show W.down n=(0,W.ai n ⟨none,{ (W.side n).cw with off:=true }⟩) from if_neg (fun h=>h hu),hu,if_pos rfl];have px:=(h.ok.side hn).mr;have hH:=(h.half hn).1
 have hT:∀{w'},ak w w' (jS X W n) (gG X W (X.side n) (X.side (1-n)) ⟨none,{ (W.side n).cw with off:=true }⟩ (W.side (1-n))++[blk (X.side n).A.b 176 (dL { (W.side n).cw with off:=true })])→ak w w' (cQ X W) (cQ X (W.ai n ⟨none,{ (W.side n).cw with off:=true }⟩)):=fun k=>by
  have:=ak.side h.has hn (Y:=X.side n) rfl (s:=⟨none,{ (W.side n).cw with off:=true }⟩) k
  rwa [Bx hn]at this
 have hS:=hH.start.no hx;rw[rz hN]at hS hT;generalize W.ai n ⟨none,{ (W.side n).cw with off:=true }⟩=W' at hT ⊢;generalize (W.side n).cw=B at hS hT px ⊢;refine hS.lD 1 ?_;refine(zvZ (hS.blk 14 rfl) px.len).mono ?_;rintro v w' ⟨hx,hB⟩;replace hS:=hS.uB 14 hx hB;refine hS.sT 1 fun w' hS=>?_
 refine zE ?_;exact⟨rfl,hT (St.turns (hS.dv [0,1,2,3,4,5,6,14] zd))⟩
theorem Ua (n k:Int)(h:bH E q m w X W):aa prog 102 #[.pointer (some ⟨X.w,0,none⟩),.int .i64 n,.int .i64 k] w fun v w'=>v=gC E (W.cut n k).1∧ak w w' (cQ X W) (cQ X (W.cut n k).2):=by
 refine zN func102 ntmps102 ?_;refine(BQ n h).mono ?_;rintro v w1 ⟨rfl,hx⟩;by_cases hu:W.cF n=0
 case neg =>
  obtain⟨j,hj⟩:∃j,W.cF n=j+1:=⟨W.cF n-1,by omega⟩;rw[show W.cut n k=(W.cF n,W) from if_pos hu,hj];refine zE ?_;exact⟨rfl,ak.aF h.has hx⟩
 obtain⟨hn,N,hN⟩:=BF hu;rw[show W.cut n k=(AX (W.side n).cw k,W.ai n ⟨(W.side n).node,oM (W.side n).cw k⟩) from if_neg (fun h=>h hu),hu,if_pos rfl,hN];have px:=(h.ok.side hn).mr;obtain⟨hH,hQ⟩:=h.half hn
 have hT:∀{w'},ak w w' (jS X W n) (gG X W (X.side n) (X.side (1-n)) ⟨some N,oM (W.side n).cw k⟩ (W.side (1-n))++fP (X.side n).A N (oM (W.side n).cw k))→ak w w' (cQ X W) (cQ X (W.ai n ⟨some N,oM (W.side n).cw k⟩)):=fun k=>by
  have:=ak.side h.has hn (Y:=X.side n) rfl k
  rwa [Bx hn]at this
 have hS:=hH.start.no hx;have hE:=h.eD.ext hS.ext hQ;rw[rz hN]at hS hT hQ;generalize W.ai n ⟨some N,oM (W.side n).cw k⟩=W' at hT ⊢;generalize (W.side n).cw=B at hS hT px hQ ⊢;have hq:q≤(X.side n).A.b:=hQ _ ⟨_,List.mem_of_getElem? (i:=14) rfl,List.mem_singleton.2 rfl⟩;refine hS.lD 1 ?_;refine(zvW k (hS.blk 14 rfl) px.len (hE.sub rfl) hq).mono ?_;rintro v w' ⟨rfl,hx,hB⟩;replace hS:=hS.uB 14 hx hB;refine zE ?_;exact⟨rfl,hT (St.turns hS)⟩
theorem GU (p:cC)(h:bH E q m w X W)(hm:m+1≤50000000):aa prog 96 #[.pointer (some ⟨X.w,0,none⟩),.agg (iN p).toArray] w fun v w'=>v=.tuple #[.agg (iN (W.inside p).2.1).toArray,gC E (W.inside p).1]∧ak w w' (cQ X W) (cQ X (W.inside p).2.2):=by
 by_cases hu:W.bM=0
 case neg =>
  obtain⟨j,hj⟩:∃j,W.bM=j+1:=⟨W.bM-1,by omega⟩;rw[show W.inside p=(W.bM,i7,W) from if_pos hu];refine zN func96 ntmps96 ?_;have hS:=St.start w No;refine hS.new (fun bp w1 qe hS=>?_);refine hS.new (fun br w2 lr hS=>?_);refine hS.cn (Hw (h.no hS.ext)) fun w3 hS=>?_
  rw[hj];refine hS.sT 1 fun w' hS=>?_
  refine hS.lX 1 ?_;refine zE ?_;exact⟨rfl,ak.aF h.has hS.ext⟩
 obtain⟨hn,N,hN⟩:=h.ok.hand hu;have oT:=((h.ok.side hn).node N hN).1
 have hw:W.inside p=((N.inside p).1,(N.inside p).2.1,W.ai W.to ⟨some (N.inside p).2.2,(W.side W.to).cw⟩):=by
  unfold WorldS.inside;rw[if_neg (fun h=>h hu),hN]
 rw[hw];obtain⟨hH,hQ⟩:=h.half hn
 have hT:∀{w'},ak w w' (jS X W W.to) (gG X W (X.side W.to) (X.side (1-W.to)) ⟨some (N.inside p).2.2,(W.side W.to).cw⟩ (W.side (1-W.to))++fP (X.side W.to).A (N.inside p).2.2 (W.side W.to).cw)→ak w w' (cQ X W) (cQ X (W.ai W.to ⟨some (N.inside p).2.2,(W.side W.to).cw⟩)):=fun k=>by
  have:=ak.side h.has hn (Y:=X.side W.to) rfl k
  rwa [Bx hn]at this
 refine zN func96 ntmps96 ?_;have hS:=hH.start;rw[rz hN]at hS;refine hS.new (fun bp w1 qe hS=>?_);refine hS.new (fun br w2 lr hS=>?_);have aX:bH E q m w2 X W:=h.qq hn (by rw[rz hN];exact(hS.keep 15).turns);refine hS.cn (Hw aX) fun w3 hS=>?_
 rw[hu,if_pos rfl];rw[rz hN]at hT hQ;have hE:=h.eD.ext hS.ext hQ;have Cs:d7 (fj (X.side W.to).A N) q:=hQ.app.2.app.1;have hs:=hS.eU 1 7 7 rfl (List.mem_singleton.2 rfl) (.inl zd);have hp:=hS.eU 15 7 7 rfl (List.mem_singleton.2 rfl) (.inr zd);have dR:=hS.ne 1 16 rfl rfl zd;have zB:=hS.ne 15 16 rfl rfl zd;generalize W.ai W.to ⟨some (N.inside p).2.2,(W.side W.to).cw⟩=W' at hT ⊢;(conv=>whnf)
 (refine ir aj mixed [] (fun b=>cp (fj (X.side W.to).A N) b∨b=br) [0,1,2,3,4,5,6,7,8,9] zk ?_;rintro w1 rfl;replace hS:=hS.drew)
 have hK:=hS.ref (fun b=>cp (fj (X.side W.to).A N) b∨b=br);refine hS.bU 1 rfl (v:=.pointer (some ⟨(X.side W.to).A.n,0,none⟩)) rfl (fun h=>h.elim hs dR) ?_;refine hS.fK 15 rfl rfl (fun h=>h.elim hp zB) ?_;(conv=>whnf);have pM:Has _ (fj (X.side W.to).A N):=Has.left (B:=[_,_,_]) (Has.right (A:=[_,_,_,_,_,_,_]) hS.has);refine(ZY p pM oT hm (hE.ext (Ext.drawn No _ _) fun _ h=>h.elim) Cs).mono ?_;rintro v w' ⟨rfl,hk⟩;replace hS:=St.di (A:=gG X W (X.side W.to) (X.side (1-W.to)) ⟨some N,(W.side W.to).cw⟩ (W.side (1-W.to))) (B:=[_,_,_]) hS hk;replace hK:=hK.trans (hk.ext.mono fun b hb=>.inl hb);refine ae.mk hK ?_;refine hS.kD hK 16 rfl zl rfl (.inr rfl) (fun w' hK hS=>ae.mk hK ?_);refine hS.lX 16 ?_;refine zE ?_;exact⟨rfl,hT (hS.keep 15).turns⟩
theorem Gj (p:cC)(h:bH E q m w X W)(hm:m+1≤50000000):aa prog 98 #[.pointer (some ⟨X.w,0,none⟩),.agg (iN p).toArray] w fun v w'=>v=.tuple #[.agg (iN (W.outside p).2.1).toArray,gC E (W.outside p).1]∧ak w w' (cQ X W) (cQ X (W.outside p).2.2):=by
 by_cases hu:W.bM=0
 case neg =>
  obtain⟨j,hj⟩:∃j,W.bM=j+1:=⟨W.bM-1,by omega⟩;rw[show W.outside p=(W.bM,i7,W) from if_pos hu];refine zN func98 ntmps98 ?_;have hS:=St.start w No;refine hS.new (fun bp w1 qe hS=>?_);refine hS.new (fun br w2 lr hS=>?_);refine hS.cn (Hw (h.no hS.ext)) fun w3 hS=>?_
  rw[hj];refine hS.sT 1 fun w' hS=>?_
  refine hS.lX 1 ?_;refine zE ?_;exact⟨rfl,ak.aF h.has hS.ext⟩
 obtain⟨hn,N,hN⟩:=h.ok.hand hu;have oT:=((h.ok.side hn).node N hN).1
 have hw:W.outside p=((N.outside p).1,(N.outside p).2.1,W.ai W.to ⟨some (N.outside p).2.2,(W.side W.to).cw⟩):=by
  unfold WorldS.outside;rw[if_neg (fun h=>h hu),hN]
 rw[hw];obtain⟨hH,hQ⟩:=h.half hn
 have hT:∀{w'},ak w w' (jS X W W.to) (gG X W (X.side W.to) (X.side (1-W.to)) ⟨some (N.outside p).2.2,(W.side W.to).cw⟩ (W.side (1-W.to))++fP (X.side W.to).A (N.outside p).2.2 (W.side W.to).cw)→ak w w' (cQ X W) (cQ X (W.ai W.to ⟨some (N.outside p).2.2,(W.side W.to).cw⟩)):=fun k=>by
  have:=ak.side h.has hn (Y:=X.side W.to) rfl k
  rwa [Bx hn]at this
 refine zN func98 ntmps98 ?_;have hS:=hH.start;rw[rz hN]at hS;refine hS.new (fun bp w1 qe hS=>?_);refine hS.new (fun br w2 lr hS=>?_);have aX:bH E q m w2 X W:=h.qq hn (by rw[rz hN];exact(hS.keep 15).turns);refine hS.cn (Hw aX) fun w3 hS=>?_
 rw[hu,if_pos rfl];rw[rz hN]at hT hQ;have hE:=h.eD.ext hS.ext hQ;have Cs:d7 (fj (X.side W.to).A N) q:=hQ.app.2.app.1;have hs:=hS.eU 1 7 7 rfl (List.mem_singleton.2 rfl) (.inl zd);have hp:=hS.eU 15 7 7 rfl (List.mem_singleton.2 rfl) (.inr zd);have dR:=hS.ne 1 16 rfl rfl zd;have zB:=hS.ne 15 16 rfl rfl zd;generalize W.ai W.to ⟨some (N.outside p).2.2,(W.side W.to).cw⟩=W' at hT ⊢;(conv=>whnf)
 (refine ir aj mixed [] (fun b=>cp (fj (X.side W.to).A N) b∨b=br) [0,1,2,3,4,5,6,7,8,9] zk ?_;rintro w1 rfl;replace hS:=hS.drew)
 have hK:=hS.ref (fun b=>cp (fj (X.side W.to).A N) b∨b=br);refine hS.bU 1 rfl (v:=.pointer (some ⟨(X.side W.to).A.n,0,none⟩)) rfl (fun h=>h.elim hs dR) ?_;refine hS.fK 15 rfl rfl (fun h=>h.elim hp zB) ?_;(conv=>whnf);have pM:Has _ (fj (X.side W.to).A N):=Has.left (B:=[_,_,_]) (Has.right (A:=[_,_,_,_,_,_,_]) hS.has);refine(ZD p pM oT hm (hE.ext (Ext.drawn No _ _) fun _ h=>h.elim) Cs).mono ?_;rintro v w' ⟨rfl,hk⟩;replace hS:=St.di (A:=gG X W (X.side W.to) (X.side (1-W.to)) ⟨some N,(W.side W.to).cw⟩ (W.side (1-W.to))) (B:=[_,_,_]) hS hk;replace hK:=hK.trans (hk.ext.mono fun b hb=>.inl hb);refine ae.mk hK ?_;refine hS.kD hK 16 rfl zl rfl (.inr rfl) (fun w' hK hS=>ae.mk hK ?_);refine hS.lX 16 ?_;refine zE ?_;exact⟨rfl,hT (hS.keep 15).turns⟩
end
section
variable {X:WorldA}{W:WorldS}
theorem bH.fix (h:bH E q m w X W):Has w (gG X W X.a X.b W.a W.b)∧d7 (gG X W X.a X.b W.a W.b) q:=⟨h.has.left,h.high.app.1⟩
theorem ak.fixed (h:Has w (cQ X W)){X':WorldA}{W':WorldS}(k:ak w w' (gG X W X.a X.b W.a W.b) (gG X' W' X.a X.b W.a W.b))(ha:X'.a=X.a)(hb:X'.b=X.b)(ka:W'.a=W.a)(kb:W'.b=W.b):ak w w' (cQ X W) (cQ X' W'):=by
 unfold cQ;rw[ha,hb,ka,kb];exact ak.frame h k
theorem BZ {W:WorldS}{k:Int}(h:W.at_ k=0):∃i:Nat,k=i∧i<W.aN.length:=by
 unfold WorldS.at_ at h;split at h
 ·exact absurd h zd
 ·exact⟨k.toNat,by omega,by omega⟩
theorem GI {n n' c':Nat}{ys:List α}(h:b∈(az e sz enc (.slice a n c) xs).aW):b∈(az e sz enc (.slice a n' c') ys).aW:=by
 cases a with
 | none=>simp[az,own,Value.ownBlock]at h
 | some a=>simpa[az,own,Value.ownBlock]using h
theorem nD {v:Value}(h:v.ownBlock=some b):b∈(az e sz enc v xs).aW:=by simp[az,own,h]
theorem LY {v:Value}(h:b∈(az e sz enc v xs).aW):v.ownBlock=some b:=by simpa[az,own]using h
theorem K2 {vs:List bW}(h:b∈(dX (vs.eraseIdx k) (ns.eraseIdx k)).aW):b∈(dX vs ns).aW:=by
 obtain⟨x,hx,hb⟩:=cz.1 h;exact cz.2 ⟨x,List.mem_of_mem_eraseIdx hx,hb⟩
def WorldA.off (X:WorldA)(i:Nat):WorldA:={ X with vs:=X.vs.eraseIdx i }
theorem St.vK {Y Z:cX}{s t:bX}{B:List bZ}(hS:St w0 S w (gG X W Y Z s t++B))(hi:i<X.vs.length)(hx:Ext (fun b=>(Value.slice X.fa X.vs.length X.fc).ownBlock=some b) w w')(ho:(az 273 5 bA (.slice X.fa (X.vs.length-1) X.fc) (X.vs.eraseIdx i)).holds w') :
  St w0 S w' ([blk X.w 97 (EI X W),blk Y.s 104 (ry Y s),blk Z.s 104 (ry Z t),az 58 5 eW (.slice X.ra W.rules.length X.rc) W.rules,az 273 5 bA (.slice X.fa (W.aN.eraseIdx i).length X.fc) (X.vs.eraseIdx i),dX (X.vs.eraseIdx i) (W.aN.eraseIdx i),az 81 2 fv (.slice X.ea W.events.length X.ec) W.events]++B):=by
 have hc:(dX X.vs W.aN).holds w:=hS.get 5 rfl;have hl:X.vs.length=W.aN.length:=hc.1;have hle:(W.aN.eraseIdx i).length=X.vs.length-1:=by rw[List.length_eraseIdx,if_pos zo,hl]
 rw[hle];have h1:=hS.upd 4 rfl hx (fun b hb=>nD (by rw[hl]at hb;exact hb)) fq ho (fun b hb=>.inl (GI hb));have nh:(dX X.vs W.aN).holds w':=h1.get 5 rfl;exact h1.upd 5 rfl (T:=No) (Ext.refl _ _) (fun _ h=>h.elim) qB (KR nh i) (fun b hb=>.inl (K2 hb))
theorem zvd (k:Int)(h:bH E q m w X W):aa prog 92 #[.pointer (some ⟨X.w,0,none⟩),.int .i64 k] w fun v w'=>v=gC E (W.drop k).1∧∃X',X'.w=X.w∧ak w w' (cQ X W) (cQ X' (W.drop k).2):=by
 refine zN func92 ntmps92 ?_;refine(MZ k h).mono ?_;rintro v w1 ⟨rfl,hx⟩;by_cases hu:W.at_ k=0
 case neg =>
  obtain⟨j,hj⟩:∃j,W.at_ k=j+1:=⟨W.at_ k-1,by omega⟩;rw[show W.drop k=(W.at_ k,W) from if_pos hu,hj];refine zE ?_;exact⟨rfl,X,rfl,ak.aF h.has hx⟩
 rw[show W.drop k=(0,W.off k) from if_neg (fun h=>h hu),hu];obtain⟨i,rfl,hi⟩:=BZ hu;have cZ:=h.ok.aN;have hT:∀{w'},ak w w' (gG X W X.a X.b W.a W.b) (gG (X.off i) (W.off i) X.a X.b W.a W.b)→ak w w' (cQ X W) (cQ (X.off i) (W.off i)):=fun k=>ak.fixed h.has k rfl rfl rfl rfl
 have hS:=h.fix.1.start.no hx;have hc:(dX X.vs W.aN).holds w1:=hS.get 5 rfl;have hl:X.vs.length=W.aN.length:=hc.1;have iZ:(az 273 5 bA (.slice X.fa X.vs.length X.fc) X.vs).holds w1:=by rw[hl];exact hS.get 4 rfl
 refine hS.lD 0 ?_;refine ag.mk zo zo ?_;rw[←hl];refine(Tu iZ zo zo).mono ?_;rintro v w2 ⟨rfl,hx,ho⟩;replace hS:=St.vK (B:=[]) hS zo hx ho;rw[show X.vs.length-1=(W.aN.eraseIdx i).length by rw[List.length_eraseIdx,if_pos hi,hl]];refine hS.sT 0 fun w' hS=>?_
 refine zE ?_;exact⟨rfl,X.off i,rfl,hT (St.turns hS)⟩
theorem Ev.St.join {e f g:bZ}(h:St w0 S w (e::f::H))(hl:g.Local)(hh:g.holds w)(hf:∀b∈g.aW,b∈e.aW∨b∈f.aW):St w0 S w (g::H):=by
 have jY:=List.pairwise_cons.1 h.apart;have mR:=List.pairwise_cons.1 jY.2;have hm:∀x∈H,x∈e::f::H:=fun x hx=>List.mem_cons_of_mem _ (List.mem_cons_of_mem _ hx)
 refine⟨h.ext,?_,?_,?_,.cons ?_ mR.2⟩
 ·intro x hx;rcases List.mem_cons.1 hx with rfl|hx
  ·exact hh
  ·exact h.each x (hm x hx)
 ·intro x hx;rcases List.mem_cons.1 hx with rfl|hx
  ·exact hl
  ·exact h.loc x (hm x hx)
 ·intro x hx b hb;rcases List.mem_cons.1 hx with rfl|hx
  ·rcases hf b hb with h1|h1
   ·exact h.may e List.mem_cons_self b h1
   ·exact h.may f (List.mem_cons_of_mem _ List.mem_cons_self) b h1
  ·exact h.may x (hm x hx) b hb
 ·intro x hx b hb;rcases hf b hb with h1|h1
  ·exact jY.1 x (List.mem_cons_of_mem _ hx) b h1
  ·exact mR.1 x hx b h1
theorem Ev.St.lI (h:St w0 S w H)(C:cR sz enc)(i:Nat){e:TypeId}{b o n c k off:Nat}{xs:List α}{x:α}{K:Value→Prop}(hi:H[i]?=some (az e sz enc (.slice (some ⟨b,o,none⟩) n c) xs))(hx:xs[k]?=some x)(ho:off=o+k*sz)(hk:K (.agg (enc x).toArray)):uf w b off sz K:=by
 subst ho;have hs:=fE (G:=fun _=>True) C (h.get i hi) (fun _ _=>trivial);obtain⟨b0,o0,h1,_,hc⟩:=hs.cells k x hx;simp only[Option.some.injEq,Addr.mk.injEq]at h1;obtain⟨rfl,rfl,_⟩:=h1;exact⟨enc x,C.len x,hc,hk⟩
theorem Ev.St.z8 {T:Nat→Prop}(h:St w0 S w H)(C:cR sz enc)(i:Nat){e:TypeId}{b o n c k off:Nat}{xs:List α}{x:α}{K:Value→Prop}(hi:H[i]?=some (az e sz enc (.slice (some ⟨b,o,none⟩) n c) xs))(hx:xs[k]?=some x)(ho:off=o+k*sz)(hT:¬T b)(hk:K (.agg (enc x).toArray)):wD (Ext T w) b off sz K:=by
 subst ho;have hs:=fE (G:=fun _=>True) C (h.get i hi) (fun _ _=>trivial);obtain⟨b0,o0,h1,_,hc⟩:=hs.cells k x hx;simp only[Option.some.injEq,Addr.mk.injEq]at h1;obtain⟨rfl,rfl,_⟩:=h1;exact vD (C.len x) hc hT hk
theorem QY {vs:List bW}  {x:bW}(h:(dX vs ns).holds w)(hi:k8 x y)(hs:bQ w 10 bV (fun _=>True) x.a x.n y.cells):(dX (vs.take k++x::vs.drop k) (ns.take k++y::ns.drop k)).holds w:=by
 have h1:=GV (ZS h k) (GV (K0 hi hs) (ZR h k));exact h1
theorem Q7 {vs:List bW}  {x:bW}(h:b∈(dX (vs.take k++x::vs.drop k) (ns.take k++y::ns.drop k)).aW):b∈(dX vs ns).aW∨b∈yb x:=by
 obtain⟨z,hz,hb⟩:=cz.1 h;rcases List.mem_append.1 hz with hz|hz
 ·exact .inl (cz.2 ⟨z,List.mem_of_mem_take hz,hb⟩)
 rcases List.mem_cons.1 hz with rfl|hz
 ·exact .inr hb
 ·exact .inl (cz.2 ⟨z,List.mem_of_mem_drop hz,hb⟩)
theorem LC {x:bW}(h:b∈yb x):(Value.slice x.a x.n x.c).ownBlock=some b:=by
 unfold yb at h;split at h
 ·cases h
 ·simpa using h
theorem zsj (k:Int)(h:bH E q m w X W):aa prog 93 #[.pointer (some ⟨X.w,0,none⟩),.int .i64 k] w fun v w'=>v=gC E (W.dw k).1∧∃X',X'.w=X.w∧ak w w' (cQ X W) (cQ X' (W.dw k).2):=by
 refine zN func93 ntmps93 ?_;refine(MZ k h).mono ?_;rintro v w1 ⟨rfl,hx⟩;by_cases hu:W.at_ k=0
 case neg =>
  obtain⟨j,hj⟩:∃j,W.at_ k=j+1:=⟨W.at_ k-1,by omega⟩;rw[show W.dw k=(W.at_ k,W) from if_pos hu,hj];repeat' first|refine zP ?_|apply aR<;>intro
  exact⟨rfl,X,rfl,ak.aF h.has hx⟩
 rw[hu];obtain⟨i,rfl,hi⟩:=BZ hu;have cZ:=h.ok.aN;have ef:∀b,cp (gG X W X.a X.b W.a W.b) b→q≤b:=h.fix.2;have hS:=h.fix.1.start.no hx;refine hS.lD 0 ?_;apply aR<;>intro h3
 ·rw[show W.dw i=(6,W) by unfold WorldS.dw;rw[if_neg (fun h=>h hu),if_pos zo]];repeat' first|refine zP ?_|refine hS.cK (h.eD.at_ 6 rfl) (bF.out h.eD 6 rfl ef) ?_|apply aR<;>intro
  exact⟨rfl,X,rfl,ak.frame h.has (St.turns hS)⟩
 have hc:(dX X.vs W.aN).holds w1:=hS.get 5 rfl;have hl:X.vs.length=W.aN.length:=hc.1;obtain⟨x,lH⟩:∃x,X.vs[i]?=some x:=⟨_,List.getElem?_eq_getElem zo⟩;obtain⟨y,nx⟩:∃y,W.aN[i]?=some y:=⟨_,List.getElem?_eq_getElem zo⟩;obtain⟨kA,lF⟩:=AE hc lH nx;have FZ:=(h.ok.notes y (List.mem_of_getElem? nx)).2;have Xo:x.n=y.cells.length:=lF.len.symm
 obtain⟨g,o,jm⟩:∃g o,X.fa=some ⟨g,o,none⟩:=by
  obtain⟨b0,o0,h1,_⟩:=(fE (G:=fun _=>True) dA (hS.get 4 rfl) (fun _ _=>trivial)).cells i x lH;exact⟨b0,o0,h1⟩
 have hw:W.dw i=(0,{ W with aN:=W.aN.take (i+1)++y::W.aN.drop (i+1) }):=by
  unfold WorldS.dw;rw[if_neg (fun h=>h hu),if_neg zo];show(match W.aN[(i:Int).toNat]? with|none=>_|some x=>_)=_;rw[Int.toNat_natCast,nx]
 rw[hw]
 have hI:∀{w2:World} {b:Nat} {a':Option Addr} {c':Nat},Has w2 [az 273 5 bA (.slice X.fa W.aN.length X.fc) X.vs,blk b 273 (bA (x.with a' c'))]→aa prog 145 #[.slice (some ⟨g,o,none⟩) W.aN.length X.fc,.int .i64 ((i:Int)+1),.slice (some ⟨b,0,none⟩) 1 1] w2 fun v w' =>
   ∃a2 c2,v=.slice a2 (W.aN.length+1) c2∧ak w2 w' [az 273 5 bA (.slice X.fa W.aN.length X.fc) X.vs,blk b 273 (bA (x.with a' c'))] [az 273 5 bA (.slice a2 (W.aN.length+1) c2) (X.vs.take (i+1)++x.with a' c'::X.vs.drop (i+1)),blk b 273 (bA (x.with a' c'))]:=by
  intro w2 b a' c' hH;rw[←hl]at hH ⊢;rw[←jm];exact zwr (k:=i+1) hH zo zo
 have cx:∀{w':World} {a2 a':Option Addr} {c2 c':Nat},St w (cp (gG X W X.a X.b W.a W.b)) w' [blk X.w 97 (EI { X with fa:=a2,fc:=c2 } { W with aN:=W.aN.take (i+1)++y::W.aN.drop (i+1) }),blk X.a.s 104 (ry X.a W.a),blk X.b.s 104 (ry X.b W.b),az 58 5 eW (.slice X.ra W.rules.length X.rc) W.rules,az 273 5 bA (.slice a2 (W.aN.length+1) c2) (X.vs.take (i+1)++x.with a' c'::X.vs.drop (i+1)),dX X.vs W.aN,az 81 2 fv (.slice X.ea W.events.length X.ec) W.events,az 218 10 bV (.slice a' x.n c') y.cells] →
   ∃X',X'.w=X.w∧ak w w' (cQ X W) (cQ X' { W with aN:=W.aN.take (i+1)++y::W.aN.drop (i+1) }):=by
  intro w' a2 a' c2 c' hS;refine⟨{ X with fa:=a2,fc:=c2,vs:=X.vs.take (i+1)++x.with a' c'::X.vs.drop (i+1) },rfl,?_⟩;have fZ:bQ w' 10 bV (fun _=>True) a' x.n y.cells:=fE gF (hS.get 7 rfl) (fun _ _=>trivial);have cT:=(hS.dv [5,7,0,1,2,3,4,6] zd).join (g:=dX (X.vs.take (i+1)++x.with a' c'::X.vs.drop (i+1)) (W.aN.take (i+1)++y::W.aN.drop (i+1))) qB (QY (hS.get 5 rfl) ⟨kA.bP,kA.au,kA.ah,kA.claim⟩ fZ) (fun b hb=>(Q7 hb).imp id fun h=>nD (LC h))
  have nt:(W.aN.take (i+1)++y::W.aN.drop (i+1)).length=W.aN.length+1:=by
   simp only[List.length_append,List.length_cons,List.length_take,List.length_drop];omega
  rw[←nt]at cT;exact ak.fixed h.has (St.turns (cT.dv [1,2,3,4,5,0,6] zd)) rfl rfl rfl rfl
 have nt:(W.aN.take (i+1)++y::W.aN.drop (i+1)).length=W.aN.length+1:=by
  simp only[List.length_append,List.length_cons,List.length_take,List.length_drop];omega
 refine sj aj mixed [4,10,13] (fun _=>True) (.take 0 (.take 1 (.take 2 (.take 3 (.take 5 (.take 6 (.take 7 (.take 8 (.take 9 (.take 11 (.alt 4 (.alt 10 (.take 12 (.alt 13 (.alt 14 (.alt 15 (.alt 16 (.take 17 (.take 18 (.alt 19 .fin .fin))) .fin) .fin) .fin) .fin)) .fin) (.alt 10 (.take 12 (.alt 4 (.alt 13 (.alt 14 (.alt 15 (.alt 16 (.take 17 (.take 18 (.alt 19 .fin .fin))) .fin) .fin) .fin) .fin) (.alt 13 (.alt 4 (.alt 14 (.alt 15 (.alt 16 (.take 17 (.take 18 (.alt 19 .fin .fin))) .fin) .fin) .fin) (.alt 14 (.alt 4 (.alt 15 (.alt 16 (.take 17 (.take 18 (.alt 19 .fin .fin))) .fin) .fin) (.alt 15 (.alt 4 (.alt 16 (.take 17 (.take 18 (.alt 19 .fin .fin))) .fin) .fin) .fin)) .fin)) .fin))) .fin)))))))))))) zk ?_;rintro w1 rfl;replace hS:=hS.drew;have hK:=hS.ref (fun _=>True);repeat' ((conv=>whnf);first|apply aI.mk|refine bO.mk zd ?_|refine ag.mk zo zo ?_|refine ao.mk zo zo ?_|refine hS.ld 0 rfl (v:=.slice (some ⟨g,o,none⟩) W.aN.length X.fc) (by rw[←jm];rfl) (ae.mk hK ?_)|refine hS.lI dA 4 (by rw[←jm];rfl) lH rfl (ae.mk hK ?_)|(refine(Uf (AE (hS.get 5 rfl) lH nx).2 zo).mono ?_;rintro v w2 ⟨a',c',rfl,hx,ho,hf⟩;replace hS:=hS.made hx fq ho (fun g hg=>hf g (by simpa[az,own]using hg));replace hK:=hK.trans hx.aF;clear hx ho hf;refine ae.mk hK ?_)|(refine hS.fz underlying95 (sz:=5) zk (z:=.agg (bA fw).toArray) zk rfl rfl (cs:=bA (x.with a' c')) (by rfl) (fun b9 w3 jl hx hS=>?_);replace hK:=hK.trans hx.aF;clear hx;refine ae.mk hK ?_)|(have cT:=hS.dv [4,8,0,1,2,3,5,6,7] zd;refine(hI (Has.left (A:=[_,_]) (B:=[_,_,_,_,_,_,_]) cT.has)).mono ?_;rintro v w4 ⟨a2,c2,rfl,hk⟩;replace hS:=(St.call (H:=[_,_]) (B:=[_,_,_,_,_,_,_]) cT hk).dv [2,3,4,5,0,6,7,8] zd;replace hK:=hK.trans (hk.ext.mono fun _ _=>trivial);clear cT hk;refine ae.mk hK ?_)|(refine hS.kD hK 0 rfl zl rfl trivial (fun w' hK hS=>ae.mk hK ?_))|(refine⟨rfl,cx (a2:=a2) (a':=a') (c2:=c2) (c':=c') ?_⟩;rw[←nt]at hS ⊢;exact hS)|refine And.intro ?_ ?_|(first|apply aM|apply ca|apply cE|apply cD)<;>(intro))
theorem zqh {G:Int × Int→Prop}  {n:Nat}{xs:List (Int × Int)}(hx:bQ w 2 fv G a n xs)(hn:n≤2000) :
  aa prog 40 #[.slice a n c] w fun v w'=>∃a' c',v=.slice a' n c'∧Ext No w w'∧(az 81 2 fv v xs).holds w'∧m7 w w' v:=by
 have hl:=hx.len;refine zN func40 ntmps40 ?_;have hS:=St.start w No;cases a with
 | none =>
  have jq:n=0:=by
   rcases Nat.eq_zero_or_pos n with h|h
   ·exact h
   ·obtain⟨_,_,_,_,_,h,_⟩:=hx.at h;cases h
  subst jq;obtain rfl:xs=[]:=List.length_eq_zero_iff.1 hl;refine zE ?_;have hS:=hS.bJ 81 2 fv;exact⟨none,0,rfl,hS.ext,hS.get 0 rfl,hS.du 0 rfl⟩
 | some a0 =>
  refine hS.vE underlying41 (sz:=2) zk (fun b0 w1 hS=>?_);refine hS.d8 ua 0 (xs:=[]) underlying41 (bytes:=16) zk (z:=.agg (fv (0,0)).toArray) zk rfl rfl (hx.no hS.ext) (by unfold maxLen;simp;omega) (by simp;omega) (fun a' c' w' hS=>?_);refine zE ?_;have jq:([]:List (Int × Int)).length+n=n:=by simp
  rw[jq]at hS ⊢;exact⟨a',c',rfl,hS.ext,hS.get 0 rfl,hS.du 0 rfl⟩
theorem zpv (h:bH E q m w X W):aa prog 21 #[.pointer (some ⟨X.w,0,none⟩)] w fun v w'=>∃a' c',v=.slice a' W.events.length c'∧Ext No w w'∧(az 81 2 fv v W.events).holds w'∧m7 w w' v:=by
 have he:=h.ok.events;refine zN func21 ntmps21 ?_;have hS:=h.fix.1.start;refine hS.lD 0 ?_;refine(zqh (fE (G:=fun _=>True) ua (hS.get 6 rfl) (fun _ _=>trivial)) zo).mono ?_;rintro v w' ⟨a',c',rfl,hx,ho,hf⟩;refine zE ?_;exact⟨a',c',rfl,hx,ho,hf⟩
end
section
variable {X:WorldA}{W:WorldS}
theorem LU {g:Nat}(jm:X.fa=some ⟨g,o,none⟩)(hl:X.vs.length=W.aN.length)(hi:i<W.aN.length)(hm:W.aN.length≤200){w2:World}(ho:(az 273 5 bA (.slice X.fa W.aN.length X.fc) X.vs).holds w2) :
  aa prog 142 #[.slice (some ⟨g,o,none⟩) W.aN.length X.fc,.int .i64 (i:Int),.int .i64 ((i:Int)+1)] w2 fun v w' =>
   v=.slice (some ⟨g,o,none⟩) (W.aN.eraseIdx i).length X.fc∧Ext (fun b=>(Value.slice X.fa W.aN.length X.fc).ownBlock=some b) w2 w'∧(az 273 5 bA (.slice X.fa (W.aN.eraseIdx i).length X.fc) (X.vs.eraseIdx i)).holds w':=by
 rw[show(W.aN.eraseIdx i).length=X.vs.length-1 by rw[List.length_eraseIdx,if_pos hi,hl],←jm];rw[←hl]at ho ⊢;exact Tu ho zo zo
def UZ (X:WorldA)(W:WorldS)(i:Nat)(Y Z:cX)(s t:bX):List bZ:=[blk X.w 97 (EI X (W.off i)),blk Y.s 104 (ry Y s),blk Z.s 104 (ry Z t),az 58 5 eW (.slice X.ra W.rules.length X.rc) W.rules,az 273 5 bA (.slice X.fa (W.aN.eraseIdx i).length X.fc) (X.vs.eraseIdx i),dX X.vs W.aN,az 81 2 fv (.slice X.ea W.events.length X.ec) W.events]
theorem St.lh {Y Z:cX}{s t:bX}{B:List bZ}(hS:St w0 S w (UZ X W i Y Z s t++B)):St w0 S w (gG (X.off i) (W.off i) Y Z s t++B):=by
 have nh:(dX X.vs W.aN).holds w:=hS.get 5 rfl;exact hS.upd 5 rfl (T:=No) (Ext.refl _ _) (fun _ h=>h.elim) qB (KR nh i) (fun b hb=>.inl (K2 hb))
theorem K3 (k:Int)(h:bH E q m w X W):aa prog 91 #[.pointer (some ⟨X.w,0,none⟩),.int .i64 k] w fun v w'=>v=gC E (W.cq k).1∧∃X',X'.w=X.w∧ak w w' (cQ X W) (cQ X' (W.cq k).2):=by
 refine zN func91 ntmps91 ?_;refine(MZ k h).mono ?_;rintro v w1 ⟨rfl,hx⟩;by_cases hu:W.at_ k=0
 case neg =>
  obtain⟨j,hj⟩:∃j,W.at_ k=j+1:=⟨W.at_ k-1,by omega⟩;rw[show W.cq k=(W.at_ k,W) from if_pos hu,hj];refine zE ?_;exact⟨rfl,X,rfl,ak.aF h.has hx⟩
 rw[hu];obtain⟨i,rfl,hi⟩:=BZ hu;have cZ:=h.ok.aN;have hc:(dX X.vs W.aN).holds w:=h.has.get 5 rfl;have hl:X.vs.length=W.aN.length:=hc.1;obtain⟨x,lH⟩:∃x,X.vs[i]?=some x:=⟨_,List.getElem?_eq_getElem zo⟩;obtain⟨y,nx⟩:∃y,W.aN[i]?=some y:=⟨_,List.getElem?_eq_getElem zo⟩;obtain⟨kA,lF⟩:=AE hc lH nx;obtain⟨Xp,FZ⟩:=h.ok.notes y (List.mem_of_getElem? nx);have Xo:x.n=y.cells.length:=lF.len.symm
 obtain⟨g,o,jm⟩:∃g o,X.fa=some ⟨g,o,none⟩:=by
  obtain⟨b0,o0,h1,_⟩:=(fE (G:=fun _=>True) dA (h.has.get 4 rfl) (fun _ _=>trivial)).cells i x lH;exact⟨b0,o0,h1⟩
 have hw:W.cq i=(0,(W.off i).got y):=by
  unfold WorldS.cq;rw[if_neg (fun h=>h hu)];show(match W.aN[(i:Int).toNat]? with|none=>_|some x=>_)=_;rw[Int.toNat_natCast,nx]
 rw[hw];cases il:y.claim
 case true =>
  have vA:x.claim=true:=kA.claim.trans il;have hS:=h.fix.1.start.no hx;refine hS.ld 0 rfl (v:=.slice (some ⟨g,o,none⟩) W.aN.length X.fc) (by rw[←jm];rfl) ?_;refine ao.mk zo zo ?_;refine hS.lI dA 4 (by rw[←jm];rfl) lH rfl ?_;refine hS.new (fun b6 w2 Cy hS=>?_);refine hS.sT 7 fun w3 hS=>?_
  refine hS.ld 0 rfl (v:=.slice (some ⟨g,o,none⟩) W.aN.length X.fc) (by rw[←jm];rfl) ?_;refine ag.mk zo zo ?_;refine(LU jm hl hi cZ (hS.get 4 rfl)).mono ?_;rintro v w4 ⟨rfl,hx,ho⟩;replace hS:=hS.upd 4 rfl hx (fun b hb=>nD hb) fq ho (fun b hb=>.inl (GI hb));refine hS.st 0 rfl (by exact Nat.le_of_ble_eq_true rfl) rfl (fun w5 hS=>?_);(conv=>whnf);rw[←jm]at hS;refine hS.ld 7 rfl (v:=.bool true) (by rw[←vA];rfl) ?_;have vB:=kA.ah;have uC:=kA.bP;have e1:(W.off (i:Int)).ah=W.ah:=rfl;have e2:(W.off (i:Int)).to=W.to:=rfl
  have y2:y.ah>W.ah∨W.to<0→(W.off i).got y={ W.off i with to:=x.bP,ah:=x.ah }:=fun h=>by
   unfold WorldS.got;rw[if_pos il,vB,uC];exact if_pos h
  have pD:¬(y.ah>W.ah∨W.to<0)→(W.off i).got y=W.off i:=fun h=>by
   unfold WorldS.got;rw[if_pos il];exact if_neg h
  have hT:∀{w':World} {W':WorldS},W'.a=W.a→W'.b=W.b→ak w w' (gG X W X.a X.b W.a W.b) (gG (X.off i) W' X.a X.b W.a W.b)→ak w w' (cQ X W) (cQ (X.off i) W'):=fun ha hb k=>ak.fixed h.has k rfl rfl ha hb
  have cj:=hS.ne 7 0 rfl rfl zd;(conv=>whnf);refine hS.dr [] No [0,1,2,3,4,5,6,7,8,9,10,11,12,13] fun w1 hS=>?_
  repeat' ((conv=>whnf);first|apply aI.mk|refine bO.mk zd ?_|refine ag.mk zo zo ?_|refine ao.mk zo zo ?_|refine hS.bU 7 rfl rfl id ?_|refine hS.bU 0 rfl rfl id ?_|(first|apply aM|apply ca|apply cE|apply cD)<;>(intro))
  all_goals first
   | (rw[pD zo];exact⟨rfl,X.off i,rfl,hT rfl rfl (St.turns (St.lh (B:=[]) (hS.keep 7)))⟩)
   |
        rw[y2 zo];
        (refine ir aj mixed [] (fun b=>b=X.w) [0,1,2,3,4,5,6,7,8,9,10,11] zk ?_;rintro w1 rfl;replace hS:=hS.drew);
        have hK:=hS.ref (fun b=>b=X.w);
        (repeat' first|refine zP ?_|refine hS.bU 7 rfl rfl cj ?_|(refine hS.kD hK 0 rfl (by exact Nat.le_of_ble_eq_true rfl) rfl rfl (fun w' hK hS=>ae.mk hK ?_)));
        exact⟨rfl,X.off i,rfl,hT rfl rfl (St.turns (St.lh (W:={ W with to:=x.bP,ah:=x.ah }) (B:=[]) (hS.keep 7)))⟩
 case false =>
  have vA:x.claim=false:=kA.claim.trans il;have hn:1-y.bP=0∨1-y.bP=1:=by omega
  have uC:=kA.bP;cases hN:(W.side (1-y.bP)).node with
  | none =>
   have hS:=h.fix.1.start.no hx;refine hS.ld 0 rfl (v:=.slice (some ⟨g,o,none⟩) W.aN.length X.fc) (by rw[←jm];rfl) ?_;refine ao.mk zo zo ?_;refine hS.lI dA 4 (by rw[←jm];rfl) lH rfl ?_;refine hS.new (fun b6 w2 Cy hS=>?_);refine hS.sT 7 fun w3 hS=>?_
   refine hS.ld 0 rfl (v:=.slice (some ⟨g,o,none⟩) W.aN.length X.fc) (by rw[←jm];rfl) ?_;refine ag.mk zo zo ?_;refine(LU jm hl hi cZ (hS.get 4 rfl)).mono ?_;rintro v w4 ⟨rfl,hx,ho⟩;replace hS:=hS.upd 4 rfl hx (fun b hb=>nD hb) fq ho (fun b hb=>.inl (GI hb));refine hS.st 0 rfl (by exact Nat.le_of_ble_eq_true rfl) rfl (fun w5 hS=>?_);(conv=>whnf);rw[←jm]at hS;refine hS.ld 7 rfl (v:=.bool false) (by rw[←vA];rfl) ?_
   have hg:(W.off i).got y=W.off i:=by
    unfold WorldS.got;rw[if_neg (by rw[il];decide),if_neg zo];show(match (W.side (1-y.bP)).node with|none=>_|some N=>_)=_;rw[hN]
   have hk:ak w w5 (cQ X W) (cQ (X.off i) (W.off i)):=ak.fixed h.has (St.turns (St.lh (B:=[]) (hS.keep 7))) rfl rfl rfl rfl;have aX:bH E q m w5 (X.off i) (W.off i):=h.turns hk (h.ok.off i);rw[hg];refine hS.lD 7 ?_;refine ag.mk zo zo ?_;(conv=>whnf);rw[uC];refine(BQ (1-y.bP) aX).mono ?_;rintro v w6 ⟨rfl,hx⟩;rw[Es (W:=W.off i) hn hN];refine zE ?_;exact⟨rfl,X.off i,rfl,hk.trans (ak.aF aX.has hx)⟩
  | some N =>
   obtain⟨hH,hQ⟩:=h.half hn;have oT:=((h.ok.side hn).node N hN).1
   have hT:∀{w'},ak w w' (jS X W (1-y.bP)) (gG (X.off i) (W.off i) (X.side (1-y.bP)) (X.side (1-(1-y.bP))) ⟨some (N.hear y).2,(W.side (1-y.bP)).cw⟩ (W.side (1-(1-y.bP)))++fP (X.side (1-y.bP)).A (N.hear y).2 (W.side (1-y.bP)).cw)→ak w w' (cQ X W) (cQ (X.off i) ((W.off i).got y)):=fun k=>by
    have hg:(W.off i).got y=(W.off i).ai (1-y.bP) ⟨some (N.hear y).2,(W.side (1-y.bP)).cw⟩:=by
     unfold WorldS.got;rw[if_neg (by rw[il];decide),if_neg zo];show(match (W.side (1-y.bP)).node with|none=>_|some N=>_)=_;rw[hN];rfl
    rw[hg];refine ak.world h.has hn (X':=X.off i) ?_ rfl (Mh (X:=X.off i) (W:=W.off i) hn ((X.off i).side (1-y.bP)) _).2.2.2;have:=SC (X:=X.off i) (W:=W.off i) hn (Y:=(X.off i).side (1-y.bP)) rfl ⟨some (N.hear y).2,(W.side (1-y.bP)).cw⟩;rw[Bx hn]at this;rw[this];exact k
   have hS:=hH.start.no hx;rw[rz hN]at hS;refine hS.ld 0 rfl (v:=.slice (some ⟨g,o,none⟩) W.aN.length X.fc) (by rw[←jm];rfl) ?_;refine ao.mk zo zo ?_;refine hS.lI dA 4 (by rw[←jm];rfl) lH rfl ?_;refine hS.new (fun b6 w2 Cy hS=>?_);refine hS.sT 15 fun w3 hS=>?_
   refine hS.ld 0 rfl (v:=.slice (some ⟨g,o,none⟩) W.aN.length X.fc) (by rw[←jm];rfl) ?_;refine ag.mk zo zo ?_;refine(LU jm hl hi cZ (hS.get 4 rfl)).mono ?_;rintro v w4 ⟨rfl,hx,ho⟩;replace hS:=hS.upd 4 rfl hx (fun b hb=>nD hb) fq ho (fun b hb=>.inl (GI hb));refine hS.st 0 rfl (by exact Nat.le_of_ble_eq_true rfl) rfl (fun w5 hS=>?_);(conv=>whnf);rw[←jm]at hS;refine hS.ld 15 rfl (v:=.bool false) (by rw[←vA];rfl) ?_
   have aX:bH E q m w5 (X.off i) (W.off i):=by
    refine h.turns (m':=m) ?_ (h.ok.off i);refine ak.world h.has hn (X':=X.off i) ?_ rfl rfl;have:=St.turns (St.lh (B:=fP (X.side (1-y.bP)).A N (W.side (1-y.bP)).cw) (hS.keep 15));rw[←rz hN]at this;have h2:=rz (X:=X.off i) (W:=W.off i) (n:=1-y.bP) hN;rw[h2];exact this
   refine hS.lD 15 ?_;refine ag.mk zo zo ?_;(conv=>whnf);rw[uC];refine(BQ (1-y.bP) aX).mono ?_;rintro v w6 ⟨rfl,hx⟩;replace hS:=hS.no hx;rw[Et (W:=W.off i) hn hN,if_pos rfl];rw[rz hN]at hT hQ;have hE:=h.eD.ext hS.ext hQ;have Cs:d7 (fj (X.side (1-y.bP)).A N) q:=hQ.app.2.app.1;have hs:=hS.eU 1 7 7 rfl (List.mem_singleton.2 rfl) (.inl zd);have hp:=hS.eU 15 7 7 rfl (List.mem_singleton.2 rfl) (.inr zd);have eF:0<x.n→∀b0 o0,x.a=some ⟨b0,o0,none⟩→¬cp (fj (X.side (1-y.bP)).A N) b0:=fun h0 b0 o0 ha=>hS.eU 5 7 7 (e:=dX X.vs W.aN) rfl (cz.2 ⟨x,List.mem_of_getElem? lH,LM h0 ha⟩) (.inl zd)
   conv=>whnf
   (refine ir aj mixed [] (cp (fj (X.side (1-y.bP)).A N)) [0,1,2,3,4,5] zk ?_;rintro w1 rfl;replace hS:=hS.drew)
   refine hS.bU 1 rfl (v:=.pointer (some ⟨(X.side (1-y.bP)).A.n,0,none⟩)) rfl hs ?_;refine hS.fK 15 rfl rfl hp ?_;(conv=>whnf);have pM:Has _ (fj (X.side (1-y.bP)).A N):=Has.left (B:=[_,_]) (Has.right (A:=[_,_,_,_,_,_,_]) hS.has)
   have Kc:(⟨x.bP,x.au,x.ah,x.claim,y.cells⟩:bE)=y:=by
    obtain⟨f,l,e,c,cs⟩:=y;simp only[bE.mk.injEq,and_true];exact⟨kA.bP,kA.au,kA.ah,kA.claim⟩
   refine(zti x y.cells (AE (hS.get 5 rfl) lH nx).2 eF pM oT ((hE.ext (Ext.drawn No _ _) fun _ h=>h.elim).sub rfl) Cs).mono ?_;rintro v w' ⟨rfl,hk⟩;refine ae.mk hk.ext ?_;rw[Kc]at hk;replace hS:=St.di (A:=UZ X W i (X.side (1-y.bP)) (X.side (1-(1-y.bP))) ⟨some N,(W.side (1-y.bP)).cw⟩ (W.side (1-(1-y.bP)))) (B:=[_,_]) hS hk;refine zE ?_;exact⟨rfl,X.off i,rfl,hT (St.turns (St.lh (B:=fP (X.side (1-y.bP)).A (N.hear y).2 (W.side (1-y.bP)).cw) (hS.keep 15)))⟩
end
end
end Go.Proofs.YtggfpjldhglmeaaGreatDoor