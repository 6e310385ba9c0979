/-
  Texts of this claim, joined: PoolZV, PoolPE, LawS.
-/
import Derived.Test.YtggfpjldhglmeaaGreatDoorSidePlaysL
import Derived.Conc.LeavingOf
import Derived.Shelf.Vars
import Derived.Lay
import Derived.LaidHandle
import Derived.Deep.Slices
set_option linter.unusedSectionVars false
set_option linter.unusedSimpArgs false
set_option linter.unusedVariables false
set_option maxRecDepth 20000
namespace Go.Proofs.YtggfpjldhglmeaaGreatDoor
open Go Tryz
namespace Pool
open Go.Conc Gap Ev Go.RowKit Go.Conc.Lib Go.ChangeShapes Go.WideShapes Go.ChangeAt
local instance F4:Gap.Leaps:=onLeaps
theorem Q1 {H:Type}{P:Program}{vs:List TypeId}{f:Nat→Bool}:∀(ts:List TypeId) (ds:List (DataW H)),(DataW.weightsEach P (ts++vs) ds).all f=true→(DataW.weightsEach P ts ds).all f=true
 | [],_,_=>by simp[DataW.weightsEach]
 | t::ts,[],_=>by simp[DataW.weightsEach]
 | t::ts,d::ds,h=>by
  simp only[List.cons_append,DataW.weightsEach,List.all_append,Bool.and_eq_true]at h ⊢;exact⟨h.1,Q1 ts ds h.2⟩
theorem law_liftedG {C:Checked}{f:FuncId}{fn:Func}{s:ChangeSpec}{tb:TypeId}(L:List (String × DataW Unit))(os:Os)(started:os.Started)(H:Type)(enc:TypeId × Value→H)
  (own:ownKnob C.prog.godebug=none) (Aa:C.prog.inits.idxOf? f=none) (hfn:C.prog.funcs[f]?=some fn) (xo:s.vars=[])
  (hs:∀ds:List (DataW H),ds.length=fn.params.toList.length→(s.fn H (ds++[])).results=[.lit (.bool true)]∧(s.fn H (ds++[])).args=ds∧(s.fn H (ds++[])).vars=[])
  (kh:fn.resultTypes = #[tb]) (CF:C.prog.underlying tb=some .bool) (gP:laidOutB C.prog=true) (Dt:(fn.params.toList.all fun t=>C.prog.readableRec t&&decide (t<C.prog.types.size))=true)
  (witness:∃(w:World) (tape:Tape) (i:Input),w.os=os∧(w.forCall tape i).Shaped C.prog∧i.vars=[]∧Input.okWide C.prog (w.forCall tape i) .any w.heap.size f i ∧
   ((s.pre enc C.prog fn [] false (w.forCall tape i).memory i.args∧laidMetH C.prog L (w.forCall tape i).memory)∧sizedMet enc C.prog fn (OpenSpec.ofChange s) false (w.forCall tape i).memory i.args)∧({}:Assume).holds C.prog (lone (Frame.enter C.prog f i.args .normal) [] (w.forCall tape i)))
  (BR:∀(W:World) (args:List Value) (ds:List (DataW H)) (p:List MemPlace),W.ShapedOpen C.prog→gp C.prog W fn.params.toList args→DataW.TrodAll enc C.prog W 0 (fun _=>true) true fn.params.toList args ds p →
   (DataW.weightsEach C.prog fn.params.toList ds).all (·≤reachBytes)=true→laidMetH C.prog L W→BW C.prog f args.toArray (Pool.view (nf W) (lY W) W) fun v w'=>v=.bool true∧Ext No (Pool.view (nf W) (lY W) W) w') :
  ReturnsInLeavingWide {} C os f .any (fun w args=>(s.pre enc C.prog fn [] false w args∧laidMetH C.prog L w)∧sizedMet enc C.prog fn (OpenSpec.ofChange s) false w args) (s.post enc C.prog fn false true false false):=by
 refine returnsInLeavingWide_of_good own started witness ?_;intro w tape i _ hsh _ bR JO _;obtain⟨_,_,_,Fv,Jj,_,_,_,_,vw⟩:=bR;obtain rfl:Fv=fn:=Option.some.inj (Jj.symm.trans hfn);obtain⟨⟨⟨ds,gs,before,hw,_⟩,hx⟩,hz⟩:=JO;have xx:=hz.weights hw;have hW:=DataW.Whole.of_heap (w':=w.forCall tape i) (by rfl) hw;have hL:laidMetH C.prog L (w.forCall tape i):=hx.of_heap (by rfl);generalize w.forCall tape i=W at vw hW hL hsh ⊢;generalize w.heap.size=base at vw;generalize i.args=args at vw hW ⊢;have uv:=hW;obtain⟨p,q,hA,hV,rfl,hfz,vn⟩:=hW;rw[xo]at hV;obtain⟨rfl,rfl⟩:=trodVars_none hV;have bR:=Rj Fv.params.toList args.toList ds p (fun j t v ht hv=>vw j t v (by simpa using ht) (by simpa using hv)) hA
 have hlen:ds.length=Fv.params.toList.length:=by
  have:∀(ts:List TypeId) (vs:List Value) (ds:List (DataW H)) (ps:List MemPlace),DataW.TrodAll enc C.prog W 0 (fun _=>true) true ts vs ds ps→ds.length=ts.length:=by
   intro ts
   induction ts with
   | nil=>intro vs ds ps h;cases vs<;>cases ds<;>simp_all[DataW.TrodAll]
   | cons t ts ih =>
    intro vs ds ps h;obtain⟨v,Ar,d,Ft,p,q,rfl,rfl,rfl,h1,h2⟩:=trodAll_cons h;simp[ih _ _ _ h2]
  exact this _ _ _ _ hA
 have hsz:(DataW.weightsEach C.prog Fv.params.toList ds).all (·≤reachBytes)=true:=by
  rw[List.append_nil]at xx;exact Q1 _ _ xx
 have hb:=BR W args.toList ds p hsh bR hA hsz hL;rw[Array.toArray_toList]at hb;obtain⟨N,last,o,w',t',g1,g2,g3,g4⟩:=zs3 hb Aa;refine⟨N,last,o,w',t',g1,g2,g3,g4.mono fun v ⟨hend,JH⟩=>ChangeSpec.post_blind ?_⟩;obtain⟨hv,pC⟩:=zwc (Q:=fun v=>v=.bool true) hend JH;subst hv;obtain⟨e1,e2,e3⟩:=hs ds hlen;have aQ:∀x∈p,x.block<W.heap.size:=fun x hx=>uv.lt x (by simpa using hx)
 refine⟨ds,[],p++[],[],p,[],uv,?_,?_,?_,pC.below.frame _,fun h=>by cases h⟩
 ·rw[e1,kh];exact trodAll_mk1 (shut_bool CF true)
 ·rw[e2];exact QX gP pC.below _ _ _ _ Dt hA aQ
 ·rw[xo,e3];rfl
end Pool
namespace Pool
open Go.Conc Gap Ev Go.RowKit Go.Conc.Lib Go.ChangeShapes Go.WideShapes Go.ChangeAt
local instance F2:Gap.Leaps:=onLeaps
variable {H:Type}
theorem Q0 {P:Program}{e:TypeId}{n:Nat}:∀(l:List (DataW H)) (d:DataW H),d∈l→n∈d.weights P e→n∈DataW.weightsAll P e l
 | x::l,d,h,hn=>by
  simp only[DataW.weightsAll,List.mem_append];rcases List.mem_cons.1 h with rfl|h
  ·exact .inl hn
  ·exact .inr (Q0 l d h hn)
theorem zpl {enc:TypeId × Value→H}{P:Program}{W:World}{t e f:TypeId}{a:Option Addr}{n c:Nat}{d:DataW H}{p:List MemPlace}{G:(Option Addr × Nat × Nat)→Prop}{ss:List (Option Addr × Nat × Nat)}(ht:P.underlying t=some (.slice e))(he:P.underlying e=some (.slice f))(h1:P.cellsOf e=1)(hb:P.bytesOf f=8)
  (h:DataW.Trod enc P W 0 (fun _=>true) true t (.slice a n c) d p) (hw:(d.weights P t).all (·≤reachBytes)=true) (hx:bQ W 1 x9 G a n ss):∀s∈ss,s.2.1≤140737488351232:=by
 intro s hs;obtain⟨k,hk⟩:=List.mem_iff_getElem?.1 hs
 have rU:k<n:=by
  have:=(List.getElem?_eq_some_iff.1 hk).1;rw[hx.len]at this;exact this
 obtain⟨fuel,h⟩:=h;rcases Go.Deep.open_slice1 ht h1 h with⟨fZ,_⟩|⟨a',len,cap,m,n',V,D,Pl,fZ,_,hl,hm,De,hd,hi⟩
 ·simp[Value.cells]at fZ;omega
 ·simp only[Value.cells,List.cons.injEq,Value.slice.injEq,and_true]at fZ;obtain⟨rfl,rfl,rfl⟩:=fZ
  have xb:k<m:=by
   rw[De];split<;>omega
  obtain⟨hc,FT⟩:=hi k xb;obtain⟨b,o,mz,_,cA⟩:=hx.cells k s hk;obtain rfl:=Option.some.inj mz
  have hV:V k=.slice s.1 s.2.1 s.2.2:=by
   have h2:=cA 0 _ rfl
   have e1:(⟨b,o,none⟩:Addr).add k=⟨b,o+k*1+0,none⟩:=by
    rw[oZ];simp
   rw[e1,h2]at hc;exact(Option.some.inj hc).symm
  rw[hV]at FT;rcases Go.Deep.open_slice he FT with⟨h2,_⟩|⟨_,DX,_,m',_,D',Pl',h2,_,_,_,_,h3,_⟩
  ·simp only[List.cons.injEq,Value.slice.injEq,and_true]at h2;omega
  ·simp only[List.cons.injEq,Value.slice.injEq,and_true]at h2;obtain⟨_,e2,_⟩:=h2;have hD:D k=_:=(Prod.mk.inj h3).1;obtain⟨yW,_⟩:=Prod.mk.inj hd
   have ez:(DX+(m'-DX))*8∈d.weights P t:=by
    rw[yW];unfold DataW.weights;rw[ht];refine List.mem_cons_of_mem _ (List.mem_append_left _ (Q0 _ (D k) (List.mem_map.2 ⟨k,List.mem_range.2 zo,rfl⟩) ?_));rw[hD];unfold DataW.weights;rw[he];simp[hb]
   have:=List.all_eq_true.1 hw _ ez;unfold reachBytes at this;simp at this;omega
theorem sidePlays_walk {enc:TypeId × Value→H}{E:Nat→Addr}(W:World)(args:List Value)(ds:List (DataW H))(p:List MemPlace)(hE:bF W E W.heap.size cH∧∀k,cH.contains k=true→∃c t,W.heap[(E k).block]?=some (.cells c t (0,0)))(hh:Handle W)(hP:eL W)
  (hA:DataW.TrodAll enc prog W 0 (fun _=>true) true [22,23,3] args ds p) (hw:(DataW.weightsEach prog [22,23,3] ds).all (·≤reachBytes)=true) (ha:gp prog W [22,23,3] args) :
  BW prog 3 args.toArray (Pool.view (nf W) (lY W) W) fun v w'=>v=.bool true∧Ext No (Pool.view (nf W) (lY W) W) w':=by
 obtain⟨v0,args,rfl,h0,ha⟩:=ha.cons;obtain⟨v1,args,rfl,h1,ha⟩:=ha.cons;obtain⟨v2,args,rfl,h2,ha⟩:=ha.cons;obtain rfl:=ha.nil;obtain⟨wk,rfl,_⟩:=zvS underlying3 h2;obtain⟨a0,n0,c0,rules,rfl,hr,_⟩:=Ri (d:=10) (sz:=5) underlying22 zk zd (zqb (Nat.le_refl _)) h0
 obtain⟨a,n,c,ss,rfl,hx,_⟩:=Ri (d:=2) (sz:=1) (enc:=x9) (G:=fun s=>∃ys,bQ W 1 eY (fun v=>v≤9223372036854775807) s.1 s.2.1 ys∧s.2.1≤s.2.2) underlying23 zk zd (fun cs h=>by
  have h':=h;unfold p8 at h';rw[underlying25]at h';obtain⟨a,n,c,rfl⟩:∃a n c,cs=[.slice a n c]:=h'.elim (fun e=>⟨_,_,_,e⟩) fun⟨_,_,_,e,_⟩=>⟨_,_,_,e⟩
  obtain⟨ys,hy,hn⟩:=Up (sz:=1) underlying25 zk zd (Ty underlying3) h;exact⟨(a,n,c),rfl,ys,hy.mono fun _ h=>h.2,hn⟩) h1
 obtain⟨_,_,_,ds1,_,_,e1,rfl,_,_,rP⟩:=trodAll_cons hA;simp only[List.cons.injEq]at e1;obtain⟨rfl,rfl⟩:=e1;obtain⟨_,_,d,ds2,_,_,e1,rfl,_,FT,_⟩:=trodAll_cons rP;simp only[List.cons.injEq]at e1;obtain⟨rfl,_⟩:=e1
 have FV:(d.weights prog 23).all (·≤reachBytes)=true:=by
  simp only[DataW.weightsEach,List.all_append,Bool.and_eq_true]at hw;exact hw.2.1
 have aX:=zpl underlying23 underlying25 zk zk FT FV hx
 obtain⟨ls,hl,FM⟩:=MC (p:=fun i ys=>∀s,ss[i]?=some s→s.2.1=ys.length∧s.2.1≤s.2.2∧bQ W 1 eY (fun v=>v≤9223372036854775807) s.1 s.2.1 ys) n fun i hi=>by
  obtain⟨s,hs⟩:∃s,ss[i]?=some s:=⟨_,List.getElem?_eq_getElem (by rw[hx.len];exact hi)⟩;obtain⟨ys,hy,hn⟩:=hx.lg s (List.mem_of_getElem? hs)
  exact⟨ys,fun s' vt=>by
   obtain rfl:=Option.some.inj (hs.symm.trans vt);exact⟨hy.len.symm,hn,hy⟩⟩
 obtain rfl:=hr.len
 refine Zl (Mq hr) ⟨hl,ss,Mq (hx.mono fun _ _=>trivial),fun i s ys h1 h2=>?_⟩ (fun ys hy=>?_) (fun i v hv=>GR (hP i v hv)) (by
  have h:=zr2 hE;simpa[Pool.view]using h) (GR hh) wk
 ·obtain⟨g1,g2,g3⟩:=FM i ys h2 s h1;exact⟨g1,g2,Mq g3⟩
 ·obtain⟨i,hi⟩:=List.mem_iff_getElem?.1 hy
  obtain⟨s,hs⟩:∃s,ss[i]?=some s:=⟨_,List.getElem?_eq_getElem (by
   have:=(List.getElem?_eq_some_iff.1 hi).1;have:=hx.len;omega)⟩
  rw[←(FM i ys hi s hs).1];exact aX s (List.mem_of_getElem? hs)
end Pool
namespace Ev
open Go.ChangeShapes Go.WideShapes Go.ChangeAt Go.RowKit
variable [Gap.Leaps]
theorem laidMetH_layVars {P:Program}{w0 w':World}{L:List (String × DataW Unit)}{fuel:Nat}
  (hh:w'.heap=(w0.layVars P (L.filter fun x=>x.2.handleName?.isNone)).heap)
  (hf:w0.layFits P (L.filter fun x=>x.2.handleName?.isNone) []=true)
  (hi:w0.layIfaces P (L.filter fun x=>x.2.handleName?.isNone) w'=true)
  (hH:(L.filter fun x=>x.2.handleName?.isSome&&x.2.funcsIn?.isNone).all (handleAtB P w')=true)
  (hF:funcsRun P w' fuel ((funcsListed L).map (·.1))=some ((funcsListed L).map (·.2.funcsOut))):laidMetH P L w':=by
 refine laidMetH_of_parts3 (fuel:=fuel) ?_ hH hF;generalize (L.filter fun x=>x.2.handleName?.isNone)=laid at hh hf hi ⊢;have e1:(laid.filter fun x=>(laid.map (·.1)).contains x.1)=laid:=List.filter_eq_self.2 fun x hx=>List.contains_iff_mem.2 (List.mem_map.2 ⟨x,hx,rfl⟩)
 have e2:(laid.filter fun x=>!(laid.map (·.1)).contains x.1)=[]:=List.filter_eq_nil_iff.2 fun x hx=>by rw[List.contains_iff_mem.2 (List.mem_map.2 ⟨x,hx,rfl⟩)];simp
 exact laidMet_layVars (w0:=w0) (laid.map (·.1)) [] (by rw[e1];exact hh) (by rw[e1];exact hf) (by rw[e1];exact hi) (by rw[e2];exact LaidIn.none)
end Ev
end Go.Proofs.YtggfpjldhglmeaaGreatDoor