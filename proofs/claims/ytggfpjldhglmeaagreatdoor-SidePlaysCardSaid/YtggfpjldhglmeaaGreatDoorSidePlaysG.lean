/-
  Texts of this claim, joined: Sum, RefNum, Byt, RefRead, RefReadB, RefReadC, RefReadD, RefReadE, PoolZS, MapG, Cells, Mirror, Mirrored, RefMirror, Table, Listed, TableB, TellS, RefTable.
-/
import Derived.Test.YtggfpjldhglmeaaGreatDoorSidePlaysF
import Derived.Conc.Events
set_option linter.unusedSectionVars false
set_option linter.unusedSimpArgs false
set_option linter.unusedVariables false
set_option maxRecDepth 20000
namespace Go.Proofs.YtggfpjldhglmeaaGreatDoor
open Go Tryz
section
open Ev
variable [Gap.Leaps]
variable {c k n:Nat}{x:UInt8}
def HJ (c:Nat):Nat:=c / 2 ^ 1 ^^^ 3988292384*(c &&& 1)
def rC:Nat→Nat→Nat
 | 0,c=>c
 | k+1,c=>HJ (rC k c)
def xT (c:Nat)(b:UInt8):Nat:=rC 8 (c ^^^ b.toNat)
def wv (l:List UInt8):Nat:=l.foldl xT 4294967295
def wA (l:List UInt8):Nat:=4294967295 ^^^ wv l
theorem Tm (c:Nat):c &&& 1≤1:=by
 rw[Nat.and_one_is_mod];omega
theorem zp5 (h:c<4294967296):HJ c<4294967296:=by
 have h1:=Tm c;have:3988292384*(c &&& 1)≤3988292384*1:=Nat.mul_le_mul_left _ h1;exact Nat.xor_lt_two_pow (n:=32) zo zo
theorem Ht (h:c<4294967296):∀k,rC k c<4294967296
 | 0=>h
 | k+1=>zp5 (Ht h k)
theorem Tf (h:c<4294967296)(b:UInt8):c ^^^ b.toNat<4294967296:=by
 have:=b.toNat_lt;exact Nat.xor_lt_two_pow (n:=32) zo zo
theorem zoI (h:c<4294967296)(b:UInt8):xT c b<4294967296:=Ht (Tf h b) 8
theorem Tk:∀(l:List UInt8) (c:Nat),c<4294967296→l.foldl xT c<4294967296
 | [],_,h=>h
 | x::l,c,h=>Tk l (xT c x) (zoI h x)
theorem EP (l:List UInt8):wv l<4294967296:=Tk l _ zo
theorem MO (l:List UInt8):wA l<4294967296:=Nat.xor_lt_two_pow (n:=32) zo (EP l)
theorem Ro {l:List UInt8}(h:l[k]?=some x):wv (l.take (k+1))=xT (wv (l.take k)) x:=by
 unfold wv;rw[List.take_add_one,h,List.foldl_append];rfl
theorem zyU (l:List UInt8)(hl:l.length≤1000000)(w:World) :
  aa prog 188 #[.string (bs l)] w fun v w'=>v=.int .i64 (wA l:Nat)∧Ext No w w':=by
 refine zN func188 ntmps188 ?_;have hS:=St.start w No;(conv=>whnf);rw[nE]
 refine d5 aj (fun σ w' q=>∃i:Nat,σ=[(7,.int .i64 i),(6,.int .i64 (l.length:Nat)),(3,.int .u32 (wv (l.take i):Nat)),(0,.string (bs l))]∧q=l.length-i∧i≤l.length∧St w No w' [])
  (σ':=[(7,.int .i64 ((0:Nat):Int)),(6,.int .i64 (l.length:Nat)),(3,.int .u32 ((4294967295:Nat):Int)),(0,.string (bs l))]) (n:=l.length) zs ⟨0,rfl,rfl,Nat.zero_le _,hS⟩ ?_
 rintro _ w1 q ⟨i,rfl,rfl,hi,hS⟩;apply aR<;>intro h3
 ·obtain⟨x,hx⟩:∃x,l[i]?=some x:=⟨_,List.getElem?_eq_getElem zo⟩;have aX:=Ro hx;have aQ:=EP (l.take i);have xw:=x.toNat_lt;generalize wv (l.take i)=c at aX aQ;have z5:=Tf aQ x;refine wu underlying9 rfl hx ?_;refine wo (kd:=.u32) (m:=(x.toNat:Int)) zk underlying114 (by rw[IntKind.wrap_u32'];omega) ?_;refine Uu aQ zo ?_
  refine d5 aj (fun σ w' q=>∃j:Nat,σ=[(16,.int .i64 j),(7,.int .i64 i),(6,.int .i64 (l.length:Nat)),(3,.int .u32 (rC j (c ^^^ x.toNat):Nat)),(0,.string (bs l))]∧q=8-j∧j≤8∧St w No w' [])
   (σ':=[(16,.int .i64 ((0:Nat):Int)),(7,.int .i64 i),(6,.int .i64 (l.length:Nat)),(3,.int .u32 (rC 0 (c ^^^ x.toNat):Nat)),(0,.string (bs l))]) (n:=8) zs ⟨0,rfl,rfl,Nat.zero_le _,hS⟩ ?_
  rintro _ w2 q ⟨j,rfl,rfl,hj,hS⟩;have hd:=Ht z5 j;have wT:=Ht z5 (j+1);have hdd:rC (j+1) (c ^^^ x.toNat)=HJ (rC j (c ^^^ x.toNat)):=rfl;have IE:xT c x=rC 8 (c ^^^ x.toNat):=rfl;apply aR<;>intro h4
  ·generalize rC j (c ^^^ x.toNat)=d at hd hdd;have h1:=Tm d;have h2:3988292384*(d &&& 1)≤3988292384*1:=Nat.mul_le_mul_left _ h1;refine U6 (n:=1) rfl zd ?_;refine zx2 (b:=1) hd zo ?_;refine zyx (a:=3988292384) zo ?_;refine Uu zo zo ?_;refine ag.mk zo zo ?_;refine aD.mk ⟨_,[(16,.int .i64 ((j+1:Nat):Int)),(7,_),(6,_),(3,.int .u32 (rC (j+1) (c ^^^ x.toNat):Nat)),(0,_)],?_,⟨rfl,rfl,rfl,by rw[hdd];rfl,rfl,trivial⟩,⟨j+1,rfl,rfl,by omega,hS⟩⟩;omega
  ·obtain rfl:j=8:=by omega
   rw[←IE,←aX];refine ag.mk zo zo ?_;refine aD.mk ⟨_,[(7,.int .i64 ((i+1:Nat):Int)),(6,_),(3,_),(0,_)],?_,zs,⟨i+1,rfl,rfl,by omega,hS⟩⟩;omega
 ·obtain rfl:i=l.length:=by omega
  rw[List.take_length];have h1:=EP l;have h2:=MO l;refine zyB h1 ?_;refine wo (kd:=.i64) (m:=(wA l:Nat)) zk underlying3 (by rw[IntKind.wrap_i64];unfold wA at h2 ⊢;omega) ?_;exact zF
def qJ (n e l:Nat):List UInt8:=jx n 4++jx e 4++jx l 4
def iu (n e l:Nat):List UInt8:=qJ n e l++jx (wA (qJ n e l)) 4
theorem Ew (n e l:Nat):(qJ n e l).length=12:=by simp[qJ,o8]
theorem AA (n e l:Nat):(iu n e l).length=16:=by simp[iu,Ew,o8]
theorem MK (n e l:Nat)(hn:n<9223372036854775808)(he:e<9223372036854775808)(hl:l<9223372036854775808)(w:World) :
  aa prog 128 #[.int .i64 (n:Int),.int .i64 (e:Int),.int .i64 (l:Int)] w fun v w'=>v=.string (bs (iu n e l))∧Ext No w w':=by
 have hs:=MO (qJ n e l);refine zN func128 ntmps128 ?_;have hS:=St.start w No;refine hS.cn (GY n 4 zo hn _) fun w' hS=>?_
 refine hS.cn (GY e 4 zo he _) fun w' hS=>?_
 refine kt (by simp[o8]) ?_;refine hS.cn (GY l 4 zo hl _) fun w' hS=>?_
 refine kt (by simp[o8]) ?_;rw[show jx n 4++jx e 4++jx l 4=qJ n e l from rfl];refine hS.cn (zyU (qJ n e l) (by rw[Ew];omega) _) fun w' hS=>?_
 refine hS.cn (GY (wA (qJ n e l)) 4 zo zo _) fun w' hS=>?_
 refine kt (by simp[o8,Ew]) ?_;exact zF
theorem EE (n:Nat)(hn:n<256)(w:World):aa prog 107 #[.int .i64 (n:Int)] w fun v w'=>v=.string (bs [UInt8.ofNat n])∧Ext No w w':=by
 have hb:((UInt8.ofNat n).toNat:Int)=(n:Int):=by rw[To];omega
 refine zN func107 ntmps107 ?_;have hS:=St.start w No;refine wo (kd:=.u8) (m:=((UInt8.ofNat n).toNat:Int)) zk underlying5 (by rw[IntKind.wrap_u8',hb];omega) ?_;refine hS.lit (cs:=j1 (UInt8.ofNat n)) underlying124 (sz:=1) zk (z:=.int .u8 0) zk rfl rfl (by rfl) (fun bz w' I9 hS=>?_);have h0:aH w' bz 0 ([UInt8.ofNat n].flatMap j1):=(hS.blk 0 rfl).cells rfl;refine H2 underlying124 underlying5 underlying9 h0 rfl ?_;exact zF
theorem zq4 (n m:Nat):jx n (m+1)=UInt8.ofNat (n / 256 ^ m)::jx n m:=by
 unfold jx;rw[List.range_succ_eq_map,List.map_cons,List.map_map];congr 1;apply List.map_congr_left;intro j hj;have hj:=List.mem_range.1 hj;simp only[Function.comp];rw[show m+1-1-(j+1)=m-1-j by omega]
theorem HH (n m:Nat)(hm:m≤100)(hn:n<9223372036854775808)(w:World) :
  aa prog 159 #[.int .i64 (n:Int),.int .i64 (m:Int)] w fun v w'=>v=.string (bs (jx n m))∧Ext No w w':=by
 refine zN func159 ntmps159 ?_;have hS:=St.start w No
 refine d5 aj (fun σ w' q=>∃i:Nat,σ=[(6,.int .i64 i),(5,.string (bs (jx n i))),(1,.int .i64 m),(0,.int .i64 (n / 256 ^ i:Nat))]∧q=m-i∧i≤m∧St w No w' [])
  (σ':=[(6,.int .i64 ((0:Nat):Int)),(5,.string (bs (jx n 0))),(1,.int .i64 m),(0,.int .i64 n)]) (n:=m) zs ⟨0,by simp,rfl,Nat.zero_le _,hS⟩ ?_
 rintro _ w1 q ⟨i,rfl,rfl,hi,hS⟩;have hle:n / 256 ^ i≤n:=Nat.div_le_self _ _;have aX:=zq4 n i;have hdd:n / 256 ^ (i+1)=n / 256 ^ i / 256:=by rw[Nat.pow_succ,Nat.div_div_eq_div_mul]
 have FP:UInt8.ofNat (n / 256 ^ i)=UInt8.ofNat (n / 256 ^ i % 256):=by
  apply UInt8.toNat_inj.1;rw[UInt8.toNat_ofNat',UInt8.toNat_ofNat'];omega
 generalize n / 256 ^ i=d at hle aX hdd FP;apply aR<;>intro h3
 ·have zg:(d:Int).tmod 256=((d % 256:Nat):Int):=by rw[Int.tmod_eq_emod_of_nonneg zo];omega
  have yW:(d:Int).tdiv 256=((d / 256:Nat):Int):=by rw[Int.tdiv_eq_ediv_of_nonneg zo];omega
  refine bO.mk zd ?_;rw[zg];refine hS.cn (EE (d % 256) zo _) fun w' hS=>?_
  refine kt (by rw[o8];simp;omega) ?_;rw[←FP,List.singleton_append,←aX];refine bO.mk zd ?_;rw[yW];refine ag.mk zo zo ?_;refine ag.mk zo zo ?_;refine aD.mk ⟨_,[(6,.int .i64 ((i+1:Nat):Int)),(5,_),(1,_),(0,.int .i64 (n / 256 ^ (i+1):Nat))],?_,⟨rfl,rfl,rfl,by rw[hdd];rfl,trivial⟩,⟨i+1,rfl,rfl,by omega,hS⟩⟩;omega
 ·obtain rfl:i=m:=by omega
  exact zF
structure aP where
 data:List UInt8
 off:Bool
 left:Int
def dL (B:aP):List Value:=B.data.flatMap j1++[.bool B.off,.int .i64 B.left]
theorem xY {B:aP}(h:B.data.length=64):(dL B).length=66:=by
 simp only[dL,List.length_append,gU oL,h,List.length_cons,List.length_nil]
theorem ET {B:aP}(h:B.data.length=64):(dL B)[64]?=some (.bool B.off):=by
 unfold dL;rw[List.getElem?_append_right (by rw[gU oL];omega),gU oL,h];rfl
theorem Tn {B:aP}(h:B.data.length=64):(dL B)[65]?=some (.int .i64 B.left):=by
 unfold dL;rw[List.getElem?_append_right (by rw[gU oL];omega),gU oL,h];rfl
theorem zzl {B:aP}(h:B.data[k]?=some x):(dL B)[k]?=some (.int .u8 (x.toNat:Int)):=by
 have:=AG oL (j:=0) h rfl;have lt:=(List.getElem?_eq_some_iff.1 h).1;unfold dL;rw[List.getElem?_append_left (by rw[gU oL];omega)];simpa using this
theorem zya {B:aP}  {y:UInt8}(h:B.data[k]?=some y):over (dL B) k [.int .u8 (x.toNat:Int)]=dL ⟨B.data.set k x,B.off,B.left⟩:=by
 have lt:=(List.getElem?_eq_some_iff.1 h).1;unfold dL;have:=AL [] (B.data.flatMap j1) [.bool B.off,.int .i64 B.left] [.int .u8 (x.toNat:Int)] k (by rw[gU oL];simp;omega);simp only[List.nil_append,List.length_nil,Nat.zero_add]at this;have h2:=Eu oL (j:=0) (y:=x) (vs:=[.int .u8 (x.toNat:Int)]) h zi rfl;rw[Nat.mul_one,Nat.add_zero]at h2;rw[this,h2]
theorem Hb {B:aP}{x:Bool}(h:B.data.length=64):over (dL B) 64 [.bool x]=dL ⟨B.data,x,B.left⟩:=by
 unfold dL;have:=AL (B.data.flatMap j1) [.bool B.off,.int .i64 B.left] [] [.bool x] 0 zi;simp only[gU oL,h,List.append_nil,Nat.mul_one,Nat.add_zero]at this;rw[this];rfl
theorem KZ {B:aP}{x:Int}(h:B.data.length=64):over (dL B) 65 [.int .i64 x]=dL ⟨B.data,B.off,x⟩:=by
 unfold dL;have:=AL (B.data.flatMap j1) [.bool B.off,.int .i64 B.left] [] [.int .i64 x] 1 zi;simp only[gU oL,h,List.append_nil,Nat.mul_one]at this;rw[this];rfl
def aP.write (B:aP)(p:Nat):List UInt8→Bool × aP
 | []=>(true,B)
 | x::r=>if B.off=true∨B.left=0 then (false,⟨B.data,true,B.left⟩) else aP.write ⟨B.data.set p x,B.off,if B.left-1 > -1 then B.left-1 else -1⟩ (p+1) r
theorem xK (B:aP)(p:Nat)(x:UInt8)(r:List UInt8):B.write p (x::r)=if B.off=true∨B.left=0 then (false,⟨B.data,true,B.left⟩) else aP.write ⟨B.data.set p x,B.off,if B.left-1 > -1 then B.left-1 else -1⟩ (p+1) r:=rfl
theorem Sd (B:aP)(p:Nat):B.write p []=(true,B):=rfl
def gD:aP:=⟨List.replicate 64 0,false,-1⟩
section
variable {w:World}{b:Nat}{B:aP}
theorem P6 (w:World):aa prog 34 #[] w fun v w'=>∃b,v=.pointer (some ⟨b,0,none⟩)∧w.heap.size≤b∧Ext No w w'∧bC w' b 176 (dL gD):=by
 have hb:∀w,(Instr.build 176 #[(2,.int .i64 (-1))]).run prog w=.ok (.agg (dL gD).toArray) w:=fun w=>zk
 have jc:∀k:Value→Prop,k (.agg (dL gD).toArray)→aB prog (Instr.build 176 #[(2,.int .i64 (-1))]) k:=fun k hk=>aB.of hb hk
 have ho:cM (.agg (dL gD).toArray)=dL gD:=by simp[cM]
 generalize Value.agg (dL gD).toArray=VV at jc ho;refine zN func34 ntmps34 ?_;have hS:=St.start w No;repeat' ((conv=>whnf);first|apply aI.mk|refine jc _ ?_)
 refine hS.new (fun b w' hb hS=>?_);rw[ho]at hS;refine zE ?_;exact⟨b,rfl,hb,hS.ext,hS.blk 0 rfl⟩
theorem zx8 (hb:bC w b 176 (dL B))(hl:B.data.length=64):aa prog 157 #[.pointer (some ⟨b,0,none⟩)] w fun _ w'=>Ext (· = b) w w'∧bC w' b 176 (dL ⟨B.data,false,-1⟩):=by
 refine zN func157 ntmps157 ?_;have hS:=St.sb hb;refine hS.st 0 rfl (by rw[xY hl];simp[cM]) rfl (fun w' hS=>?_);replace hS:St w (· = b) w' [blk b 176 (dL ⟨B.data,false,B.left⟩)]:=by rw[←Hb hl];exact hS
 refine hS.st 0 rfl (by rw[xY (by exact hl)];simp[cM]) rfl (fun w' hS=>?_);replace hS:St w (· = b) w' [blk b 176 (dL ⟨B.data,false,-1⟩)]:=by rw[←KZ (B:=⟨B.data,false,B.left⟩) hl];exact hS
 refine zE ?_;exact⟨hS.ext,hS.blk 0 rfl⟩
theorem zvZ (hb:bC w b 176 (dL B))(hl:B.data.length=64):aa prog 156 #[.pointer (some ⟨b,0,none⟩)] w fun _ w'=>Ext (· = b) w w'∧bC w' b 176 (dL ⟨B.data,true,B.left⟩):=by
 refine zN func156 ntmps156 ?_;have hS:=St.sb hb;refine hS.st 0 rfl (by rw[xY hl];simp[cM]) rfl (fun w' hS=>?_);replace hS:St w (· = b) w' [blk b 176 (dL ⟨B.data,true,B.left⟩)]:=by rw[←Hb hl];exact hS
 refine zE ?_;exact⟨hS.ext,hS.blk 0 rfl⟩
theorem zpQ (hb:bC w b 176 (dL B))(hl:B.data.length=64):aa prog 149 #[.pointer (some ⟨b,0,none⟩)] w fun v w'=>v=.bool (!B.off)∧Ext No w w':=by
 refine zN func149 ntmps149 ?_;have hS:=St.start w No;refine g9 (v:=.bool B.off) (by rw[hb.cell];exact ET hl) ?_;exact zF
theorem zvV (hb:bC w b 176 (dL B))(hl:B.data.length=64):aa prog 126 #[.pointer (some ⟨b,0,none⟩)] w fun v w'=>v=.string (bs B.data)∧Ext No w w':=by
 have h0:aH w b 0 (B.data.flatMap j1):=fun j v hj=>by
  have lt:=(List.getElem?_eq_some_iff.1 hj).1;rw[hb.cell];unfold dL;rw[Nat.zero_add,List.getElem?_append_left lt];exact hj
 refine zN func126 ntmps126 ?_;have hS:=St.start w No;refine H2 underlying124 underlying5 underlying9 h0 hl ?_;exact zF
theorem zvW {E:Nat→Addr}(k:Int)(hb:bC w b 176 (dL B))(hl:B.data.length=64)(hE:bF w E n [2,7])(hq:n≤b):aa prog 158 #[.pointer (some ⟨b,0,none⟩),.int .i64 k] w fun v w'=>v=gC E (if k<0 then 2 else if B.off=true then 7 else 0)∧Ext (· = b) w w'∧bC w' b 176 (dL (if k<0∨B.off=true then B else ⟨B.data,B.off,k⟩)):=by
 refine zN func158 ntmps158 ?_;have hS:=St.sb hb;apply aR<;>intro h1
 ·repeat' first|refine zP ?_|refine hS.cK (hE.at_ 2 rfl) (hE.ne 2 rfl hq) ?_|refine hS.cV (hE.at_ 2 rfl) (hE.ne 2 rfl hq) id ?_
  rw[if_pos h1,if_pos (.inl h1)];exact⟨rfl,hS.ext,hS.blk 0 rfl⟩
 refine hS.ld 0 rfl (ET hl) ?_;rw[if_neg h1];cases ho:B.off
 ·rw[if_neg zi,if_neg (by simp[h1])];refine hS.st 0 rfl (by rw[xY hl];simp[cM]) rfl (fun w' hS=>?_);replace hS:St w (· = b) w' [blk b 176 (dL ⟨B.data,B.off,k⟩)]:=by rw[←KZ hl];exact hS
  rw[ho]at hS;exact zG
 ·rw[if_pos rfl,if_pos (.inr rfl)];repeat' first|refine zP ?_|refine hS.cK (hE.at_ 7 rfl) (hE.ne 7 rfl hq) ?_|refine hS.cV (hE.at_ 7 rfl) (hE.ne 7 rfl hq) id ?_
  exact⟨rfl,hS.ext,hS.blk 0 rfl⟩
theorem zv7 {α:Type}{s:List α}{i:Nat}{x:α}(h:s[i]?=some x):s.drop i=x::s.drop (i+1):=by
 obtain⟨lt,e⟩:=List.getElem?_eq_some_iff.1 h;rw[List.drop_eq_getElem_cons lt,e]
theorem El {E:Nat→Addr}(p:Nat)(s:List UInt8)(hp:p+s.length≤64)(hb:bC w b 176 (dL B))(hl:B.data.length=64)(hf : -1≤B.left∧B.left≤9223372036854775807)(hE:bF w E n [7])(hq:n≤b) :
  aa prog 189 #[.pointer (some ⟨b,0,none⟩),.int .i64 (p:Int),.string (bs s)] w fun v w'=>v=gC E (if (B.write p s).1=true then 0 else 7)∧Ext (· = b) w w'∧bC w' b 176 (dL (B.write p s).2):=by
 refine zN func189 ntmps189 ?_;have hS:=(St.start w (· = b)).add (eh b _ _) hb (by simp[blk];exact hb.lt) zi;(conv=>whnf);rw[nE]
 refine d5 aj (fun σ w' q=>∃(i:Nat) (C:aP),σ=[(10,.int .i64 i),(9,.int .i64 (s.length:Nat)),(2,.string (bs s)),(1,.int .i64 (p:Int)),(0,.pointer (some ⟨b,0,none⟩))]∧q=s.length-i∧i≤s.length∧C.data.length=64∧(-1≤C.left∧C.left≤9223372036854775807)∧B.write p s=C.write (p+i) (s.drop i)∧St w (· = b) w' [blk b 176 (dL C)])
  (σ':=[(10,.int .i64 ((0:Nat):Int)),(9,.int .i64 (s.length:Nat)),(2,.string (bs s)),(1,.int .i64 (p:Int)),(0,.pointer (some ⟨b,0,none⟩))]) (n:=s.length) zs ⟨0,B,rfl,rfl,Nat.zero_le _,hl,hf,rfl,hS⟩ ?_
 rintro _ w1 q ⟨i,C,rfl,rfl,hi,il,lS,hw,hS⟩;apply aR<;>intro h3
 ·obtain⟨x,hx⟩:∃x,s[i]?=some x:=⟨_,List.getElem?_eq_getElem zo⟩;obtain⟨y,hy⟩:∃y,C.data[p+i]?=some y:=⟨_,List.getElem?_eq_getElem zo⟩;rw[zv7 hx,xK]at hw;refine hS.ld 0 rfl (ET il) ?_
  have fail:C.off=true∨C.left=0→∀w',St w (· = b) w' [blk b 176 (dL ⟨C.data,true,C.left⟩)]→(gC E 7=gC E (if (B.write p s).1=true then 0 else 7)∧Ext (· = b) w w'∧bC w' b 176 (dL (B.write p s).2)):=by
   intro h w' hS;rw[if_pos h]at hw;rw[hw];exact⟨rfl,hS.ext,hS.blk 0 rfl⟩
  cases N6:C.off
  ·refine hS.ld 0 rfl (Tn il) ?_;refine aM (fun h4=>?_) (fun h4=>?_)
   ·(conv=>whnf)
    refine hS.st 0 rfl (by rw[xY il];simp[cM]) rfl (fun w' hS=>?_);replace hS:St w (· = b) w' [blk b 176 (dL ⟨C.data,true,C.left⟩)]:=by rw[←Hb il];exact hS
    repeat' ((conv=>whnf);first|apply aI.mk|refine bO.mk zd ?_|refine ag.mk zo zo ?_|refine ao.mk zo zo ?_|refine hS.cK (hE.at_ 7 rfl) (hE.ne 7 rfl hq) ?_|refine hS.cV (hE.at_ 7 rfl) (hE.ne 7 rfl hq) id ?_|(first|apply aM|apply ca|apply cE|apply cD)<;>(intro))
    exact fail (.inr h4) _ hS
   ·rw[if_neg (by simp[N6,h4])]at hw;(conv=>whnf);refine hS.dr [] ((· = b)) [0,1,2,3,4,5,6,7,8,9,10] fun w1 hS=>?_
    refine ag.mk zo zo ?_;refine wu underlying9 rfl hx ?_;refine ao.mk zo zo ?_;refine hS.oD 0 rfl (by rw[xY il];simp[cM];omega) rfl (fun w' aU hS=>?_);refine ae.mk aU ?_
    have ho:over (dL C) (0+0+((p:Int)+(i:Int)).toNat*1) (cM (.int .u8 (x.toNat:Int)))=dL ⟨C.data.set (p+i) x,C.off,C.left⟩:=by
     rw[show 0+0+((p:Int)+(i:Int)).toNat*1=p+i by omega];exact zya hy
    have qT:(C.data.set (p+i) x).length=64:=by rw[List.length_set];exact il
    replace hS:St w (· = b) w' [blk b 176 (dL ⟨C.data.set (p+i) x,C.off,C.left⟩)]:=by rw[←ho];exact hS
    refine hS.ld 0 rfl (Tn (by exact qT)) ?_;refine ag.mk (by dsimp only;omega) (by dsimp only;omega) ?_;refine hS.st 0 rfl (by rw[xY (by exact qT)];simp[cM]) rfl (fun w' hS=>?_)
    replace hS:St w (· = b) w' [blk b 176 (dL ⟨C.data.set (p+i) x,C.off,if C.left-1 > -1 then C.left-1 else -1⟩)]:=by
     rw[←KZ (B:=⟨C.data.set (p+i) x,C.off,C.left⟩) qT];exact hS
    refine ag.mk zo zo ?_;refine aD.mk ⟨_,[(10,.int .i64 ((i+1:Nat):Int)),(9,_),(2,_),(1,_),(0,_)],?_,zs,⟨i+1,⟨C.data.set (p+i) x,C.off,if C.left-1 > -1 then C.left-1 else -1⟩,rfl,rfl,by omega,qT,by dsimp only;split<;>omega,hw,hS⟩⟩;omega
  ·refine hS.st 0 rfl (by rw[xY il];simp[cM]) rfl (fun w' hS=>?_);replace hS:St w (· = b) w' [blk b 176 (dL ⟨C.data,true,C.left⟩)]:=by rw[←Hb il];exact hS
   repeat' ((conv=>whnf);first|apply aI.mk|refine bO.mk zd ?_|refine ag.mk zo zo ?_|refine ao.mk zo zo ?_|refine hS.cK (hE.at_ 7 rfl) (hE.ne 7 rfl hq) ?_|refine hS.cV (hE.at_ 7 rfl) (hE.ne 7 rfl hq) id ?_|(first|apply aM|apply ca|apply cE|apply cD)<;>(intro))
   exact fail (.inl N6) _ hS
 ·obtain rfl:i=s.length:=by omega
  rw[List.drop_length,Sd]at hw;rw[hw];exact zG
end
section
variable {P:Program}{k:Value→Prop}{t:TypeId}
end
def RuleS.pr (r:RuleS):List Pr:=[.bool r.allow,.bool r.out,.int r.proto,.int r.low,.int r.top]
section
variable {w:World}{G G':RuleS→Prop}{a b:Option Addr}{m d:Nat}{xs ys:List RuleS}
end
end
namespace Pool
open Go.Conc Gap Ev Go.RowKit Go.Conc.Lib
local instance:Gap.Leaps:=onLeaps
attribute [local instance] Kn
theorem Qp (l:List RuleS):(gg l).1<12∧((gg l).1=0→(gg l).2 = -1):=by
 rcases QI l with⟨h1,h2⟩|⟨h1,h2⟩|⟨h1,h2⟩<;>omega
theorem Zu (k n:Int):nB k n<12:=by
 unfold nB;split
 ·omega
 ·split<;>omega
section
variable {w:World}{E:Nat→Addr}{q n c:Nat}{a:Option Addr}{G:List UInt8→Prop}{ls:List (List UInt8)}
def Ia:List UInt8:=[100,101,110,121,32,105,110,32,117,100,112,32,49,45,50,10]
theorem Yt (k n:Int)(w:World):aa prog 7 #[.int .i64 k,.int .i64 n] w fun v w'=>v=.agg (Fi (nB k n) (-1)).toArray∧Ext No w w':=by
 have hS:=St.start w No;unfold nB;refine zN func7 ntmps7 ?_;refine hS.new (fun b w' hb hS=>?_);repeat' ((conv=>whnf);first|apply aI.mk|refine bO.mk zd ?_|refine ag.mk zo zo ?_|refine ao.mk zo zo ?_|(refine(MI 3 _).mono ?_;rintro v w' ⟨rfl,aU⟩;replace hS:=hS.no aU;clear aU)|(refine(MI 2 _).mono ?_;rintro v w' ⟨rfl,aU⟩;replace hS:=hS.no aU;clear aU)|(refine(TM _).mono ?_;rintro v w' ⟨rfl,aU⟩;replace hS:=hS.no aU;clear aU)|refine hS.st 0 rfl zl rfl (fun w' hS=>?_)|refine hS.mF 0 rfl rfl ?_|(first|apply aM|apply ca|apply cE|apply cD)<;>(intro))
 ·rw[if_pos zo];exact⟨rfl,hS.ext⟩
 ·rw[if_pos zo];exact⟨rfl,hS.ext⟩
 ·rw[if_neg zo,if_pos zo];exact⟨rfl,hS.ext⟩
 ·rw[if_neg zo,if_neg zo];exact⟨rfl,hS.ext⟩
end
end Pool
section
open Ev Gap Go.Instr
variable [Gap.Leaps]
variable {elem key t:TypeId}
section
variable {P:Program}{α:Type}{w w':World}{v:α}{v1:Value}{r:Nat}{o:Obj}
theorem Qw {s s':Sem α}(h:∀W,s.run P W=s'.run P W∧s.events P W #[]=s'.events P W #[])(hq:Quiet P s' w v w'):Quiet P s w v w':=by
 intro O Z W hl;obtain⟨W',hD,h1,h2⟩:=hq O Z W hl;exact⟨W',⟨(h W).1.trans hD.run,hD.os,hD.tape,hD.output,hD.size,hD.keep,fun e he=>hD.evs e (by rw[←(h W).2];exact he)⟩,h1,h2⟩
theorem PN {f:Obj→Sem α}(ho:w.heap[r]?=some o)(hm:∀c t fr,o≠.cells c t fr)(hc:o.isChan=false)(hf:Plain P (f o))(hr:(f o).run P w=.ok v w')(hs:w'.heap.size=w.heap.size)(hd:w'.drawn=w.drawn) :
  Quiet P (getObj r >>= f) w v w':=by
 intro O Z W hl
 have hO:O r:=Classical.byContradiction fun hn=>by
  rcases hl.rest r o hn ho with e | ⟨_,c,t,fr,_,e⟩
  ·exact hm _ _ _ e
  ·exact hm _ _ _ e
 obtain⟨o',e1,e2,_⟩:=hl.own r hO;have hW:W.heap[r]?=some o:=by rw[e2,←e1,ho]
 obtain⟨W',hD,h1,h2⟩:=Quiet.of hf hr hs hd O Z W hl;have hg:(getObj r).run P W=.ok o W:=by simp[getObj,Sem.run,hW]
 refine⟨W',⟨by rw[Sem.run_bind,hg];exact hD.run,hD.os,hD.tape,hD.output,hD.size,hD.keep,fun e he=>?_⟩,h1,h2⟩;rw[Sem.events_bind,hg,Result.evThen_ok]at he;rcases dE _ _ _ he with he|he
 ·have hev:(getObj r).events P W #[] = #[⟨.obj r,false,o.isChan⟩]:=by
   simp[getObj,Sem.events,Sem.runT,hW,-Sem.runT_eq]
  rw[hev,hc]at he;obtain rfl:e=⟨.obj r,false,false⟩:=by simpa using he
  exact⟨.inl rfl,.inl hO⟩
 ·exact hD.evs e he
def Nj (key elem:TypeId)(k:Value)(o:Obj):Sem Value :=
 match o with
 | .map es _=>checkKey es.isEmpty 10000 key k >>= fun _=>findKey key k es.toList >>= fun q=>match q with
  | some (_,v)=>pure v
  | none=>zeroValue elem >>= fun z=>pure z
 | _ => stuck "Lookup: map expected"
theorem RZ (hm:P.underlying t=some (.map key elem))(k:Value)(W:World):(Instr.lookup t (.map (some r)) k false).run P W=(getObj r >>= Nj key elem k).run P W∧(Instr.lookup t (.map (some r)) k false).events P W #[]=(getObj r >>= Nj key elem k).events P W #[]:=by
 have e:Instr.lookup t (.map (some r)) k false=(underlying t >>= fun d=>match d with
   | .map key elem=>getObj r >>= Nj key elem k
   | _ => stuck "Lookup: map type expected") := by
  unfold Instr.lookup;refine congrArg (underlying t >>= ·) (funext fun d=>?_);cases d<;>rfl
 rw[e];constructor
 ·simp only[Sem.run_bind,run_underlying hm,Result.andThen_ok]
 ·simp only[Sem.events_bind,run_underlying hm,Result.evThen_ok,events_underlying]
def Np (key:TypeId)(r:Nat)(k x:Value)(o:Obj):Sem Unit :=
 match o with
 | .map es clock=>checkKey false 10000 key k >>= fun _=>findKey key k es.toList >>= fun q=>match q with
  | some (i,_)=>keyThatStays (((es[i]?).map (·.key)).getD k) k >>= fun key=>setObj r (.map (es.modify i fun e=>{ e with key,val:=x }) clock)
  | none=>setObj r (.map (es.push { key:=k,val:=x,born:=clock }) (clock+1))
 | _ => stuck "MapUpdate: map expected"
theorem upd_same (hm:P.underlying t=some (.map key elem))(k x:Value)(W:World):(Instr.mapUpdate t (.map (some r)) k x).run P W=(getObj r >>= Np key r k x).run P W∧(Instr.mapUpdate t (.map (some r)) k x).events P W #[]=(getObj r >>= Np key r k x).events P W #[]:=by
 have e:Instr.mapUpdate t (.map (some r)) k x=(underlying t >>= fun d=>match d with
   | .map key _=>getObj r >>= Np key r k x
   | _ => stuck "MapUpdate: map type expected") := rfl
 rw[e];constructor
 ·simp only[Sem.run_bind,run_underlying hm,Result.andThen_ok]
 ·simp only[Sem.events_bind,run_underlying hm,Result.evThen_ok,events_underlying]
theorem QS {k:Value}{es:Array MapEntry}{c:Nat}(hm:P.underlying t=some (.map key elem))(ho:w.heap[r]?=some (.map es c))(Jc:Plain P (checkKey es.isEmpty 10000 key k))(Bg:Plain P (findKey key k es.toList))
  (hr:(Instr.lookup t (.map (some r)) k false).run P w=.ok v1 w):Quiet P (Instr.lookup t (.map (some r)) k false) w v1 w:=by
 have hg:(getObj r).run P w=.ok (.map es c) w:=by simp[getObj,Sem.run,ho]
 refine Qw (RZ hm k) (PN ho zi rfl ?_ ?_ rfl rfl)
 ·show Plain P (checkKey es.isEmpty 10000 key k >>= fun _=>_);refine af Jc fun _=>af Bg fun q=>?_
  cases q
  ·exact af (js _) fun z=>trivial
  ·trivial
 ·rw[(RZ hm k w).1,Sem.run_bind,hg]at hr;exact hr
theorem R9 {k x:Value}{es:Array MapEntry}{c:Nat}(hm:P.underlying t=some (.map key elem))(ho:w.heap[r]?=some (.map es c))(Jc:Plain P (checkKey false 10000 key k))(Bg:Plain P (findKey key k es.toList))(FL:∀k',Plain P (keyThatStays k' k))
  (hr:(Instr.mapUpdate t (.map (some r)) k x).run P w=.ok () w') (hs:w'.heap.size=w.heap.size) (hd:w'.drawn=w.drawn):Quiet P (Instr.mapUpdate t (.map (some r)) k x) w () w':=by
 have hg:(getObj r).run P w=.ok (.map es c) w:=by simp[getObj,Sem.run,ho]
 refine Qw (upd_same hm k x) (PN ho zi rfl ?_ ?_ hs hd)
 ·show Plain P (checkKey false 10000 key k >>= fun _=>_);refine af Jc fun _=>af Bg fun q=>?_
  cases q
  ·exact PM _ rfl
  ·exact af (FL _) fun k'=>PM _ rfl
 ·rw[(upd_same hm k x w).1,Sem.run_bind,hg]at hr;exact hr
theorem Gm {kd:IntKind}(hu:P.underlying t=some (.int kd)){cs:Array Value}{i:Nat}{v:Value}(h:cs[i]?=some v){β:Type}{f:Value→Sem β}(hf:Plain P (f v)):Plain P (part t cs i >>= f):=by
 unfold part isAgg underlying
 show Plain P (((((match P.underlying t with | some d => pure d | none => stuck "no such type") : Sem TypeDesc) >>= fun d => _) >>= fun b => _) >>= f)
 rw[hu]
 show Plain P ((match cs[i]? with | some v => pure v | none => stuck "part: no such cell") >>= f)
 rw[h];exact hf
end
end
section
open Ev
variable [Gap.Leaps]
variable {α:Type}{now:Int}{p:List Nat}{b c g j k n:Nat}{E:Nat→Addr}{a:Option Addr}{w:World}
structure cI where
 proto:Int
 ia:Int
 ip:Int
 fa:Int
 fp:Int
 port:Int
 state:Int
 i5:Int
 deriving DecidableEq
structure ax where
 slot:Int
 dF:Int
 f:cI
 deriving DecidableEq
def dW (f:cI):List Value:=[.int .i64 f.proto,.int .i64 f.ia,.int .i64 f.ip,.int .i64 f.fa,.int .i64 f.fp,.int .i64 f.port,.int .i64 f.state,.int .i64 f.i5]
def bV (c:ax):List Value:=[.int .i64 c.slot,.int .i64 c.dF,.int .i64 c.f.proto,.int .i64 c.f.ia,.int .i64 c.f.ip,.int .i64 c.f.fa,.int .i64 c.f.fp,.int .i64 c.f.port,.int .i64 c.f.state,.int .i64 c.f.i5]
def cI.pr (f:cI):List Pr:=[.int f.proto,.int f.ia,.int f.ip,.int f.fa,.int f.fp,.int f.port,.int f.state,.int f.i5]
def ax.pr (c:ax):List Pr:=[.int c.slot,.int c.dF,.int c.f.proto,.int c.f.ia,.int c.f.ip,.int c.f.fa,.int c.f.fp,.int c.f.port,.int c.f.state,.int c.f.i5]
def E5 (a p:Int):List Pr:=[.int a,.int p]
def fN:cI:=⟨0,0,0,0,0,0,0,0⟩
theorem gF:cR 10 bV:=⟨fun _=>rfl,fun _=>rfl,by decide⟩
theorem BH:cR 8 dW:=⟨fun _=>rfl,fun _=>rfl,by decide⟩
def fW (p:α→Bool):List α→Nat→Int
 | [],_=>-1
 | x::xs,k=>match p x with|true=>(k:Int)|false=>fW p xs (k+1)
theorem Hh (p:α→Bool){xs:List α}{k:Nat}{x:α}(hx:xs[k]?=some x):fW p (xs.drop k) k=match p x with|true=>(k:Int)|false=>fW p (xs.drop (k+1)) (k+1):=by
 obtain⟨aQ,rfl⟩:=List.getElem?_eq_some_iff.1 hx;rw[List.drop_eq_getElem_cons aQ];rfl
theorem P5 (p:α→Bool):∀(xs:List α) (k:Nat),(0≤fW p xs k)=(xs.any p=true)
 | [],k=>by simp[fW]
 | x::xs,k=>by
  unfold fW;cases h:p x
  ·simp[h,P5 p xs (k+1)]
  ·simp[h]
section
variable {G:ax→Prop}{b:Option Addr}{m d:Nat}{xs ys:List ax}
theorem KT (p:ax→Bool)(g:FuncId)(cW:List Value)(hx:bQ w 10 bV G a n xs)
  (hg:∀x∈xs,G x→∀w',Ext No w w'→aa prog g ([Value.agg (bV x).toArray]++cW).toArray w' fun v kT=>v=.bool (p x)∧Ext No w' kT) :
  aa prog 261 #[.slice a n c,.func (.func g) #[] cW.toArray] w fun v w'=>v=.int .i64 (fW p xs 0)∧Ext No w w':=by
 have hm:=hx.max;have hl:=hx.len;refine zN func261 ntmps261 ?_;have hS:=St.start w No
 refine d5 aj (fun σ w' q=>∃k:Nat,σ=[(8,.int .i64 k),(7,.int .i64 n),(1,.func (.func g) #[] cW.toArray),(0,.slice a n c)]∧q=n-k∧k≤n∧St w No w' []∧fW p xs 0=fW p (xs.drop k) k)
  (σ':=[(8,.int .i64 ((0:Nat):Int)),(7,.int .i64 n),(1,.func (.func g) #[] cW.toArray),(0,.slice a n c)]) (n:=n) zs ⟨0,rfl,rfl,Nat.zero_le _,hS,by simp⟩ ?_
 rintro _ w1 q ⟨k,rfl,rfl,hk,hS,hi⟩;apply aR<;>intro h3
 ·obtain⟨b0,o0,x,dB,wY,rfl,_,hc⟩:=hx.at (k:=k) zo;have aX:=Hh p dB;refine ao.mk zo zo ?_;refine hS.mV (l:=bV x) rfl hc id ?_;have key:=hg x (List.mem_of_getElem? dB) wY w1 hS.ext
  have fin:∀(K:Value→World→Prop),(∀w',Ext No w1 w'→K (.bool (p x)) w')→aa prog g ([Value.agg (bV x).toArray]++cW).toArray w1 K:=by
   intro K hK;refine key.mono ?_;rintro v w' ⟨rfl,aU⟩;exact hK w' aU
  cases cW
  all_goals
   refine fin _ ?_;intro w' aU;replace hS:=hS.no aU;apply aR<;>intro h4
   ·refine zE ?_;rw[hi,aX,h4];exact⟨rfl,hS.ext⟩
   ·refine ag.mk zo zo ?_;refine aD.mk ⟨_,[(8,.int .i64 ((k+1:Nat):Int)),(7,_),(1,_),(0,_)],?_,zs,⟨k+1,rfl,rfl,by omega,hS,?_⟩⟩
    ·omega
    ·rw[hi,aX,h4]
 ·refine zE ?_;have:k=n:=by omega
  subst this;rw[hi,List.drop_of_length_le zo];exact⟨rfl,hS.ext⟩
theorem Yr (p:ax→Bool)(g:FuncId)(cW:List Value)(hx:bQ w 10 bV G a n xs)
  (hg:∀x∈xs,G x→∀w',Ext No w w'→aa prog g ([Value.agg (bV x).toArray]++cW).toArray w' fun v kT=>v=.bool (p x)∧Ext No w' kT) :
  aa prog 223 #[.slice a n c,.func (.func g) #[] cW.toArray] w fun v w'=>v=.bool (xs.any p)∧Ext No w w':=by
 refine zN func223 ntmps223 ?_;refine(KT p g cW hx hg).mono ?_;rintro v w' ⟨rfl,aU⟩;refine zE ?_
 have e:decide (fW p xs 0≥0)=xs.any p:=by
  show decide (0≤_)=_;simp only[P5];cases xs.any p<;>rfl
 rw[e];exact⟨rfl,aU⟩
theorem Zc {xs ys:List α}  {x y:α}(hx:xs[k]?=some x)(hy:ys[k]?=some y)(h:xs.take k=ys.take k)(he:x=y):xs.take (k+1)=ys.take (k+1):=by
 rw[List.take_add_one,List.take_add_one,hx,hy,h,he]
end
theorem Ev.St.xA {w0:World}{S:Nat→Prop}{H:List bZ}(h:St w0 S w H)(i j:Nat){α:Type}{b:Nat}{t e:TypeId}{cs:List Value}{sz n c:Nat}{enc:α→List Value}{a:Option Addr}{xs:List α}(hi:H[i]?=some (Ev.blk b t cs))(hj:H[j]?=some (az e sz enc (.slice a n c) xs))(cj:i≠j):∀b0 o0,a=some ⟨b0,o0,none⟩→b0≠b:=by
 rintro b0 o0 rfl rfl;have:=mj m4 h.apart hi hj cj b0 (by simp[Ev.blk]);simp[az,own,Value.ownBlock]at this
structure aC where
 au:Int
 cells:List ax
def cP (m:aC):List Value:=.int .i64 m.au::m.cells.flatMap bV
def ay:List ax:=(List.range 32).map fun(i:Nat)=>(⟨(i:Int),0,fN⟩:ax)
theorem Pn {s:Nat}(h:s<32):ay[s]?=some ⟨s,0,fN⟩:=by simp[ay,h]
theorem uF:ay.length=32:=by simp[ay]
def rk (c:ax):Bool:=decide (c.slot<0)||decide (c.slot≥32)
def jR (l:List ax)(c:ax):List ax:=match l[c.slot.toNat]? with
 | some d=>if c.dF>d.dF then l.set c.slot.toNat c else l
 | none=>l
def aC.tell (m:aC)(au:Int)(xs:List ax):Nat × aC :=
 if au<1∨xs.length>8∨xs.any rk=true then (2,m) else if au<m.au then (10,m) else
 (0,⟨if au>m.au then au else m.au,xs.foldl jR (if au>m.au then ay else m.cells)⟩)
def lO (l:List ax):List cI:=(l.filter fun c=>decide (c.f.proto≠0)).map (·.f)
theorem zrq (l:List ax)(c:ax):(jR l c).length=l.length:=by
 unfold jR;split
 ·split
  ·exact List.length_set
  ·rfl
 ·rfl
theorem EK (xs:List ax):∀l:List ax,(xs.foldl jR l).length=l.length:=by
 induction xs with
 | nil=>intro l;rfl
 | cons x xs ih=>intro l;rw[List.foldl_cons,ih,zrq]
theorem aC.tW {m:aC}(h:m.cells.length=32)(au:Int)(xs:List ax):(m.tell au xs).2.cells.length=32:=by
 unfold aC.tell;repeat' split
 all_goals first|exact h|skip
 all_goals
  simp only[EK]
  first|exact h|exact uF
theorem o7 {m:aC}(h:m.cells.length=32):(cP m).length=321:=by
 unfold cP;rw[List.length_cons,gU gF,h]
theorem He (xs:List ax):(xs.flatMap bV).take (xs.length*10)=xs.flatMap bV:=List.take_of_length_le (by rw[gU gF];exact Nat.le_refl _)
section
variable {m:aC}
theorem AK {v:Value}{o:Nat}{c:ax}(hc:m.cells[k]?=some c)(hv:(bV c)[j]?=some v)(ho:o=1+(k*10+j)):(cP m)[o]?=some v:=by
 subst ho;rw[Nat.add_comm 1];exact AG gF hc hv
theorem tY {vs:List Value}{o:Nat}{c c':ax}(hc:m.cells[k]?=some c)(hn:j+vs.length≤10)(hy:over (bV c) j vs=bV c')(ho:o=1+(k*10+j)):over (cP m) o vs=cP ⟨m.au,m.cells.set k c'⟩:=by
 subst ho;rw[Nat.add_comm 1];unfold cP;rw[Lo,Eu gF hc hn hy]
theorem Zw (au:Int)(w:World):(Instr.build 262 #[(0,.int .i64 au)]).run prog w=.ok (.agg (cP ⟨au,List.replicate 32 ⟨0,0,fN⟩⟩).toArray) w:=zk
theorem zqV (w:World):(Instr.build 262 #[]).run prog w=.ok (.agg (cP ⟨0,List.replicate 32 ⟨0,0,fN⟩⟩).toArray) w:=zk
def kr (k:Nat):List ax:=(List.range k).map (fun(i:Nat)=>(⟨(i:Int),0,fN⟩:ax))++List.replicate (32-k) ⟨0,0,fN⟩
theorem KJ (h:k≤32):(kr k).length=32:=by simp[kr];omega
theorem Pz (h:k<32):(kr k)[k]?=some ⟨0,0,fN⟩:=by
 unfold kr;rw[List.getElem?_append_right zi,List.getElem?_replicate];simp;omega
theorem Pc (h:k<32):(kr k).set k ⟨(k:Int),0,fN⟩=kr (k+1):=by
 unfold kr;rw[List.set_append_right _ _ zi,List.range_succ,List.map_append,List.append_assoc];congr 1;rw[show 32-k=(32-(k+1))+1 by omega,List.replicate_succ];simp
theorem O8:kr 32=ay:=by simp[kr,ay]
theorem SY (au:Int)(hb:bC w b 262 (cP m))(hm:m.cells.length=32) :
  aa prog 130 #[.pointer (some ⟨b,0,none⟩),.int .i64 au] w fun v w'=>Ext (· = b) w w'∧bC w' b 262 (cP ⟨au,ay⟩):=by
 obtain⟨V,hV,hl,h1,sV⟩:∃V:List Value,V=cP ⟨au,kr 0⟩∧V.length=321∧V.all kG=true∧∀w,(Instr.build 262 #[(0,.int .i64 au)]).run prog w=.ok (.agg V.toArray) w:=⟨_,rfl,o7 (by simp[kr]),by unfold cP;rw[List.all_cons,AH gF];rfl,Zw au⟩;refine zN func130 ntmps130 ?_;have hS:=St.sb hb;refine Nx ?_;refine Nw ?_;refine U4 (d:=5) rfl rfl ?_;refine U4 (d:=6) rfl rfl ?_;refine Uo (d:=7) rfl (fun k h=>h) sV rfl ?_;refine Yd (d:=8) rfl rfl ?_;refine XS (v:=.agg V.toArray) rfl rfl rfl (by simp[cM,hl]) ?_;refine hS.st 0 rfl (by rw[o7 hm];simp[cM,hl]) (by simpa[cM]using h1) (fun w' hS=>?_)
 have ho:over (cP m) 0 (cM (.agg V.toArray))=cP ⟨au,kr 0⟩:=by
  rw[K8 (by rw[o7 hm];simp[cM,hl])];simp[cM,hV]
 replace hS:St w (· = b) w' [blk b 262 (cP ⟨au,kr 0⟩)]:=by rw[←ho];exact hS
 refine Nv ?_
 refine d5 aj (fun σ w' q=>∃k:Nat,σ=[(9,.int .i64 k),(0,.pointer (some ⟨b,0,none⟩))]∧q=32-k∧k≤32∧St w (· = b) w' [blk b 262 (cP ⟨au,kr k⟩)])
  (σ':=[(9,.int .i64 ((0:Nat):Int)),(0,.pointer (some ⟨b,0,none⟩))]) (n:=32) zs ⟨0,rfl,rfl,Nat.zero_le _,hS⟩ ?_
 rintro _ w1 q ⟨k,rfl,rfl,hk,hS⟩;apply aR<;>intro h3
 ·have hk:k<32:=by omega
  have hc:=Pz hk;refine ao.mk zo zo ?_;refine hS.st 0 rfl (by rw[o7 (KJ zo)];simp[cM];omega) rfl (fun w' hS=>?_)
  have ho:over (cP ⟨au,kr k⟩) (0+1+Int.toNat (k:Int)*10+0) [.int .i64 (k:Int)]=cP ⟨au,kr (k+1)⟩:=by
   rw[tY (k:=k) (j:=0) (c':=⟨(k:Int),0,fN⟩) hc zi rfl (by simp<;>omega)];simp only[Pc hk]
  replace hS:St w (· = b) w' [blk b 262 (cP ⟨au,kr (k+1)⟩)]:=by rw[←ho];exact hS
  refine ag.mk zo zo ?_;refine aD.mk ⟨_,[(9,.int .i64 ((k+1:Nat):Int)),(0,_)],?_,zs,⟨k+1,rfl,rfl,by omega,hS⟩⟩;omega
 ·obtain rfl:k=32:=by omega
  rw[O8]at hS;refine zE ?_;exact⟨hS.ext,hS.blk 0 rfl⟩
theorem zyy (w:World):aa prog 75 #[] w fun v w'=>∃b,v=.pointer (some ⟨b,0,none⟩)∧w.heap.size≤b∧Ext No w w'∧bC w' b 262 (cP ⟨0,ay⟩):=by
 obtain⟨V,hV,hl,h1,sV⟩:∃V:List Value,V=cP ⟨0,kr 0⟩∧V.length=321∧V.all kG=true∧∀w,(Instr.build 262 #[]).run prog w=.ok (.agg V.toArray) w:=⟨_,rfl,o7 (by simp[kr]),by unfold cP;rw[List.all_cons,AH gF];rfl,zqV⟩;refine zN func75 ntmps75 ?_;have hS:=St.start w No;refine Nx ?_;refine Nw ?_;refine U3 (d:=0) rfl rfl ?_;refine Nv ?_;refine zzn ?_;refine Nx ?_;refine Nw ?_;refine Uo (d:=2) rfl (fun k h=>h) sV rfl ?_;refine Yc (d:=3) rfl rfl ?_;refine hS.new (fun b w' hb hS=>?_);have ho:cM (.agg V.toArray)=cP ⟨0,kr 0⟩:=by simp[cM,hV]
 rw[ho]at hS;refine U3 (d:=1) rfl rfl ?_;refine Nv ?_;refine(SY 0 (hS.blk 0 rfl) (KJ zo)).mono ?_;rintro v w' ⟨hx,hB⟩;replace hS:=hS.uB 0 hx hB;refine zE ?_;exact⟨b,rfl,hb,hS.ext,hS.blk 0 rfl⟩
theorem zsJ {G:ax→Prop}   {xs:List ax}(hx:bQ w 10 bV G a n xs)(hn:n≤1000)(ha:a.isSome=true) :
  aa prog 197 #[.slice a n c] w fun v w'=>∃a' c',v=.slice a' n c'∧Ext No w w'∧(az 218 10 bV v xs).holds w'∧∀g,v.ownBlock=some g→w.heap.size≤g∧g<w'.heap.size:=by
 refine zN func197 ntmps197 ?_;have hS:=St.start w No;refine Vm (by cases a<;>simp_all) ?_;refine hS.vE underlying138 (sz:=10) zk (fun b0 w1 hS=>?_);refine hS.d8 gF 0 (xs:=[]) underlying138 (bytes:=80) zk (z:=.agg (bV ⟨0,0,fN⟩).toArray) zk rfl rfl (hx.no hS.ext) (by unfold maxLen;simp;omega) (by simp;omega) (fun a' c' w' hS=>?_);refine zE ?_;have jq:([]:List ax).length+n=n:=by simp
 rw[jq]at hS ⊢
 exact⟨a',c',rfl,hS.ext,hS.get 0 rfl,fun g hg=>by
  rcases hS.may _ (List.mem_of_getElem? (i:=0) rfl) g (by simpa[az,own]using hg) with⟨h1|h1,h2⟩
  ·exact h1.elim
  ·exact⟨h1,h2⟩⟩
theorem zu7 (c:ax)(w:World):aa prog 224 ([Value.agg (bV c).toArray]++[]).toArray w fun v w'=>v=.bool (rk c)∧Ext No w w':=by
 refine zN func224 ntmps224 ?_;have hS:=St.start w No;refine hS.new (fun b w' hb hS=>?_);repeat' first|refine zP ?_|refine hS.lD 0 ?_|apply aR<;>intro
 all_goals refine⟨?_,hS.ext⟩
 all_goals simp_all[rk]
 all_goals omega
theorem Hn {l:List ax}{c d:ax}(h:l[c.slot.toNat]?=some d):jR l c=if c.dF>d.dF then l.set c.slot.toNat c else l:=by
 unfold jR;rw[h]
theorem Hf {xs l:List ax}  {x:ax}(hx:xs[k]?=some x):(xs.take (k+1)).foldl jR l=jR ((xs.take k).foldl jR l) x:=by
 rw[List.take_add_one,hx,List.foldl_append];rfl
theorem zxD {q:Nat}{G:ax→Prop}   {xs:List ax}(au:Int)(hb:bC w b 262 (cP m))(hm:m.cells.length=32)(hE:bF w E q [2,10])(hq:q≤b)(hx:bQ w 10 bV G a n xs)(eF:0<n→∀b0 o0,a=some ⟨b0,o0,none⟩→b0≠b) :
  aa prog 193 #[.pointer (some ⟨b,0,none⟩),.int .i64 au,.slice a n c] w fun v w'=>v=gC E (m.tell au xs).1∧Ext (· = b) w w'∧bC w' b 262 (cP (m.tell au xs).2):=by
 have nT:=hx.max;have hlen:=hx.len;have CH:=hb.lt;refine r5 aj func193 zk rfl ntmps193 zl ?_;have hS:=(St.start w (· = b)).add (eh b _ _) hb (by simp[blk];exact hb.lt) zi;(conv=>whnf);refine(Yr rk _ [] hx (fun x _ _ w' _=>zu7 x w')).mono ?_;rintro v w' ⟨rfl,aU⟩;replace hS:=hS.no aU;clear aU;cases l5:xs.any rk;all_goals repeat' ((conv=>whnf);first|apply aI.mk|refine bO.mk zd ?_|refine ag.mk zo zo ?_|refine ao.mk zo zo ?_|refine hS.cK (hE.at_ 2 rfl) (hE.ne 2 rfl hq) ?_|refine hS.cK (hE.at_ 10 rfl) (hE.ne 10 rfl hq) ?_|refine hS.ld 0 rfl rfl ?_|(refine(SY au (hS.blk 0 rfl) hm).mono ?_;rintro v w' ⟨aU,hB⟩;replace hS:=hS.upd 0 rfl aU (fun c hc=>by subst hc;exact List.mem_singleton.2 rfl) (eh _ _ _) hB (fun c hc=>.inl hc))|(first|apply aM|apply ca|apply cE|apply cD)<;>(intro))
 all_goals first|(rw[show m.tell au xs=(2,m) from if_pos (by first|(left;assumption)|(right;left;omega)|(right;right;assumption))];exact⟨rfl,hS.ext,hS.blk 0 rfl⟩)|skip
 ·rename_i h1 h2 h3
  rw[show m.tell au xs=(10,m) by
   unfold aC.tell;rw[if_neg (by rintro(h|h|h);omega;omega;simp[l5]at h),if_pos h3]]
  exact⟨rfl,hS.ext,hS.blk 0 rfl⟩
 ·have mC:∀x∈xs,0≤x.slot∧x.slot<32:=fun x hx=>by
   have:=List.any_eq_false.1 l5 x hx;simp[rk]at this;omega
  have lG:m.tell au xs=(0,⟨au,xs.foldl jR ay⟩):=by
   unfold aC.tell;rw[if_neg (by rintro(h|h|h);omega;omega;simp[l5]at h),if_neg (show ¬au<m.au by assumption),if_pos (show au>m.au by assumption),if_pos (show au>m.au by assumption)]
  have fy:((⟨au,ay⟩:aC)).cells.length=32:=by first|exact hm|exact uF
  refine d5 aj (fun σ w' q=>∃k:Nat,σ=[(44,.int .i64 k),(43,.int .i64 n),(42,.slice a n c),(0,.pointer (some ⟨b,0,none⟩))]∧q=n-k∧k≤n∧St w (· = b) w' [blk b 262 (cP ⟨((⟨au,ay⟩:aC)).au,(xs.take k).foldl jR ((⟨au,ay⟩:aC)).cells⟩)])
   (σ':=[(44,.int .i64 ((0:Nat):Int)),(43,.int .i64 n),(42,.slice a n c),(0,.pointer (some ⟨b,0,none⟩))]) (n:=n) zs ⟨0,rfl,rfl,Nat.zero_le _,hS⟩ ?_
  rintro _ w1 q ⟨k,rfl,rfl,hk,hS⟩;apply aR<;>intro h3
  ·obtain⟨b0,o0,x,dB,_,rfl,kM,hc⟩:=hx.at (k:=k) zo;have f7:¬b0=b:=eF zo b0 o0 rfl;have ez:=mC x (List.mem_of_getElem? dB);have mU:((xs.take k).foldl jR ((⟨au,ay⟩:aC)).cells).length=32:=by rw[EK,fy]
   have aw:=Hf (l:=((⟨au,ay⟩:aC)).cells) dB;generalize hL:(xs.take k).foldl jR ((⟨au,ay⟩:aC)).cells=L at hS mU aw;obtain⟨d,hd⟩:∃d,L[x.slot.toNat]?=some d:=⟨_,List.getElem?_eq_getElem zo⟩;rw[Hn hd]at aw;refine ao.mk zo zo ?_;refine hS.mV (l:=bV x) rfl hc f7 ?_;refine hS.new (fun bc w' wR hS=>?_);have sS:¬bc=b:=by omega
   refine hS.sT 1 fun w' hS=>?_
   conv=>whnf
   (refine ir aj mixed [] No [0,1,2,3,4,5,6,7,8,9,10] zk ?_;rintro w1 rfl;replace hS:=hS.drew)
   repeat' ((conv=>whnf);first|apply aI.mk|refine bO.mk zd ?_|refine ag.mk zo zo ?_|refine ao.mk zo zo ?_|refine hS.bU 1 rfl rfl id ?_|refine hS.bU 0 rfl (AK (k:=x.slot.toNat) (j:=1) hd rfl (by simp<;>omega)) id ?_|(refine ir aj mixed [] ((· = b)) [0,1,2,3,4,5,6,7] zk ?_;rintro w1 rfl;replace hS:=hS.drew)|(first|apply aM|apply ca|apply cE|apply cD)<;>(intro))
   ·rename_i hv;rw[if_pos hv]at aw;repeat' ((conv=>whnf);first|refine ao.mk zo zo ?_|refine hS.bU 1 rfl rfl sS ?_|refine hS.xy 1 rfl (l:=bV x) rfl rfl sS ?_)
    refine hS.oD 0 rfl (by rw[o7 mU];simp[cM,bV];omega) rfl (fun w' aU hS=>?_);refine ae.mk aU ?_;replace hS:=hS.keep 1
    have ho:over (cP ⟨((⟨au,ay⟩:aC)).au,L⟩) (0+1+x.slot.toNat*10) (cM (.agg (bV x).toArray))=cP ⟨((⟨au,ay⟩:aC)).au,(xs.take (k+1)).foldl jR ((⟨au,ay⟩:aC)).cells⟩:=by
     rw[tY (k:=x.slot.toNat) (j:=0) (c':=x) hd (by simp[cM,bV]) rfl (by simp<;>omega),aw]
    replace hS:St w (· = b) w' [blk b 262 (cP ⟨((⟨au,ay⟩:aC)).au,(xs.take (k+1)).foldl jR ((⟨au,ay⟩:aC)).cells⟩)]:=by rw[←ho];exact hS
    refine ag.mk zo zo ?_;(conv=>whnf);refine aD.mk ⟨_,[(44,.int .i64 ((k+1:Nat):Int)),(43,_),(42,_),(0,_)],?_,zs,⟨k+1,rfl,rfl,by omega,hS⟩⟩;omega
   ·rename_i hv;rw[if_neg hv]at aw;replace hS:=hS.keep 1;refine aD.mk ⟨_,[(44,.int .i64 ((k+1:Nat):Int)),(43,_),(42,_),(0,_)],?_,zs,⟨k+1,rfl,rfl,by omega,by rw[aw];exact hS⟩⟩;omega
  ·obtain rfl:k=n:=by omega
   rw[List.take_of_length_le zo]at hS;repeat' first|refine zP ?_|apply aR<;>intro
   rw[lG];exact⟨rfl,hS.ext,hS.blk 0 rfl⟩
 ·have mC:∀x∈xs,0≤x.slot∧x.slot<32:=fun x hx=>by
   have:=List.any_eq_false.1 l5 x hx;simp[rk]at this;omega
  have lG:m.tell au xs=(0,⟨m.au,xs.foldl jR m.cells⟩):=by
   unfold aC.tell;rw[if_neg (by rintro(h|h|h);omega;omega;simp[l5]at h),if_neg (show ¬au<m.au by assumption),if_neg (show ¬au>m.au by assumption),if_neg (show ¬au>m.au by assumption)]
  have fy:(m).cells.length=32:=by first|exact hm|exact uF
  refine d5 aj (fun σ w' q=>∃k:Nat,σ=[(44,.int .i64 k),(43,.int .i64 n),(42,.slice a n c),(0,.pointer (some ⟨b,0,none⟩))]∧q=n-k∧k≤n∧St w (· = b) w' [blk b 262 (cP ⟨(m).au,(xs.take k).foldl jR (m).cells⟩)])
   (σ':=[(44,.int .i64 ((0:Nat):Int)),(43,.int .i64 n),(42,.slice a n c),(0,.pointer (some ⟨b,0,none⟩))]) (n:=n) zs ⟨0,rfl,rfl,Nat.zero_le _,hS⟩ ?_
  rintro _ w1 q ⟨k,rfl,rfl,hk,hS⟩;apply aR<;>intro h3
  ·obtain⟨b0,o0,x,dB,_,rfl,kM,hc⟩:=hx.at (k:=k) zo;have f7:¬b0=b:=eF zo b0 o0 rfl;have ez:=mC x (List.mem_of_getElem? dB);have mU:((xs.take k).foldl jR (m).cells).length=32:=by rw[EK,fy]
   have aw:=Hf (l:=(m).cells) dB;generalize hL:(xs.take k).foldl jR (m).cells=L at hS mU aw;obtain⟨d,hd⟩:∃d,L[x.slot.toNat]?=some d:=⟨_,List.getElem?_eq_getElem zo⟩;rw[Hn hd]at aw;refine ao.mk zo zo ?_;refine hS.mV (l:=bV x) rfl hc f7 ?_;refine hS.new (fun bc w' wR hS=>?_);have sS:¬bc=b:=by omega
   refine hS.sT 1 fun w' hS=>?_
   conv=>whnf
   (refine ir aj mixed [] No [0,1,2,3,4,5,6,7,8,9,10] zk ?_;rintro w1 rfl;replace hS:=hS.drew)
   repeat' ((conv=>whnf);first|apply aI.mk|refine bO.mk zd ?_|refine ag.mk zo zo ?_|refine ao.mk zo zo ?_|refine hS.bU 1 rfl rfl id ?_|refine hS.bU 0 rfl (AK (k:=x.slot.toNat) (j:=1) hd rfl (by simp<;>omega)) id ?_|(refine ir aj mixed [] ((· = b)) [0,1,2,3,4,5,6,7] zk ?_;rintro w1 rfl;replace hS:=hS.drew)|(first|apply aM|apply ca|apply cE|apply cD)<;>(intro))
   ·rename_i hv;rw[if_pos hv]at aw;repeat' ((conv=>whnf);first|refine ao.mk zo zo ?_|refine hS.bU 1 rfl rfl sS ?_|refine hS.xy 1 rfl (l:=bV x) rfl rfl sS ?_)
    refine hS.oD 0 rfl (by rw[o7 mU];simp[cM,bV];omega) rfl (fun w' aU hS=>?_);refine ae.mk aU ?_;replace hS:=hS.keep 1
    have ho:over (cP ⟨(m).au,L⟩) (0+1+x.slot.toNat*10) (cM (.agg (bV x).toArray))=cP ⟨(m).au,(xs.take (k+1)).foldl jR (m).cells⟩:=by
     rw[tY (k:=x.slot.toNat) (j:=0) (c':=x) hd (by simp[cM,bV]) rfl (by simp<;>omega),aw]
    replace hS:St w (· = b) w' [blk b 262 (cP ⟨(m).au,(xs.take (k+1)).foldl jR (m).cells⟩)]:=by rw[←ho];exact hS
    refine ag.mk zo zo ?_;(conv=>whnf);refine aD.mk ⟨_,[(44,.int .i64 ((k+1:Nat):Int)),(43,_),(42,_),(0,_)],?_,zs,⟨k+1,rfl,rfl,by omega,hS⟩⟩;omega
   ·rename_i hv;rw[if_neg hv]at aw;replace hS:=hS.keep 1;refine aD.mk ⟨_,[(44,.int .i64 ((k+1:Nat):Int)),(43,_),(42,_),(0,_)],?_,zs,⟨k+1,rfl,rfl,by omega,by rw[aw];exact hS⟩⟩;omega
  ·obtain rfl:k=n:=by omega
   rw[List.take_of_length_le zo]at hS;refine zE ?_;rw[lG];exact⟨rfl,hS.ext,hS.blk 0 rfl⟩
theorem Pu {l:List ax}  {x:ax}(hx:l[k]?=some x):lO (l.take (k+1))=lO (l.take k)++(if x.f.proto≠0 then [x.f] else []):=by
 rw[List.take_add_one,hx];unfold lO;rw[List.filter_append,List.map_append];congr 1;by_cases h:x.f.proto=0<;>simp[h]
theorem Eg (l:List ax):(lO l).length≤l.length:=by
 unfold lO;rw[List.length_map];exact List.length_filter_le _ _
theorem zsZ (hb:bC w b 262 (cP m))(hm:m.cells.length=32) :
  aa prog 229 #[.pointer (some ⟨b,0,none⟩)] w fun v w'=>∃a' c',v=.slice a' (lO m.cells).length c'∧Ext No w w'∧(az 216 8 dW v (lO m.cells)).holds w'∧m7 w w' v:=by
 refine zN func229 ntmps229 ?_;have hS:=St.start w No;have xd:aH w b 1 (m.cells.flatMap bV):=hb.cells (by rw[gU gF];simp only[cP,List.drop_succ_cons,List.drop_zero];exact He _);refine hS.mV (l:=m.cells.flatMap bV) (by rw[gU gF,hm]) xd id ?_;have hS:=hS.add (fq (e:=216) (enc:=dW) (sz:=8) (v:=.slice none 0 0) (xs:=[])) (sf _ _ _) (by simp[az,own,Value.ownBlock]) (by simp[az,own,Value.ownBlock])
 refine d5 aj (fun σ w' q=>∃(k:Nat) (v:Value),σ=[(10,.int .i64 k),(9,.agg (m.cells.flatMap bV).toArray),(3,v)]∧q=32-k∧k≤32∧(∃a' c',v=.slice a' (lO (m.cells.take k)).length c')∧St w No w' [az 216 8 dW v (lO (m.cells.take k))])
  (σ':=[(10,.int .i64 ((0:Nat):Int)),(9,.agg (m.cells.flatMap bV).toArray),(3,.slice none 0 0)]) (n:=32) zs ⟨0,_,rfl,rfl,Nat.zero_le _,⟨none,0,rfl⟩,hS⟩ ?_
 rintro _ w1 q ⟨k,_,rfl,rfl,hk,⟨a',c',rfl⟩,hS⟩;apply aR<;>intro h3
 ·obtain⟨x,dB⟩:∃x,m.cells[k]?=some x:=⟨_,List.getElem?_eq_getElem zo⟩;have aw:=Pu dB;have hlen:=Eg (m.cells.take k);rw[List.length_take]at hlen;refine aB.of (RY gF (k:=k) (by rw[hm];exact underlying249) zk ⟨_,underlying218⟩ zk zk dB rfl) ?_;refine hS.new (fun bc w' wR hS=>?_);refine hS.sT 1 fun w' hS=>?_
  refine hS.lD 1 ?_;refine ca (fun h4=>?_) (fun h4=>?_)
  ·rw[if_pos h4]at aw;refine hS.la 1 rfl (l:=dW x.f) rfl rfl ?_;refine hS.lit (cs:=dW x.f) underlying293 (sz:=8) zk (z:=.agg (dW fN).toArray) zk rfl rfl (by rfl) (fun bl w' gY hS=>?_);refine hS.d8 BH 0 (ys:=[x.f]) (G:=fun _=>True) underlying293 (bytes:=64) zk (z:=.agg (dW fN).toArray) zk rfl rfl (bQ.bG BH (hS.blk 2 rfl) rfl zd (fun _ _=>trivial) rfl) (by unfold maxLen;omega) zo (fun a2 c2 w' hS=>?_);replace hS:=hS.keep 1;rw[←aw]at hS;have ft:(lO (m.cells.take k)).length+1=(lO (m.cells.take (k+1))).length:=by rw[aw];simp
   rw[ft]at hS ⊢;refine ag.mk zo zo ?_;(conv=>whnf);refine aD.mk ⟨_,[(10,.int .i64 ((k+1:Nat):Int)),(9,_),(3,_)],?_,zs,⟨k+1,_,rfl,rfl,by omega,⟨a2,c2,rfl⟩,hS⟩⟩;omega
  ·rw[if_neg (fun h=>h h4),List.append_nil]at aw;replace hS:=hS.keep 1;refine ag.mk zo zo ?_;refine aD.mk ⟨_,[(10,.int .i64 ((k+1:Nat):Int)),(9,_),(3,_)],?_,zs,⟨k+1,_,rfl,rfl,by omega,⟨a',c',by rw[aw]⟩,by rw[aw];exact hS⟩⟩;omega
 ·obtain rfl:k=32:=by omega
  rw[List.take_of_length_le zo]at hS ⊢;refine zE ?_;exact⟨a',c',rfl,hS.ext,hS.get 0 rfl,hS.du 0 rfl⟩
end
def ax.Ok (c:ax):Prop:=∀p∈c.pr,p.ok
def c5:ax:=⟨5,1,⟨1,0,0,0,0,0,0,0⟩⟩
theorem Ev.St.m0 {w0:World}{S:Nat→Prop}{H:List bZ}(h:St w0 S w H)(i:Nat){e:TypeId}{b n c o k:Nat}{xs:List ax}{d x:ax}{K:World→Prop}(hi:H[i]?=some (az e 10 bV (.slice (some ⟨b,0,none⟩) n c) xs))(hd:xs[k]?=some d)(ho:o=k*10)
  (hk:∀w',Ext (· = b) w w'→St w0 S w' (H.set i (az e 10 bV (.slice (some ⟨b,0,none⟩) n c) (xs.set k x)))→K w'):rL w b o (bV x) K:=by
 subst ho;have aQ:=(List.getElem?_eq_some_iff.1 hd).1;refine h.D5 i hi (by rw[gU gF];simp[bV];omega) rfl (fun w' hx hS=>hk w' hx ?_);have e:=Eu gF (k:=k) (j:=0) (y:=x) (vs:=bV x) hd (by simp[bV]) (K8 (by simp[bV]));rw[Nat.add_zero]at e;rw[e]at hS;unfold az;rw[List.length_set];exact hS
theorem LL (w:World):aa prog 45 #[] w fun v w'=>∃g c,v=.slice (some ⟨g,0,none⟩) 32 c∧Ext No w w'∧(az 218 10 bV v ay).holds w'∧m7 w w' v:=by
 refine zN func45 ntmps45 ?_;have hS:=St.start w No;have hS:=hS.add (fq (e:=218) (enc:=bV) (sz:=10) (v:=.slice none 0 0) (xs:=[])) (sf _ _ _) (by simp[az,own,Value.ownBlock]) (by simp[az,own,Value.ownBlock])
 refine d5 aj (fun σ w' q=>∃(k:Nat) (v:Value) (xs:List ax),σ=[(2,.int .i64 k),(1,v)]∧q=32-k∧k≤32∧(∃a' c',v=.slice a' k c')∧xs=ay.take k∧St w No w' [az 218 10 bV v xs])
  (σ':=[(2,.int .i64 ((0:Nat):Int)),(1,.slice none 0 0)]) (n:=32) zs ⟨0,_,[],rfl,rfl,Nat.zero_le _,⟨none,0,rfl⟩,rfl,hS⟩ ?_
 rintro _ w1 q ⟨k,_,xs,rfl,rfl,hk,⟨a',c',rfl⟩,oq,hS⟩;have hlen:xs.length=k:=by rw[oq,List.length_take,uF];omega
 apply aR<;>intro h3
 ·refine hS.lit (cs:=bV ⟨(k:Int),0,fN⟩) underlying138 (sz:=10) zk (z:=.agg (bV ⟨0,0,fN⟩).toArray) zk rfl rfl (by rfl) (fun bl w' gY hS=>?_);refine hS.d8 gF 0 (ys:=[⟨(k:Int),0,fN⟩]) (G:=fun _=>True) underlying138 (bytes:=80) zk (z:=.agg (bV ⟨0,0,fN⟩).toArray) zk rfl rfl (bQ.bG gF (hS.blk 1 rfl) rfl zi (fun _ _=>trivial) rfl) (by unfold maxLen;omega) zo (fun a2 c2 w' hS=>?_);replace hS:=hS.keep 1;rw[hlen]at hS ⊢;refine ag.mk zo zo ?_;refine aD.mk ⟨_,[(2,.int .i64 ((k+1:Nat):Int)),(1,_)],?_,zs,⟨k+1,_,xs++[(⟨(k:Int),0,fN⟩:ax)],rfl,rfl,by omega,⟨a2,c2,rfl⟩,?_,hS⟩⟩
  ·omega
  ·rw[List.take_add_one,Pn zo,oq];rfl
 ·obtain rfl:k=32:=by omega
  rw[List.take_of_length_le (by rw[uF];exact Nat.le_refl _)]at oq;subst oq;refine zE ?_;obtain⟨_,⟨_,h⟩|⟨g,cap,cur,h,_⟩⟩:=hS.get 0 rfl
  ·rw[uF]at h;omega
  ·simp only[Value.slice.injEq]at h;obtain⟨rfl,_,rfl⟩:=h;exact⟨g,_,rfl,hS.ext,hS.get 0 rfl,hS.du 0 rfl⟩
theorem zoP {G:ax→Prop}   {xs:List ax}(hx:bQ w 10 bV G a n xs)(hn:n≤1000) :
  aa prog 167 #[.slice a n c] w fun v w'=>∃a' c',v=.slice a' (lO xs).length c'∧Ext No w w'∧(az 216 8 dW v (lO xs)).holds w'∧m7 w w' v:=by
 have hl:=hx.len;refine zN func167 ntmps167 ?_;have hS:=St.start w No;have hS:=hS.add (fq (e:=216) (enc:=dW) (sz:=8) (v:=.slice none 0 0) (xs:=[])) (sf _ _ _) (by simp[az,own,Value.ownBlock]) (by simp[az,own,Value.ownBlock])
 refine d5 aj (fun σ w' q=>∃(k:Nat) (v:Value),σ=[(4,.int .i64 k),(3,v),(0,.slice a n c)]∧q=n-k∧k≤n∧(∃a' c',v=.slice a' (lO (xs.take k)).length c')∧St w No w' [az 216 8 dW v (lO (xs.take k))])
  (σ':=[(4,.int .i64 ((0:Nat):Int)),(3,.slice none 0 0),(0,.slice a n c)]) (n:=n) zs ⟨0,_,rfl,rfl,Nat.zero_le _,⟨none,0,rfl⟩,hS⟩ ?_
 rintro _ w1 q ⟨k,_,rfl,rfl,hk,⟨a',c',rfl⟩,hS⟩;apply aR<;>intro h3
 ·obtain⟨b0,o0,x,dB,_,rfl,_,hc⟩:=hx.at (k:=k) zo;have aw:=Pu dB;have hlen:=Eg (xs.take k);rw[List.length_take]at hlen;refine ao.mk zo zo ?_;refine hS.cK (hc.one 2 rfl) id ?_;refine ca (fun h4=>?_) (fun h4=>?_)
  ·rw[if_pos h4]at aw;refine ao.mk zo zo ?_;refine hS.mV (l:=dW x.f) rfl (hc.sub 2 (l':=dW x.f) rfl) id ?_;refine hS.lit (cs:=dW x.f) underlying293 (sz:=8) zk (z:=.agg (dW fN).toArray) zk rfl rfl (by rfl) (fun bl w' gY hS=>?_);refine hS.d8 BH 0 (ys:=[x.f]) (G:=fun _=>True) underlying293 (bytes:=64) zk (z:=.agg (dW fN).toArray) zk rfl rfl (bQ.bG BH (hS.blk 1 rfl) rfl zi (fun _ _=>trivial) rfl) (by unfold maxLen;omega) zo (fun a2 c2 w' hS=>?_);replace hS:=hS.keep 1;rw[←aw]at hS;have ft:(lO (xs.take k)).length+1=(lO (xs.take (k+1))).length:=by rw[aw];simp
   rw[ft]at hS ⊢;refine ag.mk zo zo ?_;(conv=>whnf);refine aD.mk ⟨_,[(4,.int .i64 ((k+1:Nat):Int)),(3,_),(0,_)],?_,zs,⟨k+1,_,rfl,rfl,by omega,⟨a2,c2,rfl⟩,hS⟩⟩;omega
  ·rw[if_neg (fun h=>h h4),List.append_nil]at aw;refine ag.mk zo zo ?_;refine aD.mk ⟨_,[(4,.int .i64 ((k+1:Nat):Int)),(3,_),(0,_)],?_,zs,⟨k+1,_,rfl,rfl,by omega,⟨a',c',by rw[aw]⟩,by rw[aw];exact hS⟩⟩;omega
 ·obtain rfl:k=n:=by omega
  rw[List.take_of_length_le zo]at hS ⊢;refine zE ?_;exact⟨a',c',rfl,hS.ext,hS.get 0 rfl,hS.du 0 rfl⟩
def nJ (bm g c:Nat)(m:aC):bZ:=⟨[bm,g],fun w=>bm≠g∧bC w bm 141 [.int .i64 m.au,.slice (some ⟨g,0,none⟩) 32 c]∧(az 218 10 bV (.slice (some ⟨g,0,none⟩) 32 c) m.cells).holds w⟩
theorem Qy {bm:Nat}{m:aC}:(nJ bm g c m).Local:=fun w w' h ⟨h1,h2,h3⟩ =>
 ⟨h1,eh bm _ _ w w' (fun b hb=>h b (by simp[blk]at hb;simp[nJ,hb])) h2,fq w w' (fun b hb=>h b (by simp[az,own,Value.ownBlock]at hb;simp[nJ,hb])) h3⟩
theorem HM {e:TypeId}{xs:List ax}(h:(az e 10 bV (.slice (some ⟨g,0,none⟩) n c) xs).holds w):g<w.heap.size:=by
 obtain⟨_,⟨h1,_⟩|⟨g',cap,cur,h1,_,h2,_⟩⟩:=h
 ·cases h1
 ·cases h1;exact(Array.getElem?_eq_some_iff.1 h2).1
theorem zpe {bm cap:Nat}{m:aC}{G:ax→Prop}   {xs:List ax}(au:Int)(hM:(nJ bm g cap m).holds w)(hm:m.cells.length=32)(hx:bQ w 10 bV G a n xs)(eF:0<n→∀b0 o0,a=some ⟨b0,o0,none⟩→b0≠bm∧b0≠g) :
  aa prog 161 #[.pointer (some ⟨bm,0,none⟩),.int .i64 au,.slice a n c] w fun v w'=>∃g' c',v=.int .i64 (m.tell au xs).1∧Ext (fun b=>b=bm∨b=g) w w'∧(nJ bm g' c' (m.tell au xs).2).holds w'∧(g'=g∨(w.heap.size≤g'∧g'<w'.heap.size)):=by
 obtain⟨yH,NN,NR⟩:=hM;have nT:=hx.max;have hlen:=hx.len;have gY:=NN.lt;have Bh:=HM NR;refine zN func161 ntmps161 ?_;have hS:=(St.start w (fun b=>b=bm∨b=g)).add (eh bm _ _) NN (by simp[blk];exact gY) zi;replace hS:=hS.add fq NR (by simp[az,own,Value.ownBlock];exact Bh) (by simp[az,own,Value.ownBlock,blk];exact yH)
 have done:∀{k:Nat} {w':World} {H:List bZ},m.tell au xs=(k,m)→St w (fun b=>b=bm∨b=g) w' ([]++[blk bm 141 [.int .i64 m.au,.slice (some ⟨g,0,none⟩) 32 cap]]++[az 218 10 bV (.slice (some ⟨g,0,none⟩) 32 cap) m.cells]++H) →
   ∃g' c',Value.int .i64 k=.int .i64 (m.tell au xs).1∧Ext (fun b=>b=bm∨b=g) w w'∧(nJ bm g' c' (m.tell au xs).2).holds w'∧(g'=g∨(w.heap.size≤g'∧g'<w'.heap.size)):=by
  intro k w' H ht hS;rw[ht];exact⟨g,cap,rfl,hS.ext,⟨yH,hS.get 0 rfl,hS.get 1 rfl⟩,.inl rfl⟩
 apply aR<;>intro h1
 ·refine zE ?_;exact done (H:=[]) (if_pos (.inl h1)) (by simpa using hS)
 apply aR<;>intro h2
 ·refine zE ?_;exact done (H:=[]) (if_pos (.inr (.inl zo))) (by simpa using hS)
 refine d5 aj (fun σ w' q=>∃k:Nat,σ=[(7,.int .i64 k),(2,.slice a n c),(1,.int .i64 au),(0,.pointer (some ⟨bm,0,none⟩))]∧q=n-k∧k≤n∧St w (fun b=>b=bm∨b=g) w' [blk bm 141 [.int .i64 m.au,.slice (some ⟨g,0,none⟩) 32 cap],az 218 10 bV (.slice (some ⟨g,0,none⟩) 32 cap) m.cells]∧∀q d,q<k→xs[q]?=some d→rk d=false)
  (σ':=[(7,.int .i64 ((0:Nat):Int)),(2,.slice a n c),(1,.int .i64 au),(0,.pointer (some ⟨bm,0,none⟩))]) (n:=n) zs ⟨0,rfl,rfl,Nat.zero_le _,hS,fun q d h=>by omega⟩ ?_
 rintro _ w1 q ⟨k,rfl,rfl,hk,hS,hv⟩;refine aM (fun h3=>?_) (fun h3=>?_)
 ·obtain⟨b0,o0,x,dB,_,rfl,kM,hc⟩:=hx.at (k:=k) zo;obtain⟨f7,zp⟩:=eF zo b0 o0 rfl;have j4:=hc.one 0 rfl;have FO:¬(b0=bm∨b0=g):=by rintro(h|h);exact f7 h;exact zp h
  repeat' ((conv=>whnf);first|apply aI.mk|refine bO.mk zd ?_|refine ag.mk zo zo ?_|refine ao.mk zo zo ?_|refine hS.cK j4 FO ?_|(first|apply aM|apply ca|apply cE|apply cD)<;>(intro))
  ·exact done (H:=[]) (if_pos (.inr (.inr (List.any_eq_true.2 ⟨x,List.mem_of_getElem? dB,by simp[rk];omega⟩)))) (by simpa using hS)
  ·exact done (H:=[]) (if_pos (.inr (.inr (List.any_eq_true.2 ⟨x,List.mem_of_getElem? dB,by simp[rk];omega⟩)))) (by simpa using hS)
  ·refine aD.mk ⟨_,[(7,.int .i64 ((k+1:Nat):Int)),(2,_),(1,_),(0,_)],?_,zs,⟨k+1,rfl,rfl,by omega,hS,?_⟩⟩
   ·omega
   ·intro q d hq hd;rcases Nat.lt_or_eq_of_le (Nat.le_of_lt_succ hq) with hq|rfl
    ·exact hv q d hq hd
    ·rw[dB]at hd;cases hd;simp[rk];omega
 have l5:xs.any rk=false:=List.any_eq_false.2 fun x hx=>by
  obtain⟨q,hq⟩:=List.mem_iff_getElem?.1 hx;have:=(List.getElem?_eq_some_iff.1 hq).1;rw[hv q x zo hq];simp
 have mC:∀x∈xs,0≤x.slot∧x.slot<32:=fun x hx=>by
  have:=List.any_eq_false.1 l5 x hx;simp[rk]at this;omega
 refine hS.lD 0 ?_;apply aR<;>intro h4
 ·refine zE ?_
  exact done (H:=[]) (k:=10) (by
   unfold aC.tell;rw[if_neg (by rintro(h|h|h);omega;omega;simp[l5]at h),if_pos h4]) (by simpa using hS)
 refine hS.lD 0 ?_;apply aR<;>intro h5
 ·have lG:m.tell au xs=(0,⟨au,xs.foldl jR ay⟩):=by
   unfold aC.tell;rw[if_neg (by rintro(h|h|h);omega;omega;simp[l5]at h),if_neg h4,if_pos h5,if_pos h5]
  have fy:=uF;refine hS.sT 0 fun w' hS=>?_
  (conv=>whnf);have hsz:=hS.ext.size;refine(LL _).mono ?_;rintro v w' ⟨g1,c1,rfl,aU,hO,hF⟩;replace hS:=hS.qp aU hO hF;obtain⟨f1,f2⟩:=hF g1 rfl;refine hS.sT 0 fun w' hS=>?_
  replace hS:=hS.weaken (H':=[blk bm 141 [.int .i64 au,.slice (some ⟨g1,0,none⟩) 32 c1],az 218 10 bV (.slice (some ⟨g1,0,none⟩) 32 c1) ay]) (.cons_cons _ (.cons _ (List.Sublist.refl _)));have y2:w.heap.size≤g1:=by omega
  have CC:bm≠g1:=by omega
  refine d5 aj (fun σ w' q=>∃k:Nat,σ=[(8,.int .i64 k),(2,.slice a n c),(0,.pointer (some ⟨bm,0,none⟩))]∧q=n-k∧k≤n∧St w (fun b=>b=bm∨b=g) w' [blk bm 141 [.int .i64 au,.slice (some ⟨g1,0,none⟩) 32 c1],az 218 10 bV (.slice (some ⟨g1,0,none⟩) 32 c1) ((xs.take k).foldl jR ay)])
   (σ':=[(8,.int .i64 ((0:Nat):Int)),(2,.slice a n c),(0,.pointer (some ⟨bm,0,none⟩))]) (n:=n) zs ⟨0,rfl,rfl,Nat.zero_le _,hS⟩ ?_
  rintro _ w1 q ⟨k,rfl,rfl,hk,hS⟩;apply aR<;>intro h3
  ·obtain⟨b0,o0,x,dB,_,rfl,kM,hc⟩:=hx.at (k:=k) zo;obtain⟨f7,zp⟩:=eF zo b0 o0 rfl;have tE:b0≠g1:=by first|exact zp|omega
   have ez:=mC x (List.mem_of_getElem? dB);have mU:((xs.take k).foldl jR ay).length=32:=by rw[EK,fy]
   have aw:=Hf (l:=ay) dB;generalize hL:(xs.take k).foldl jR ay=L at hS mU aw;obtain⟨d,hd⟩:∃d,L[x.slot.toNat]?=some d:=⟨_,List.getElem?_eq_getElem zo⟩;rw[Hn hd]at aw;have lF:=fE (G:=fun _=>True) gF (hS.get 1 rfl) fun _ _=>trivial
   obtain⟨_,_,d',jZ,_,ni,_,Be⟩:=lF.at (k:=x.slot.toNat) zo;cases ni;rw[hd]at jZ;cases jZ;have j5:=hc;have jI:∀{w2:World},Ext (fun b=>b=bm∨b=g) w w2→aH w2 b0 (o0+k*10) (bV x):=fun h=>h.cells hc (by rintro(h|h);exact f7 h;exact zp h)
   conv=>whnf
   (refine ir aj mixed [] No [0,1,2,3,4,5,6,7,8,9,10,11,12,13,14,15,16,17] zk ?_;rintro w1 rfl;replace hS:=hS.drew)
   repeat' ((conv=>whnf);first|apply aI.mk|refine bO.mk zd ?_|refine ag.mk zo zo ?_|refine ao.mk zo zo ?_|refine jr ((jI hS.ext).one 1 rfl) id ?_|refine jr ((jI hS.ext).one 0 rfl) id ?_|refine hS.bU 0 rfl rfl id ?_|refine jr (Be.one 1 rfl) id ?_|(refine ir aj mixed [] ((· = g1)) [0,1,2,3,4,5,6,7,8,9,10,11,12,13,14] zk ?_;rintro w1 rfl;replace hS:=hS.drew)|(first|apply aM|apply ca|apply cE|apply cD)<;>(intro))
   ·rename_i hv;rw[if_pos hv]at aw;repeat' ((conv=>whnf);first|refine ao.mk zo zo ?_|refine hS.bU 0 rfl rfl CC ?_|refine jr ((jI hS.ext).one 0 rfl) tE ?_|refine vD (l:=bV x) rfl (jI hS.ext) tE ?_)
    refine hS.m0 1 rfl hd zi (fun w' aU hS=>?_);refine ae.mk aU ?_;rw[←aw]at hS;refine ag.mk zo zo ?_;(conv=>whnf);refine aD.mk ⟨_,[(8,.int .i64 ((k+1:Nat):Int)),(2,_),(0,_)],?_,zs,⟨k+1,rfl,rfl,by omega,hS⟩⟩;omega
   ·rename_i hv;rw[if_neg hv]at aw;refine aD.mk ⟨_,[(8,.int .i64 ((k+1:Nat):Int)),(2,_),(0,_)],?_,zs,⟨k+1,rfl,rfl,by omega,by rw[aw];exact hS⟩⟩;omega
  ·obtain rfl:k=n:=by omega
   rw[List.take_of_length_le zo]at hS;refine zE ?_;rw[lG];exact⟨g1,c1,rfl,hS.ext,⟨CC,hS.get 0 rfl,hS.get 1 rfl⟩,.inr ⟨y2,HM (hS.get 1 rfl)⟩⟩
 ·have lG:m.tell au xs=(0,⟨m.au,xs.foldl jR m.cells⟩):=by
   unfold aC.tell;rw[if_neg (by rintro(h|h|h);omega;omega;simp[l5]at h),if_neg h4,if_neg h5,if_neg h5]
  have fy:=hm
  refine d5 aj (fun σ w' q=>∃k:Nat,σ=[(8,.int .i64 k),(2,.slice a n c),(0,.pointer (some ⟨bm,0,none⟩))]∧q=n-k∧k≤n∧St w (fun b=>b=bm∨b=g) w' [blk bm 141 [.int .i64 m.au,.slice (some ⟨g,0,none⟩) 32 cap],az 218 10 bV (.slice (some ⟨g,0,none⟩) 32 cap) ((xs.take k).foldl jR m.cells)])
   (σ':=[(8,.int .i64 ((0:Nat):Int)),(2,.slice a n c),(0,.pointer (some ⟨bm,0,none⟩))]) (n:=n) zs ⟨0,rfl,rfl,Nat.zero_le _,hS⟩ ?_
  rintro _ w1 q ⟨k,rfl,rfl,hk,hS⟩;apply aR<;>intro h3
  ·obtain⟨b0,o0,x,dB,_,rfl,kM,hc⟩:=hx.at (k:=k) zo;obtain⟨f7,zp⟩:=eF zo b0 o0 rfl;have tE:b0≠g:=by first|exact zp|omega
   have ez:=mC x (List.mem_of_getElem? dB);have mU:((xs.take k).foldl jR m.cells).length=32:=by rw[EK,fy]
   have aw:=Hf (l:=m.cells) dB;generalize hL:(xs.take k).foldl jR m.cells=L at hS mU aw;obtain⟨d,hd⟩:∃d,L[x.slot.toNat]?=some d:=⟨_,List.getElem?_eq_getElem zo⟩;rw[Hn hd]at aw;have lF:=fE (G:=fun _=>True) gF (hS.get 1 rfl) fun _ _=>trivial
   obtain⟨_,_,d',jZ,_,ni,_,Be⟩:=lF.at (k:=x.slot.toNat) zo;cases ni;rw[hd]at jZ;cases jZ;have j5:=hc;have jI:∀{w2:World},Ext (fun b=>b=bm∨b=g) w w2→aH w2 b0 (o0+k*10) (bV x):=fun h=>h.cells hc (by rintro(h|h);exact f7 h;exact zp h)
   conv=>whnf
   (refine ir aj mixed [] No [0,1,2,3,4,5,6,7,8,9,10,11,12,13,14,15,16,17] zk ?_;rintro w1 rfl;replace hS:=hS.drew)
   repeat' ((conv=>whnf);first|apply aI.mk|refine bO.mk zd ?_|refine ag.mk zo zo ?_|refine ao.mk zo zo ?_|refine jr ((jI hS.ext).one 1 rfl) id ?_|refine jr ((jI hS.ext).one 0 rfl) id ?_|refine hS.bU 0 rfl rfl id ?_|refine jr (Be.one 1 rfl) id ?_|(refine ir aj mixed [] ((· = g)) [0,1,2,3,4,5,6,7,8,9,10,11,12,13,14] zk ?_;rintro w1 rfl;replace hS:=hS.drew)|(first|apply aM|apply ca|apply cE|apply cD)<;>(intro))
   ·rename_i hv;rw[if_pos hv]at aw;repeat' ((conv=>whnf);first|refine ao.mk zo zo ?_|refine hS.bU 0 rfl rfl yH ?_|refine jr ((jI hS.ext).one 0 rfl) tE ?_|refine vD (l:=bV x) rfl (jI hS.ext) tE ?_)
    refine hS.m0 1 rfl hd zi (fun w' aU hS=>?_);refine ae.mk aU ?_;rw[←aw]at hS;refine ag.mk zo zo ?_;(conv=>whnf);refine aD.mk ⟨_,[(8,.int .i64 ((k+1:Nat):Int)),(2,_),(0,_)],?_,zs,⟨k+1,rfl,rfl,by omega,hS⟩⟩;omega
   ·rename_i hv;rw[if_neg hv]at aw;refine aD.mk ⟨_,[(8,.int .i64 ((k+1:Nat):Int)),(2,_),(0,_)],?_,zs,⟨k+1,rfl,rfl,by omega,by rw[aw];exact hS⟩⟩;omega
  ·obtain rfl:k=n:=by omega
   rw[List.take_of_length_le zo]at hS;refine zE ?_;rw[lG];exact⟨g,cap,rfl,hS.ext,⟨yH,hS.get 0 rfl,hS.get 1 rfl⟩,.inl rfl⟩
def pY (pr ia ip fa fp:Int)(f:cI):Bool:=decide (f.proto=pr)&&(decide (f.ia=ia∧f.ip=ip)&&decide (f.fa=fa∧f.fp=fp))
def pX (pr po fa fp:Int)(f:cI):Bool:=decide (f.proto=pr)&&(decide (f.port=po)&&decide (f.fa=fa∧f.fp=fp))
def iq (p:cI→Bool)(c:ax):Bool:=decide (c.f.proto≠0)&&p c.f
def aC.find (T:aC)(pr ia ip fa fp:Int):Int:=fW (iq (pY pr ia ip fa fp)) T.cells 0
def aC.back (T:aC)(pr po fa fp:Int):Int:=fW (iq (pX pr po fa fp)) T.cells 0
def ug (k:Int):Int:=if k<0 then 0 else k
theorem zyF (a b c d:Int):(E5 a b=E5 c d)=(a=c∧b=d):=by simp[E5]
theorem HV {a b c d:Int}{k:Value→Prop}(hk:k (.bool (decide (a=c∧b=d)))) :
  aB prog (do eqGuard .eql 147 (.tmp 0) (.tmp 0) (.agg #[.int .i64 a,.int .i64 b]) (.agg #[.int .i64 c,.int .i64 d]);Go.binOp .eql 147 (.agg #[.int .i64 a,.int .i64 b]) (.agg #[.int .i64 c,.int .i64 d])) k :=
 Vv (a:=E5 a b) (b:=E5 c d) (ks:=[.int,.int]) zk zk zk rfl rfl (by simpa only[zyF]using hk)
section
variable {T:aC}
theorem zsV (f:cI)(pr ia ip fa fp:Int)(p q r:Nat)(hp:w.cell? ⟨p,0,none⟩=some (.int .i64 pr))(hq:aH w q 0 [.int .i64 ia,.int .i64 ip])(hr:aH w r 0 [.int .i64 fa,.int .i64 fp]) :
  aa prog 237 ([Value.agg (dW f).toArray]++[Value.pointer (some ⟨p,0,none⟩),.pointer (some ⟨q,0,none⟩),.pointer (some ⟨r,0,none⟩)]).toArray w fun v w'=>v=.bool (pY pr ia ip fa fp f)∧Ext No w w':=by
 refine zN func237 ntmps237 ?_;have hS:=St.start w No;refine hS.new (fun b w' hb hS=>?_);repeat' first|refine zP ?_|refine hS.lD 0 ?_|refine hS.cK hp id ?_|refine hS.la 0 rfl (l:=[.int .i64 f.ia,.int .i64 f.ip]) rfl rfl ?_|refine hS.la 0 rfl (l:=[.int .i64 f.fa,.int .i64 f.fp]) rfl rfl ?_|refine hS.mV (l:=[.int .i64 ia,.int .i64 ip]) rfl hq id ?_|refine hS.mV (l:=[.int .i64 fa,.int .i64 fp]) rfl hr id ?_|refine HV ?_|apply aR<;>intro
 all_goals refine⟨?_,hS.ext⟩
 all_goals simp_all[pY]
theorem zsB (f:cI)(pr po fa fp:Int)(p q r:Nat)(hp:w.cell? ⟨p,0,none⟩=some (.int .i64 pr))(hq:w.cell? ⟨q,0,none⟩=some (.int .i64 po))(hr:aH w r 0 [.int .i64 fa,.int .i64 fp]) :
  aa prog 244 ([Value.agg (dW f).toArray]++[Value.pointer (some ⟨p,0,none⟩),.pointer (some ⟨q,0,none⟩),.pointer (some ⟨r,0,none⟩)]).toArray w fun v w'=>v=.bool (pX pr po fa fp f)∧Ext No w w':=by
 refine zN func244 ntmps244 ?_;have hS:=St.start w No;refine hS.new (fun b w' hb hS=>?_);repeat' first|refine zP ?_|refine hS.lD 0 ?_|refine hS.cK hp id ?_|refine hS.cK hq id ?_|refine hS.la 0 rfl (l:=[.int .i64 f.fa,.int .i64 f.fp]) rfl rfl ?_|refine hS.mV (l:=[.int .i64 fa,.int .i64 fp]) rfl hr id ?_|refine HV ?_|apply aR<;>intro
 all_goals refine⟨?_,hS.ext⟩
 all_goals simp_all[pX]
theorem zsd (p:cI→Bool)(g bf:Nat)(cW:List Value)(c:ax)(hf:w.cell? ⟨bf,0,none⟩=some (.func (.func g) #[] cW.toArray))
  (hg:∀f w',Ext No w w'→aa prog g ([Value.agg (dW f).toArray]++cW).toArray w' fun v kT=>v=.bool (p f)∧Ext No w' kT) :
  aa prog 266 ([Value.agg (bV c).toArray]++[Value.pointer (some ⟨bf,0,none⟩)]).toArray w fun v w'=>v=.bool (iq p c)∧Ext No w w':=by
 refine zN func266 ntmps266 ?_;have hS:=St.start w No;refine hS.new (fun b w' hb hS=>?_);refine hS.lD 0 ?_;refine ca (fun h1=>?_) (fun h1=>?_)
 ·(conv=>whnf)
  refine hS.cK hf id ?_;(conv=>whnf);refine hS.la 0 rfl (l:=dW c.f) rfl rfl ?_;have key:=hg c.f _ hS.ext
  have fin:∀(K:Value→World→Prop),(∀kT,Ext No w' kT→K (.bool (p c.f)) kT)→aa prog g ([Value.agg (dW c.f).toArray]++cW).toArray w' K:=by
   intro K hK;refine key.mono ?_;rintro v w' ⟨rfl,aU⟩;exact hK w' aU
  clear key;have e:iq p c=p c.f:=by simp[iq,h1]
  rw[e];cases cW
  all_goals
   refine fin _ ?_;intro kT aU;replace hS:=hS.no aU;repeat' ((conv=>whnf);first|apply aI.mk|refine bO.mk zd ?_|refine ag.mk zo zo ?_|refine ao.mk zo zo ?_|(first|apply aM|apply ca|apply cE|apply cD)<;>(intro))
   exact⟨rfl,hS.ext⟩
 ·repeat' ((conv=>whnf);first|apply aI.mk|refine bO.mk zd ?_|refine ag.mk zo zo ?_|refine ao.mk zo zo ?_|(first|apply aM|apply ca|apply cE|apply cD)<;>(intro))
  exact⟨by simp[iq,h1],hS.ext⟩
theorem MP (hb:bC w b 251 (cP T))(hm:T.cells.length=32):bQ w 10 bV (fun _=>True) (some ⟨b,1,none⟩) 32 T.cells :=
 bQ.bG gF hb hm zd (fun _ _=>trivial) (by simp only[cP,List.drop_succ_cons,List.drop_zero];exact He _)
theorem Te (p:cI→Bool)(g:Nat)(cW:List Value)(hb:bC w b 251 (cP T))(hm:T.cells.length=32)
  (hg:∀f w',Ext No w w'→aa prog g ([Value.agg (dW f).toArray]++cW).toArray w' fun v kT=>v=.bool (p f)∧Ext No w' kT) :
  aa prog 236 #[.pointer (some ⟨b,0,none⟩),.func (.func g) #[] cW.toArray] w fun v w'=>v=.int .i64 (fW (iq p) T.cells 0)∧Ext No w w':=by
 refine zN func236 ntmps236 ?_;have hS:=St.start w No;refine hS.new (fun bf w' rQ hS=>?_);refine hS.cn (KT (iq p) _ [Value.pointer (some ⟨bf,0,none⟩)] ((MP hb hm).no hS.ext) (fun x _ _ w2 fC=>zsd p g bf cW x (fC.cell ((hS.blk 0 rfl).cell 0) id) fun f w3 k3=>hg f w3 ((hS.ext.trans fC).trans k3))) fun w2 hS=>?_
 exact zF
theorem Sx (k:Int)(w:World):aa prog 235 #[.int .i64 k] w fun v w'=>v=.tuple #[.int .i64 (ug k),.bool (decide (0≤k))]∧w=w':=by
 refine zN func235 ntmps235 ?_;repeat' ((conv=>whnf);first|apply aI.mk|refine bO.mk zd ?_|refine ag.mk zo zo ?_|refine ao.mk zo zo ?_|(first|apply aM|apply ca|apply cE|apply cD)<;>(intro))
 all_goals refine⟨?_,rfl⟩
 all_goals unfold ug
 all_goals ((repeat' split)<;>first|rfl|(exfalso;omega)|(simp_all[over,cM];done)|(simp_all[over,cM];omega)|trace_state)
theorem Ml (pr ia ip fa fp:Int)(hb:bC w b 251 (cP T))(hm:T.cells.length=32) :
  aa prog 203 #[.pointer (some ⟨b,0,none⟩),.int .i64 pr,.agg #[.int .i64 ia,.int .i64 ip],.agg #[.int .i64 fa,.int .i64 fp]] w fun v w'=>v=.tuple #[.int .i64 (ug (T.find pr ia ip fa fp)),.bool (decide (0≤T.find pr ia ip fa fp))]∧Ext No w w':=by
 refine zN func203 ntmps203 ?_;have hS:=St.start w No;refine hS.new (fun p w' _ hS=>?_);refine hS.new (fun q w' _ hS=>?_);refine hS.new (fun r w' _ hS=>?_);refine hS.cn (Te (pY pr ia ip fa fp) _ [Value.pointer (some ⟨p,0,none⟩),.pointer (some ⟨q,0,none⟩),.pointer (some ⟨r,0,none⟩)] (hS.ext.blk hb id) hm (fun f w2 fC=>zsV f pr ia ip fa fp p q r (fC.cell ((hS.blk 0 rfl).cell 0) id) (fC.cells ((hS.blk 1 rfl).cells rfl) id) (fC.cells ((hS.blk 2 rfl).cells rfl) id))) fun w2 hS=>?_
 refine(Sx _ _).mono ?_;rintro v w3 ⟨rfl,rfl⟩;exact zF
theorem Mk (pr po fa fp:Int)(hb:bC w b 251 (cP T))(hm:T.cells.length=32) :
  aa prog 207 #[.pointer (some ⟨b,0,none⟩),.int .i64 pr,.int .i64 po,.agg #[.int .i64 fa,.int .i64 fp]] w fun v w'=>v=.tuple #[.int .i64 (ug (T.back pr po fa fp)),.bool (decide (0≤T.back pr po fa fp))]∧Ext No w w':=by
 refine zN func207 ntmps207 ?_;have hS:=St.start w No;refine hS.new (fun p w' _ hS=>?_);refine hS.new (fun q w' _ hS=>?_);refine hS.new (fun r w' _ hS=>?_);refine hS.cn (Te (pX pr po fa fp) _ [Value.pointer (some ⟨p,0,none⟩),.pointer (some ⟨q,0,none⟩),.pointer (some ⟨r,0,none⟩)] (hS.ext.blk hb id) hm (fun f w2 fC=>zsB f pr po fa fp p q r (fC.cell ((hS.blk 0 rfl).cell 0) id) (fC.cell ((hS.blk 1 rfl).cell 0) id) (fC.cells ((hS.blk 2 rfl).cells rfl) id))) fun w2 hS=>?_
 refine(Sx _ _).mono ?_;rintro v w3 ⟨rfl,rfl⟩;exact zF
end
def oI (c:ax):Bool:=decide (c.f.proto=0)
def qM (l:List ax)(k:Nat)(f:cI):List ax:=match l[k]? with
 | some c=>l.set k ⟨c.slot,c.dF+1,f⟩
 | none=>l
theorem BN {l:List ax}  {c:ax}(h:l[k]?=some c)(f:cI):qM l k f=l.set k ⟨c.slot,c.dF+1,f⟩:=by
 unfold qM;rw[h]
def aC.lay (T:aC)(f:cI):(Int × Nat) × aC :=
 if fW oI T.cells 0<0 then ((0,6),T) else ((fW oI T.cells 0,0),⟨T.au,qM T.cells (fW oI T.cells 0).toNat f⟩)
def wh (T:aC)(pr fa fp:Int):Nat→Nat→Option Nat
 | 0,_=>none
 | n+1,i=>if T.back pr (T.au+i) fa fp<0 then some i else wh T pr fa fp n (i+1)
def aC.add (T:aC)(pr ia ip fa fp st un:Int):(Int × Nat) × aC :=
 if 0≤T.find pr ia ip fa fp then ((0,5),T) else match wh T pr fa fp 24 0 with
  | some i=>T.lay ⟨pr,ia,ip,fa,fp,T.au+i,st,un⟩
  | none=>((0,6),T)
def aC.put (T:aC)(f:cI):(Int × Nat) × aC :=
 if 0≤T.find f.proto f.ia f.ip f.fa f.fp∨0≤T.back f.proto f.port f.fa f.fp then ((0,5),T) else T.lay f
def aC.aZ (T:aC)(k:Int):Nat:=if k<0∨32≤k then 2 else match T.cells[k.toNat]? with
 | some c=>if c.f.proto=0 then 4 else 0
 | none=>2
def ik (T:aC)(k:Int):cI:=match T.cells[k.toNat]? with
 | some c=>c.f
 | none=>fN
def aC.iJ (T:aC)(k st un:Int):Nat × aC :=
 if T.aZ k≠0 then (T.aZ k,T) else (0,⟨T.au,qM T.cells k.toNat { ik T k with state:=st,i5:=un }⟩)
def aC.drop (T:aC)(k:Int):Nat × aC :=
 if T.aZ k≠0 then (T.aZ k,T) else (0,⟨T.au,qM T.cells k.toNat fN⟩)
theorem K5 (p:α→Bool):∀(xs:List α) (k:Nat),fW p xs k = -1∨((k:Int)≤fW p xs k∧fW p xs k<k+xs.length)
 | [],k=>.inl rfl
 | x::xs,k=>by
  unfold fW;cases p x
  ·rcases K5 p xs (k+1) with h|h
   ·exact .inl h
   ·right
    simp only[List.length_cons];omega
  ·right
   simp only[List.length_cons];omega
def BX (T:aC):Prop:=∀c∈T.cells,0≤c.dF∧c.dF<9223372036854775807
section
variable {T:aC}
theorem ztO (k:Int)(hE:bF w E n [2])(hk:k<0∨32≤k) :
  aa prog 243 #[.pointer (some ⟨b,0,none⟩),.int .i64 k] w fun v w'=>v=.tuple #[.pointer none,gC E 2]∧Ext No w w':=by
 refine zN func243 ntmps243 ?_;have hS:=St.start w No;repeat' ((conv=>whnf);first|apply aI.mk|refine bO.mk zd ?_|refine ag.mk zo zo ?_|refine ao.mk zo zo ?_|refine hS.cK (hE.at_ 2 rfl) id ?_|refine hS.cV (hE.at_ 2 rfl) id id ?_|(refine UT aj mixed [] No [0,1,2] rfl zk ?_;rintro w1 rfl;replace hS:=hS.drew)|(first|apply aM|apply ca|apply cE|apply cD)<;>(intro))
 all_goals first|(exfalso;omega)|exact⟨rfl,hS.ext⟩
theorem TX (k:Int)(h0:0≤k)(h1:k<32) :
  aa prog 243 #[.pointer (some ⟨b,0,none⟩),.int .i64 k] w fun v w'=>v=.tuple #[.pointer (some ⟨b,0+1+k.toNat*10,none⟩),.nilIface]∧w=w':=by
 refine zN func243 ntmps243 ?_;repeat' ((conv=>whnf);first|apply aI.mk|refine ao.mk zo zo ?_|refine aM (fun h=>absurd h zo) (fun _=>?_))
 exact⟨rfl,rfl⟩
theorem zwm (c:ax)(w:World):aa prog 279 ([Value.agg (bV c).toArray]++[]).toArray w fun v w'=>v=.bool (oI c)∧Ext No w w':=by
 refine zN func279 ntmps279 ?_;have hS:=St.start w No;refine hS.new (fun b w' hb hS=>?_);repeat' first|refine zP ?_|refine hS.lD 0 ?_
 exact⟨rfl,hS.ext⟩
theorem UC (f:cI)(hb:bC w b 251 (cP T))(hm:T.cells.length=32)(hv:BX T)(hE:bF w E n [6])(hq:n≤b) :
  aa prog 265 #[.pointer (some ⟨b,0,none⟩),.agg (dW f).toArray] w fun v w'=>v=.tuple #[.int .i64 (T.lay f).1.1,gC E (T.lay f).1.2]∧Ext (· = b) w w'∧bC w' b 251 (cP (T.lay f).2):=by
 have CH:=hb.lt;refine zN func265 ntmps265 ?_;have hS:=St.sb hb;refine hS.new (fun bf w' rQ hS=>?_);refine hS.cn (KT oI _ [] (MP (hS.blk 0 rfl) hm) (fun x _ _ w2 _=>zwm x w2)) fun w2 hS=>?_
 have hI:=K5 oI T.cells 0;unfold aC.lay;generalize fW oI T.cells 0=k at hI;apply aR<;>intro h1
 ·rw[if_pos h1];repeat' first|refine zP ?_|refine hS.cK (hE.at_ 6 rfl) (hE.ne 6 rfl hq) ?_|refine hS.cV (hE.at_ 6 rfl) (hE.ne 6 rfl hq) id ?_|refine hS.dr [] No [0,1,2] fun w1 hS=>?_
  exact⟨rfl,hS.ext,hS.blk 0 rfl⟩
 ·rw[if_neg h1];have hk:0≤k∧k<32:=by omega
  obtain⟨c,hc⟩:∃c,T.cells[k.toNat]?=some c:=⟨_,List.getElem?_eq_getElem zo⟩;have lq:bf≠b:=by omega
  have s9:=hv c (List.mem_of_getElem? hc);(conv=>whnf);refine hS.dr [] ((· = b)) [0,1,2,3,4,5,6,7] fun w1 hS=>?_
  repeat' ((conv=>whnf);first|refine ao.mk zo zo ?_|refine hS.xy 1 rfl (l:=dW f) rfl rfl lq ?_)
  refine hS.oD 0 rfl (by rw[o7 hm];simp[cM,dW];omega) rfl (fun w' aU hS=>?_);refine ae.mk aU ?_
  have ho:over (cP T) (0+1+k.toNat*10+2) (cM (.agg (dW f).toArray))=cP ⟨T.au,T.cells.set k.toNat ⟨c.slot,c.dF,f⟩⟩:=by
   rw[tY (k:=k.toNat) (j:=2) (c':=⟨c.slot,c.dF,f⟩) hc (by simp[cM,dW]) rfl (by simp<;>omega)]
  replace hS:St w (· = b) w' [blk b 251 (cP ⟨T.au,T.cells.set k.toNat ⟨c.slot,c.dF,f⟩⟩),blk bf 216 (dW f)]:=by rw[←ho];exact hS
  have fT:(T.cells.set k.toNat ⟨c.slot,c.dF,f⟩)[k.toNat]?=some ⟨c.slot,c.dF,f⟩:=List.getElem?_set_self zo;(conv=>whnf);refine hS.dr [6] (· = b) [0,1,2,3,4,5,8,9,6,7,10,11,12] fun w1 hS=>?_
  repeat' ((conv=>whnf);first|refine ao.mk zo zo ?_|(refine hS.ld 0 rfl (AK (k:=k.toNat) (j:=1) fT rfl (by simp<;>omega)) ?_;refine ae.mk (Ext.refl _ _) ?_))
  refine ag.mk (by dsimp only;omega) (by dsimp only;omega) ?_;repeat' ((conv=>whnf);first|refine ao.mk zo zo ?_)
  refine hS.oD 0 rfl (by rw[o7 (by simpa using hm)];simp[cM];omega) rfl (fun w' aU hS=>?_);refine ae.mk aU ?_
  have ho:over (cP ⟨T.au,T.cells.set k.toNat ⟨c.slot,c.dF,f⟩⟩) (0+1+k.toNat*10+1) [.int .i64 (c.dF+1)]=cP ⟨T.au,qM T.cells k.toNat f⟩:=by
   rw[tY (k:=k.toNat) (j:=1) (c':=⟨c.slot,c.dF+1,f⟩) fT zi rfl (by simp<;>omega),BN hc,List.set_set]
  replace hS:St w (· = b) w' [blk b 251 (cP ⟨T.au,qM T.cells k.toNat f⟩),blk bf 216 (dW f)]:=by rw[←ho];exact hS
  exact zG
theorem zxB (pr ia ip fa fp st un:Int)(hb:bC w b 251 (cP T))(hm:T.cells.length=32)(hv:BX T)(hl:0≤T.au∧T.au≤100000)(hE:bF w E n [5,6])(hq:n≤b) :
  aa prog 242 #[.pointer (some ⟨b,0,none⟩),.int .i64 pr,.agg #[.int .i64 ia,.int .i64 ip],.agg #[.int .i64 fa,.int .i64 fp],.int .i64 st,.int .i64 un] w fun v w'=>v=.tuple #[.int .i64 (T.add pr ia ip fa fp st un).1.1,gC E (T.add pr ia ip fa fp st un).1.2]∧Ext (· = b) w w'∧bC w' b 251 (cP (T.add pr ia ip fa fp st un).2):=by
 have CH:=hb.lt;unfold aC.add;refine zN func242 ntmps242 ?_;have hS:=St.sb hb;refine hS.new (fun b8 w' N0 hS=>?_);refine hS.new (fun b9 w' jl hS=>?_);refine hS.la 1 rfl (l:=[.int .i64 ia,.int .i64 ip]) rfl rfl ?_;refine hS.la 2 rfl (l:=[.int .i64 fa,.int .i64 fp]) rfl rfl ?_;refine hS.cn (Ml pr ia ip fa fp (hS.blk 0 rfl) hm) fun w2 hS=>?_
 generalize T.find pr ia ip fa fp=k;apply aR<;>intro h1
 ·rw[if_pos h1];repeat' first|refine zP ?_|refine hS.cK (hE.at_ 5 rfl) (hE.ne 5 rfl hq) ?_|refine hS.cV (hE.at_ 5 rfl) (hE.ne 5 rfl hq) id ?_|refine hS.dr [] No [0,1,2] fun w1 hS=>?_
  exact⟨rfl,hS.ext,hS.blk 0 rfl⟩
 rw[if_neg h1];generalize IX:wh T pr fa fp 24 0=PP;refine hS.lD 0 ?_
 refine d5 aj (fun σ w' q=>∃i:Nat,σ=[(16,.int .i64 (T.au+i)),(9,.pointer (some ⟨b9,0,none⟩)),(8,.pointer (some ⟨b8,0,none⟩)),(5,.int .i64 un),(4,.int .i64 st),(1,.int .i64 pr),(0,.pointer (some ⟨b,0,none⟩))]∧q=24-i∧i≤24 ∧
   St w (· = b) w' [blk b 251 (cP T),blk b8 147 [.int .i64 ia,.int .i64 ip],blk b9 147 [.int .i64 fa,.int .i64 fp]]∧PP=wh T pr fa fp (24-i) i)
  (σ':=[(16,.int .i64 (T.au)),(9,.pointer (some ⟨b9,0,none⟩)),(8,.pointer (some ⟨b8,0,none⟩)),(5,.int .i64 un),(4,.int .i64 st),(1,.int .i64 pr),(0,.pointer (some ⟨b,0,none⟩))]) (n:=24) zs ⟨0,by rw[show T.au+((0:Nat):Int)=T.au by simp],rfl,Nat.zero_le _,hS,IX.symm⟩ ?_
 rintro _ w1 q ⟨i,rfl,rfl,hi,hS,hp⟩;refine hS.lD 0 ?_;refine ag.mk zo zo ?_;apply aR<;>intro h3
 ·have tv:24-i=(24-(i+1))+1:=by omega
  rw[tv]at hp;unfold wh at hp;refine hS.la 2 rfl (l:=[.int .i64 fa,.int .i64 fp]) rfl rfl ?_;refine hS.cn (Mk pr (T.au+i) fa fp (hS.blk 0 rfl) hm) fun w2 hS=>?_
  generalize T.back pr (T.au+i) fa fp=j at hp;apply aR<;>intro h4
  ·rw[if_pos zo]at hp;subst hp;refine hS.la 1 rfl (l:=[.int .i64 ia,.int .i64 ip]) rfl rfl ?_;refine hS.la 2 rfl (l:=[.int .i64 fa,.int .i64 fp]) rfl rfl ?_;refine(UC ⟨pr,ia,ip,fa,fp,T.au+i,st,un⟩ (hS.blk 0 rfl) hm hv ((hE.sub rfl).ext hS.ext fun c hc=>by subst hc;exact hq) hq).mono ?_;rintro v w' ⟨rfl,hx,hB⟩;replace hS:=hS.uB 0 hx hB;exact zG
  ·rw[if_neg zo]at hp;refine ag.mk zo zo ?_;refine aD.mk ⟨_,[(16,.int .i64 (T.au+((i+1:Nat):Int))),(9,_),(8,_),(5,_),(4,_),(1,_),(0,_)],?_,⟨by rw[show T.au+((i+1:Nat):Int)=T.au+i+1 by omega];rfl,rfl,rfl,rfl,rfl,rfl,rfl,trivial⟩,⟨i+1,rfl,rfl,by omega,hS,hp⟩⟩;omega
 ·obtain rfl:i=24:=by omega
  rw[show PP=none from hp];repeat' first|refine zP ?_|refine hS.cK (hE.at_ 6 rfl) (hE.ne 6 rfl hq) ?_|refine hS.cV (hE.at_ 6 rfl) (hE.ne 6 rfl hq) id ?_|refine hS.dr [] No [0,1,2] fun w1 hS=>?_
  exact⟨rfl,hS.ext,hS.blk 0 rfl⟩
theorem zxJ (f:cI)(hb:bC w b 251 (cP T))(hm:T.cells.length=32)(hv:BX T)(hE:bF w E n [5,6])(hq:n≤b) :
  aa prog 231 #[.pointer (some ⟨b,0,none⟩),.agg (dW f).toArray] w fun v w'=>v=.tuple #[.int .i64 (T.put f).1.1,gC E (T.put f).1.2]∧Ext (· = b) w w'∧bC w' b 251 (cP (T.put f).2):=by
 have CH:=hb.lt;unfold aC.put;refine zN func231 ntmps231 ?_;have hS:=(St.start w (· = b)).add (eh b _ _) hb (by simp[blk];exact hb.lt) zi;refine hS.new (fun bf w' rQ hS=>?_);repeat' first|refine zP ?_|refine hS.lD 1 ?_|refine hS.la 1 rfl (l:=[.int .i64 f.ia,.int .i64 f.ip]) rfl rfl ?_|refine hS.la 1 rfl (l:=[.int .i64 f.fa,.int .i64 f.fp]) rfl rfl ?_
 refine hS.cn (Ml f.proto f.ia f.ip f.fa f.fp (hS.blk 0 rfl) hm) fun w2 hS=>?_
 repeat' first|refine zP ?_|refine hS.lD 1 ?_|refine hS.la 1 rfl (l:=[.int .i64 f.fa,.int .i64 f.fp]) rfl rfl ?_
 refine(Mk f.proto f.port f.fa f.fp (hS.blk 0 rfl) hm).mono ?_;rintro v w2 ⟨rfl,hx⟩;replace hS:=hS.no hx;clear hx;generalize T.find f.proto f.ia f.ip f.fa f.fp=k;generalize T.back f.proto f.port f.fa f.fp=j;repeat' ((conv=>whnf);first|apply aI.mk|refine bO.mk zd ?_|refine ag.mk zo zo ?_|refine ao.mk zo zo ?_|refine hS.cK (hE.at_ 5 rfl) (hE.ne 5 rfl hq) ?_|refine hS.cV (hE.at_ 5 rfl) (hE.ne 5 rfl hq) id ?_|(refine ir aj mixed [] No [0,1,2] zk ?_;rintro w1 rfl;replace hS:=hS.drew)|refine hS.la 1 rfl (l:=dW f) rfl rfl ?_|(first|apply aM|apply ca|apply cE|apply cD)<;>(intro))
 ·rename_i h1;rw[if_pos (.inl h1)];exact⟨rfl,hS.ext,hS.blk 0 rfl⟩
 ·rename_i h1 h2;rw[if_pos (.inr h2)];exact⟨rfl,hS.ext,hS.blk 0 rfl⟩
 ·rename_i h1 h2;rw[if_neg (by rintro(h|h);exact h1 h;exact h2 h)];refine(UC f (hS.blk 0 rfl) hm hv ((hE.sub rfl).ext hS.ext fun c hc=>by subst hc;exact hq) hq).mono ?_;rintro v w' ⟨rfl,hx,hB⟩;replace hS:=hS.uB 0 hx hB;exact zG
theorem TP (k:Int)(hb:bC w b 251 (cP T))(hm:T.cells.length=32)(hE:bF w E n [2,4]) :
  aa prog 263 #[.pointer (some ⟨b,0,none⟩),.int .i64 k] w fun v w'=>(∃p,v=.tuple #[p,gC E (T.aZ k)]∧(T.aZ k=0→p=.pointer (some ⟨b,0+1+k.toNat*10,none⟩)))∧Ext No w w':=by
 unfold aC.aZ;refine zN func263 ntmps263 ?_;have hS:=St.start w No;by_cases h:k<0∨32≤k
 ·rw[if_pos h];refine(ztO k (hE.sub rfl) h).mono ?_;rintro v w2 ⟨rfl,hx⟩;replace hS:=hS.no hx;refine zE ?_;exact⟨⟨_,rfl,fun h=>by cases h⟩,hS.ext⟩
 ·rw[if_neg h];obtain⟨c,hc⟩:∃c,T.cells[k.toNat]?=some c:=⟨_,List.getElem?_eq_getElem zo⟩;rw[hc];refine(TX k zo zo).mono ?_;rintro v w2 ⟨rfl,rfl⟩;repeat' ((conv=>whnf);first|apply aI.mk|refine bO.mk zd ?_|refine ag.mk zo zo ?_|refine ao.mk zo zo ?_|refine hS.cK ((hb.cell _).trans (AK (k:=k.toNat) (j:=2) hc rfl (by simp<;>omega))) id ?_|refine hS.cK (hE.at_ 4 rfl) id ?_|refine hS.cV (hE.at_ 4 rfl) id id ?_|(first|apply aM|apply ca|apply cE|apply cD)<;>(intro))
  ·rename_i h1;dsimp only;rw[if_pos h1];exact⟨⟨_,rfl,fun h=>by cases h⟩,hS.ext⟩
  ·rename_i h1;dsimp only;rw[if_neg h1];exact⟨⟨_,rfl,fun _=>rfl⟩,hS.ext⟩
theorem S7 (k:Int)(hb:bC w b 251 (cP T))(hm:T.cells.length=32)(hv:BX T)(hE:bF w E n [2,4]) :
  aa prog 226 #[.pointer (some ⟨b,0,none⟩),.int .i64 k] w fun v w'=>v=gC E (T.drop k).1∧Ext (· = b) w w'∧bC w' b 251 (cP (T.drop k).2):=by
 have s6:T.aZ k≠0→∃j,T.aZ k=j+1:=fun h=>⟨T.aZ k-1,by omega⟩
 have ez:T.aZ k=0→0≤k∧k<32:=by
  unfold aC.aZ;split
  ·intro h;cases h
  ·intro _;omega
 unfold aC.drop;refine zN func226 ntmps226 ?_;have hS:=St.sb hb;refine(TP k (hS.blk 0 rfl) hm hE).mono ?_;rintro v w2 ⟨⟨p,rfl,hp⟩,hx⟩;replace hS:=hS.no hx;by_cases h:T.aZ k=0
 ·obtain rfl:=hp h;obtain⟨h0,h1⟩:=ez h;rw[if_neg (by simpa using h),h];obtain⟨c,hc⟩:∃c,T.cells[k.toNat]?=some c:=⟨_,List.getElem?_eq_getElem zo⟩;have s9:=hv c (List.mem_of_getElem? hc);refine hS.st 0 rfl (by rw[o7 hm];simp[cM];omega) rfl (fun w' hS=>?_)
  have ho:over (cP T) (0+1+k.toNat*10+2) (dW fN)=cP ⟨T.au,T.cells.set k.toNat ⟨c.slot,c.dF,fN⟩⟩:=by
   rw[tY (k:=k.toNat) (j:=2) (c':=⟨c.slot,c.dF,fN⟩) hc (by simp[dW]) rfl (by simp<;>omega)]
  replace hS:St w (· = b) w' [blk b 251 (cP ⟨T.au,T.cells.set k.toNat ⟨c.slot,c.dF,fN⟩⟩)]:=by rw[←ho];exact hS
  have fT:(T.cells.set k.toNat ⟨c.slot,c.dF,fN⟩)[k.toNat]?=some ⟨c.slot,c.dF,fN⟩:=List.getElem?_set_self zo;refine hS.ld 0 rfl (AK (k:=k.toNat) (j:=1) fT rfl (by simp<;>omega)) ?_;refine ag.mk (by dsimp only;omega) (by dsimp only;omega) ?_;refine hS.st 0 rfl (by rw[o7 (by simpa using hm)];simp[cM];omega) rfl (fun w' hS=>?_)
  have ho:over (cP ⟨T.au,T.cells.set k.toNat ⟨c.slot,c.dF,fN⟩⟩) (0+1+k.toNat*10+1) [.int .i64 (c.dF+1)]=cP ⟨T.au,qM T.cells k.toNat fN⟩:=by
   rw[tY (k:=k.toNat) (j:=1) (c':=⟨c.slot,c.dF+1,fN⟩) fT zi rfl (by simp<;>omega),BN hc,List.set_set]
  replace hS:St w (· = b) w' [blk b 251 (cP ⟨T.au,qM T.cells k.toNat fN⟩)]:=by rw[←ho];exact hS
  exact zG
 ·rw[if_pos h];obtain⟨j,hj⟩:=s6 h;rw[hj];exact zG
theorem TZ (k:Int)(hb:bC w b 251 (cP T)){c:ax}(h0:0≤k)(h1:k<32)(hc:T.cells[k.toNat]?=some c) :
  aa prog 206 #[.pointer (some ⟨b,0,none⟩),.int .i64 k] w fun v w'=>v=.tuple #[.agg (bV c).toArray,.nilIface]∧Ext No w w':=by
 refine zN func206 ntmps206 ?_;have hS:=St.start w No;have fI:aH w b (0+1+k.toNat*10) (bV c):=fun j v hj=>(hb.cell _).trans (AK (k:=k.toNat) (j:=j) hc hj zo)
 refine hS.new (fun b4 w' I3 hS=>?_);refine(TX k h0 h1).mono ?_;rintro v w2 ⟨rfl,rfl⟩;refine hS.mV (l:=bV c) rfl fI id ?_;refine hS.sT 0 fun w' hS=>?_
 refine hS.la 0 rfl (l:=bV c) rfl rfl ?_;exact zF
theorem zrS (hb:bC w b 251 (cP T))(hm:T.cells.length=32) :
  aa prog 232 #[.pointer (some ⟨b,0,none⟩)] w fun v w'=>∃a' c',v=.slice a' 32 c'∧Ext No w w'∧(az 218 10 bV v T.cells).holds w'∧m7 w w' v:=by
 refine zN func232 ntmps232 ?_;refine(zsJ (MP hb hm) zd rfl).mono ?_;rintro v w' ⟨a',c',rfl,h⟩;refine zE ?_;exact⟨a',c',rfl,h⟩
theorem zrQ (f:Int)(w:World):(Instr.build 251 #[(0,.int .i64 f)]).run prog w=.ok (.agg (cP ⟨f,List.replicate 32 ⟨0,0,fN⟩⟩).toArray) w:=zk
theorem zxF (nd:Int)(w:World)(h:nd=0∨nd=1) :
  aa prog 68 #[.int .i64 nd] w fun v w'=>∃b,v=.tuple #[.pointer (some ⟨b,0,none⟩),.nilIface]∧w.heap.size≤b∧Ext No w w'∧bC w' b 251 (cP ⟨2000+nd*24,ay⟩):=by
 obtain⟨V,hV,hl,h1,sV⟩:∃V:List Value,V=cP ⟨2000+nd*24,kr 0⟩∧V.length=321∧V.all kG=true∧∀w,(Instr.build 251 #[(0,.int .i64 (2000+nd*24))]).run prog w=.ok (.agg V.toArray) w:=⟨_,rfl,o7 (by simp[kr]),by unfold cP;rw[List.all_cons,AH gF];rfl,zrQ _⟩;have jc:∀k:Value→Prop,k (.agg V.toArray)→aB prog (Instr.build 251 #[(0,.int .i64 (2000+nd*24))]) k:=fun k hk=>aB.of sV hk
 have ho:cM (.agg V.toArray)=cP ⟨2000+nd*24,kr 0⟩:=by simp[cM,hV]
 generalize hVV:Value.agg V.toArray=VV at jc ho;refine zN func68 ntmps68 ?_;have hS:=St.start w No;repeat' ((conv=>whnf);first|refine ag.mk zo zo ?_|refine jc _ ?_|refine ca ?_ ?_<;>(intro))
 all_goals first|(exfalso;omega)|skip
 all_goals
  refine hS.new (fun b w' hb hS=>?_);rw[ho]at hS
  refine d5 aj (fun σ w' q=>∃k:Nat,σ=[(18,.int .i64 k),(4,.pointer (some ⟨b,0,none⟩))]∧q=32-k∧k≤32∧St w No w' [blk b 251 (cP ⟨2000+nd*24,kr k⟩)])
   (σ':=[(18,.int .i64 ((0:Nat):Int)),(4,.pointer (some ⟨b,0,none⟩))]) (n:=32) zs ⟨0,rfl,rfl,Nat.zero_le _,hS⟩ ?_
  rintro _ w1 q ⟨k,rfl,rfl,hk,hS⟩;apply aR<;>intro h3
  ·have hk:k<32:=by omega
   have hc:=Pz hk;refine ao.mk zo zo ?_;refine hS.st 0 rfl (by rw[o7 (KJ zo)];simp[cM];omega) rfl (fun w' hS=>?_)
   have ho:over (cP ⟨2000+nd*24,kr k⟩) (0+1+Int.toNat (k:Int)*10+0) [.int .i64 (k:Int)]=cP ⟨2000+nd*24,kr (k+1)⟩:=by
    rw[tY (k:=k) (j:=0) (c':=⟨(k:Int),0,fN⟩) hc zi rfl (by simp<;>omega)];simp only[Pc hk]
   replace hS:St w No w' [blk b 251 (cP ⟨2000+nd*24,kr (k+1)⟩)]:=by rw[←ho];exact hS
   refine ag.mk zo zo ?_;refine aD.mk ⟨_,[(18,.int .i64 ((k+1:Nat):Int)),(4,_)],?_,zs,⟨k+1,rfl,rfl,by omega,hS⟩⟩;omega
  ·obtain rfl:k=32:=by omega
   rw[O8]at hS;refine zE ?_;exact⟨b,rfl,hb,hS.ext,hS.blk 0 rfl⟩
end
theorem RV (p:α→Bool):∀(xs:List α) (k:Nat),0≤fW p xs k→∃(j:Nat) (x:α),xs[j]?=some x∧p x=true∧fW p xs k=(k:Int)+j∧∀(i:Nat) y,i<j→xs[i]?=some y→p y=false
 | [],k,h=>by simp[fW]at h
 | x::xs,k,h=>by
  cases hp:p x
  ·unfold fW at h ⊢;rw[hp]at h ⊢;obtain⟨j,y,h1,h2,h3,h4⟩:=RV p xs (k+1) h;refine⟨j+1,y,by simpa using h1,h2,?_,?_⟩
   ·show fW p xs (k+1)=_;omega
   ·intro i z hi hz;cases i with
    | zero=>simp at hz;subst hz;exact hp
    | succ i=>exact h4 i z zo (by simpa using hz)
  ·refine⟨0,x,rfl,hp,?_,fun i y hi=>by omega⟩;unfold fW;rw[hp];simp
structure eo (n:Nat)(T:aC):Prop where
 len:T.cells.length=32
 dF:∀c∈T.cells,0≤c.dF∧c.dF≤n
 slot:∀(k:Nat) c,T.cells[k]?=some c→c.slot=k
theorem eo.qz {T:aC}(h:eo n T)(hn:n≤100000000):BX T:=fun c hc=>by have:=h.dF c hc;omega
theorem eo.succ {T:aC}(h:eo n T):eo (n+1) T:=⟨h.len,fun c hc=>by have:=h.dF c hc;omega,h.slot⟩
theorem eo.empty (F:Int):eo 0 ⟨F,ay⟩:=by
 refine⟨uF,fun c hc=>?_,fun k c hk=>?_⟩
 ·simp only[ay,List.mem_map]at hc;obtain⟨i,_,rfl⟩:=hc;exact⟨Int.le_refl _,Int.le_refl _⟩
 ·have lt:=(List.getElem?_eq_some_iff.1 hk).1;have hk:ay[k]?=some c:=hk;have lt:k<ay.length:=lt;rw[uF]at lt;rw[Pn lt]at hk;cases hk;rfl
theorem eo.set {T:aC}(h:eo n T)(s:Nat)(f:cI):eo (n+1) ⟨T.au,qM T.cells s f⟩:=by
 unfold qM;cases hs:T.cells[s]? with
 | none=>exact h.succ
 | some e =>
  have lt:=(List.getElem?_eq_some_iff.1 hs).1;have hev:=h.dF e (List.mem_of_getElem? hs);refine⟨by simpa using h.len,fun c hc=>?_,fun k c hk=>?_⟩
  ·rcases List.mem_or_eq_of_mem_set hc with hc|rfl
   ·have:=h.dF c hc;omega
   ·dsimp only;omega
  ·simp only[List.getElem?_set]at hk;by_cases h1:s=k
   ·subst h1;rw[if_pos rfl,if_pos lt]at hk;cases hk;exact h.slot s e hs
   ·rw[if_neg h1]at hk;exact h.slot k c hk
theorem eo.lay {T:aC}(h:eo n T)(f:cI):eo (n+1) (T.lay f).2:=by
 unfold aC.lay;split
 ·exact h.succ
 ·exact h.set _ _
theorem eo.add {T:aC}(h:eo n T)(pr ia ip fa fp st un:Int):eo (n+1) (T.add pr ia ip fa fp st un).2:=by
 unfold aC.add;split
 ·exact h.succ
 ·split
  ·exact h.lay _
  ·exact h.succ
theorem eo.put {T:aC}(h:eo n T)(f:cI):eo (n+1) (T.put f).2:=by
 unfold aC.put;split
 ·exact h.succ
 ·exact h.lay _
theorem eo.iJ {T:aC}(h:eo n T)(k st un:Int):eo (n+1) (T.iJ k st un).2:=by
 unfold aC.iJ;split
 ·exact h.succ
 ·exact h.set _ _
theorem eo.drop {T:aC}(h:eo n T)(k:Int):eo (n+1) (T.drop k).2:=by
 unfold aC.drop;split
 ·exact h.succ
 ·exact h.set _ _
def uT (now:Int)(c:ax):Bool:=decide (c.f.proto≠0)&&decide (c.f.i5≤now)
def sk (now:Int)(c:ax):ax:=if uT now c=true then ⟨c.slot,c.dF+1,fN⟩ else c
def jQ (now:Int)(k:Nat)(l:List ax):List ax:=(l.take k).map (sk now)++l.drop k
def lN (now:Int)(k:Nat)(l:List ax):List Int:=((List.range k).filter fun i=>match l[i]? with|some c=>uT now c|none=>false).map fun(i:Nat)=>(i:Int)
theorem PW (now:Int)(k:Nat)(l:List ax):(jQ now k l).length=l.length:=by
 simp only[jQ,List.length_append,List.length_map,List.length_take,List.length_drop];omega
theorem Qn {l:List ax}{c:ax}(h:l[k]?=some c):(jQ now k l)[k]?=some c:=by
 have lt:=(List.getElem?_eq_some_iff.1 h).1;unfold jQ;rw[List.getElem?_append_right (by simp;omega)];simp only[List.length_map,List.length_take,Nat.min_eq_left (Nat.le_of_lt lt),Nat.sub_self,List.getElem?_drop,Nat.add_zero];exact h
theorem Po {l:List ax}{c:ax}(h:l[k]?=some c):jQ now (k+1) l=(jQ now k l).set k (sk now c):=by
 have lt:=(List.getElem?_eq_some_iff.1 h).1;have e:=(List.getElem?_eq_some_iff.1 h).2;unfold jQ;rw[List.set_append_right _ _ (by simp;omega),List.take_add_one,h,List.map_append,List.append_assoc];congr 1;simp only[List.length_map,List.length_take,Nat.min_eq_left (Nat.le_of_lt lt),Nat.sub_self];rw[List.drop_eq_getElem_cons lt,List.set_cons_zero];rfl
theorem Qo {l:List ax}{c:ax}(h:l[k]?=some c):lN now (k+1) l=lN now k l++(if uT now c=true then [(k:Int)] else []):=by
 unfold lN;rw[List.range_succ,List.filter_append,List.map_append];congr 1;cases hc:uT now c<;>simp[h,hc]
theorem QH (now:Int)(k:Nat)(l:List ax):(lN now k l).length≤k:=by
 unfold lN;rw[List.length_map];refine Nat.le_trans (List.length_filter_le _ _) ?_;simp
def aC.expire (T:aC)(now:Int):aC:=⟨T.au,jQ now 32 T.cells⟩
theorem YZ {l:List ax}{c:ax}(h:c∈jQ now k l):∃d∈l,c=d∨c=sk now d:=by
 unfold jQ at h;rcases List.mem_append.1 h with h|h
 ·obtain⟨d,hd,rfl⟩:=List.mem_map.1 h;exact⟨d,List.mem_of_mem_take hd,.inr rfl⟩
 ·exact⟨c,List.mem_of_mem_drop h,.inl rfl⟩
theorem zqe (now:Int)(c:ax):c.dF≤(sk now c).dF∧(sk now c).dF≤c.dF+1:=by
 unfold sk;split
 ·dsimp only;omega
 ·omega
theorem zoM (now:Int)(c:ax):(sk now c).slot=c.slot:=by
 unfold sk;split<;>rfl
theorem eo.expire {T:aC}(h:eo n T)(now:Int)(k:Nat):eo (n+1) ⟨T.au,jQ now k T.cells⟩:=by
 refine⟨(PW _ _ _).trans h.len,fun c hc=>?_,fun j c hj=>?_⟩
 ·obtain⟨d,hd,h1⟩:=YZ hc;have:=h.dF d hd;have:=zqe now d;rcases h1 with rfl|rfl<;>omega
 ·have lt:=(List.getElem?_eq_some_iff.1 hj).1;have hj:(jQ now k T.cells)[j]?=some c:=hj;have lt:j<(jQ now k T.cells).length:=lt;rw[PW]at lt;unfold jQ at hj;by_cases hk:j<k
  ·rw[List.getElem?_append_left (by simp;omega)]at hj;simp only[List.getElem?_map,List.getElem?_take,if_pos hk,Option.map_eq_some_iff]at hj;obtain⟨d,hd,rfl⟩:=hj;rw[zoM];exact h.slot j d hd
  ·rw[List.getElem?_append_right (by simp;omega)]at hj;simp only[List.length_map,List.length_take,List.getElem?_drop]at hj;rcases Nat.le_total k T.cells.length with h1|h1
   ·rw[Nat.min_eq_left h1,show k+(j-k)=j by omega]at hj;exact h.slot j c hj
   ·omega
section
variable {T:aC}
theorem zxK (k st un:Int)(hb:bC w b 251 (cP T))(hm:T.cells.length=32)(hv:BX T)(hE:bF w E n [2,4]) :
  aa prog 239 #[.pointer (some ⟨b,0,none⟩),.int .i64 k,.int .i64 st,.int .i64 un] w fun v w'=>v=gC E (T.iJ k st un).1∧Ext (· = b) w w'∧bC w' b 251 (cP (T.iJ k st un).2):=by
 have s6:T.aZ k≠0→∃j,T.aZ k=j+1:=fun h=>⟨T.aZ k-1,by omega⟩
 have ez:T.aZ k=0→0≤k∧k<32:=by
  unfold aC.aZ;split
  ·intro h;cases h
  ·intro _;omega
 unfold aC.iJ;refine zN func239 ntmps239 ?_;have hS:=St.sb hb;refine(TP k (hS.blk 0 rfl) hm hE).mono ?_;rintro v w2 ⟨⟨p,rfl,hp⟩,hx⟩;replace hS:=hS.no hx;by_cases h:T.aZ k=0
 ·obtain rfl:=hp h;obtain⟨h0,h1⟩:=ez h;rw[if_neg (by simpa using h),h];obtain⟨c,hc⟩:∃c,T.cells[k.toNat]?=some c:=⟨_,List.getElem?_eq_getElem zo⟩;have s9:=hv c (List.mem_of_getElem? hc);have jm:ik T k=c.f:=by unfold ik;rw[hc]
  rw[jm];refine hS.st 0 rfl (by rw[o7 hm];simp[cM];omega) rfl (fun w' hS=>?_)
  have ho:over (cP T) (0+1+k.toNat*10+2+6) [.int .i64 st]=cP ⟨T.au,T.cells.set k.toNat ⟨c.slot,c.dF,{ c.f with state:=st }⟩⟩:=by
   rw[tY (k:=k.toNat) (j:=8) (c':=⟨c.slot,c.dF,{ c.f with state:=st }⟩) hc zi rfl (by simp<;>omega)]
  replace hS:St w (· = b) w' [blk b 251 (cP ⟨T.au,T.cells.set k.toNat ⟨c.slot,c.dF,{ c.f with state:=st }⟩⟩)]:=by rw[←ho];exact hS
  have fT:(T.cells.set k.toNat ⟨c.slot,c.dF,{ c.f with state:=st }⟩)[k.toNat]?=some ⟨c.slot,c.dF,{ c.f with state:=st }⟩:=List.getElem?_set_self zo;refine hS.st 0 rfl (by rw[o7 (by simpa using hm)];simp[cM];omega) rfl (fun w' hS=>?_)
  have ho:over (cP ⟨T.au,T.cells.set k.toNat ⟨c.slot,c.dF,{ c.f with state:=st }⟩⟩) (0+1+k.toNat*10+2+7) [.int .i64 un]=cP ⟨T.au,T.cells.set k.toNat ⟨c.slot,c.dF,{ c.f with state:=st,i5:=un }⟩⟩:=by
   rw[tY (k:=k.toNat) (j:=9) (c':=⟨c.slot,c.dF,{ c.f with state:=st,i5:=un }⟩) fT zi rfl (by simp<;>omega),List.set_set]
  replace hS:St w (· = b) w' [blk b 251 (cP ⟨T.au,T.cells.set k.toNat ⟨c.slot,c.dF,{ c.f with state:=st,i5:=un }⟩⟩)]:=by rw[←ho];exact hS
  have FA:(T.cells.set k.toNat ⟨c.slot,c.dF,{ c.f with state:=st,i5:=un }⟩)[k.toNat]?=some ⟨c.slot,c.dF,{ c.f with state:=st,i5:=un }⟩:=List.getElem?_set_self zo;refine hS.ld 0 rfl (AK (k:=k.toNat) (j:=1) FA rfl (by simp<;>omega)) ?_;refine ag.mk (by dsimp only;omega) (by dsimp only;omega) ?_;refine hS.st 0 rfl (by rw[o7 (by simpa using hm)];simp[cM];omega) rfl (fun w' hS=>?_)
  have ho:over (cP ⟨T.au,T.cells.set k.toNat ⟨c.slot,c.dF,{ c.f with state:=st,i5:=un }⟩⟩) (0+1+k.toNat*10+1) [.int .i64 (c.dF+1)]=cP ⟨T.au,qM T.cells k.toNat { c.f with state:=st,i5:=un }⟩:=by
   rw[tY (k:=k.toNat) (j:=1) (c':=⟨c.slot,c.dF+1,{ c.f with state:=st,i5:=un }⟩) FA zi rfl (by simp<;>omega),BN hc,List.set_set]
  replace hS:St w (· = b) w' [blk b 251 (cP ⟨T.au,qM T.cells k.toNat { c.f with state:=st,i5:=un }⟩)]:=by rw[←ho];exact hS
  exact zG
 ·rw[if_pos h];obtain⟨j,hj⟩:=s6 h;rw[hj];exact zG
theorem kU:cR 1 eY:=⟨fun _=>rfl,fun _=>rfl,by decide⟩
theorem zpr {m:Nat}(now:Int)(hb:bC w b 251 (cP T))(hT:eo m T)(De:m≤50000000)(hE:bF w E n [2,4])(hq:n≤b) :
  aa prog 198 #[.pointer (some ⟨b,0,none⟩),.int .i64 now] w fun v w'=>(∃a' c',v=.slice a' (lN now 32 T.cells).length c')∧Ext (· = b) w w'∧bC w' b 251 (cP (T.expire now))∧(az 3 1 eY v (lN now 32 T.cells)).holds w'∧m7 w w' v:=by
 have hm:=hT.len;have gY:=hb.lt;refine zN func198 ntmps198 ?_;have hS:=St.sb hb;have xd:aH w b 1 (T.cells.flatMap bV):=hb.cells (by rw[gU gF];simp only[cP,List.drop_succ_cons,List.drop_zero];exact He _);refine hS.la 0 rfl (l:=T.cells.flatMap bV) (by rw[gU gF,hm]) (by rw[gU gF];simp only[cP,List.drop_succ_cons,List.drop_zero];exact He _) ?_;have hS:=hS.add (fq (e:=3) (enc:=eY) (sz:=1) (v:=.slice none 0 0) (xs:=[])) (sf _ _ _) (by simp[az,own,Value.ownBlock]) (by simp[az,own,Value.ownBlock])
 refine d5 aj (fun σ w' q=>∃(k:Nat) (v:Value),σ=[(12,.int .i64 k),(11,.agg (T.cells.flatMap bV).toArray),(5,v),(1,.int .i64 now),(0,.pointer (some ⟨b,0,none⟩))]∧q=32-k∧k≤32∧(∃a' c',v=.slice a' (lN now k T.cells).length c')∧St w (· = b) w' [blk b 251 (cP ⟨T.au,jQ now k T.cells⟩),az 3 1 eY v (lN now k T.cells)])
  (σ':=[(12,.int .i64 ((0:Nat):Int)),(11,.agg (T.cells.flatMap bV).toArray),(5,.slice none 0 0),(1,.int .i64 now),(0,.pointer (some ⟨b,0,none⟩))]) (n:=32) zs ⟨0,_,rfl,rfl,Nat.zero_le _,⟨none,0,rfl⟩,hS⟩ ?_
 rintro _ w1 q ⟨k,_,rfl,rfl,hk,⟨a',c',rfl⟩,hS⟩;apply aR<;>intro h3
 ·obtain⟨x,dB⟩:∃x,T.cells[k]?=some x:=⟨_,List.getElem?_eq_getElem zo⟩;have zw:=QH now k T.cells;have qj:=Qo (now:=now) dB;have fZ:=Po (now:=now) dB;have rR:=Qn (now:=now) dB;have sN:=hT.expire now k;have rX:=hT.dF x (List.mem_of_getElem? dB);refine aB.of (RY gF (k:=k) (by rw[hm];exact underlying249) zk ⟨_,underlying218⟩ zk zk dB rfl) ?_;refine hS.new (fun bc w' wR hS=>?_);refine hS.sT 2 fun w' hS=>?_
  by_cases hx:uT now x=true
  ·have h1:x.f.proto≠0∧x.f.i5≤now:=by simpa[uT]using hx
   rw[if_pos hx]at qj
   have hdr:(aC.mk T.au (jQ now k T.cells)).drop k=(0,⟨T.au,jQ now (k+1) T.cells⟩):=by
    have Ji:(aC.mk T.au (jQ now k T.cells)).aZ k=0:=by
     unfold aC.aZ;rw[if_neg zo];simp only[show((k:Int)).toNat=k by simp,rR];simp[h1.1]
    unfold aC.drop;rw[Ji,if_neg zi,show((k:Int)).toNat=k by simp];simp only[BN rR];rw[fZ,sk,if_pos hx]
   refine hS.lD 2 ?_;refine ca (fun _=>?_) (fun h=>absurd h h1.1);refine hS.lD 2 ?_;refine aM (fun _=>?_) (fun h=>absurd h1.2 h);refine(S7 (k:Int) (hS.blk 0 rfl) sN.len (sN.qz zo) ((hE.sub rfl).ext hS.ext fun c hc=>by subst hc;exact hq)).mono ?_;rw[hdr];rintro v w' ⟨rfl,aU,hB⟩;replace hS:=hS.uB 0 aU hB;refine hS.lit (cs:=[.int .i64 k]) underlying25 (sz:=1) zk (z:=.int .i64 0) zk rfl rfl (by rfl) (fun bl w' gY hS=>?_);refine hS.d8 kU 1 (ys:=[(k:Int)]) (G:=fun _=>True) underlying25 (bytes:=8) zk (z:=.int .i64 0) zk rfl rfl (bQ.bG kU (hS.blk 3 rfl) rfl zi (fun _ _=>trivial) rfl) (by unfold maxLen;omega) zo (fun a2 c2 w' hS=>?_);replace hS:=hS.keep 2;rw[←qj]at hS;have ft:(lN now k T.cells).length+1=(lN now (k+1) T.cells).length:=by rw[qj];simp
   rw[ft]at hS ⊢;refine ag.mk zo zo ?_;refine aD.mk ⟨_,[(12,.int .i64 ((k+1:Nat):Int)),(11,_),(5,_),(1,_),(0,_)],?_,zs,⟨k+1,_,rfl,rfl,by omega,⟨a2,c2,rfl⟩,hS⟩⟩;omega
  ·rw[if_neg hx,List.append_nil]at qj
   have yR:jQ now (k+1) T.cells=jQ now k T.cells:=by
    rw[fZ,sk,if_neg hx];obtain⟨lt,e⟩:=List.getElem?_eq_some_iff.1 rR;rw[←e];exact List.set_getElem_self lt
   have h1:x.f.proto≠0→¬x.f.i5≤now:=by
    intro a b;exact hx (by simp[uT,a,b])
   have fin:∀w',St w (· = b) w' [blk b 251 (cP ⟨T.au,jQ now k T.cells⟩),az 3 1 eY (.slice a' (lN now k T.cells).length c') (lN now k T.cells),blk bc 218 (bV x)]→St w (· = b) w' [blk b 251 (cP ⟨T.au,jQ now (k+1) T.cells⟩),az 3 1 eY (.slice a' (lN now k T.cells).length c') (lN now (k+1) T.cells)]:=by
    intro w' hS;rw[yR,qj];exact hS.keep 2
   refine hS.lD 2 ?_;refine ca (fun h4=>?_) (fun h4=>?_)
   ·(conv=>whnf)
    refine hS.ld 2 rfl rfl ?_;(conv=>whnf);refine aM (fun h=>absurd h (h1 h4)) (fun h=>?_);refine ag.mk zo zo ?_;refine aD.mk ⟨_,[(12,.int .i64 ((k+1:Nat):Int)),(11,_),(5,_),(1,_),(0,_)],?_,zs,⟨k+1,_,rfl,rfl,by omega,⟨a',c',by rw[qj]⟩,fin _ hS⟩⟩;omega
   ·refine ag.mk zo zo ?_;refine aD.mk ⟨_,[(12,.int .i64 ((k+1:Nat):Int)),(11,_),(5,_),(1,_),(0,_)],?_,zs,⟨k+1,_,rfl,rfl,by omega,⟨a',c',by rw[qj]⟩,fin _ hS⟩⟩;omega
 ·obtain rfl:k=32:=by omega
  refine zE ?_;refine⟨⟨a',c',rfl⟩,hS.ext,hS.blk 0 rfl,hS.get 1 rfl,fun g hg=>?_⟩;obtain⟨h1,h2⟩:=hS.may _ (List.mem_of_getElem? (i:=1) rfl) g (by simpa[az,own]using hg);refine⟨h1.resolve_left ?_,h2⟩;rintro rfl;have:=mj m4 hS.apart (i:=0) (j:=1) rfl rfl zd g (by simp[blk]);exact this (by simpa[az,own]using hg)
end
def qG (l:List ax)(k:Nat):Int:=match l[k]? with
 | some c=>c.dF
 | none=>0
def MX (l:List ax)(k:Nat):ax:=match l[k]? with
 | some c=>c
 | none=>⟨0,0,fN⟩
def EW (t:List Int)(k:Nat):Int:=match t[k]? with
 | some v=>v
 | none=>0
def yj (l:List ax)(t:List Int)(k:Nat):Bool:=decide (qG l k≠EW t k)
def gB (l:List ax)(t:List Int)(n:Nat):List Nat:=((List.range n).filter (yj l t)).take 8
def gV (l:List ax)(t:List Int)(p:List Nat):List Int:=p.foldl (fun t k=>t.set k (qG l k)) t
def oJ:Nat→Nat→List Nat→Nat × List Nat
 | 0,c,p=>(c,p)
 | n+1,c,p=>if p.length<8 then oJ n ((c+1) % 32) (if c∈p then p else p++[c]) else (c,p)
structure j2 where
 told:List Int
 bK:Nat
def j2.aY (X:j2)(l:List ax):List Nat:=(oJ 32 X.bK (gB l X.told 32)).2
def j2.next (X:j2)(l:List ax):j2:=⟨gV l X.told (X.aY l),(oJ 32 X.bK (gB l X.told 32)).1⟩
def fx (l:List ax)(p:List Nat):List ax:=p.map (MX l)
def Bq (l:List ax)(t:List Int):Nat:=((List.range 32).filter (yj l t)).length
theorem Hu {l:List ax}  {c:ax}(h:l[k]?=some c):qG l k=c.dF:=by unfold qG;rw[h]
theorem Em {l:List ax}  {c:ax}(h:l[k]?=some c):MX l k=c:=by unfold MX;rw[h]
theorem LG {t:List Int}  {v:Int}(h:t[k]?=some v):EW t k=v:=by unfold EW;rw[h]
theorem EA (l:List ax)(t:List Int)(n:Nat):(gB l t n).length≤8:=by
 unfold gB;rw[List.length_take];omega
theorem Sf {l:List ax}{t:List Int}(h:k∈gB l t n):k<n:=by
 have:=List.mem_of_mem_take h;simp at this;exact this.1
theorem K9 (l:List ax)(t:List Int)(n:Nat):gB l t (n+1)=if yj l t n=true∧(gB l t n).length<8 then gB l t n++[n] else gB l t n:=by
 unfold gB;rw[List.range_succ,List.filter_append];generalize (List.range n).filter (yj l t)=xs;cases h:yj l t n
 ·simp[h]
 ·simp only[List.filter_cons,h,List.filter_nil,if_true,true_and,List.length_take];rw[List.take_append];by_cases h8:xs.length<8
  ·rw[if_pos zo,List.take_of_length_le zo,List.take_of_length_le (by simp;omega)]
  ·rw[if_neg zo,show 8-xs.length=0 by omega];simp
theorem Qc (l:List ax)(t:List Int)(n:Nat):(gB l t n).Nodup:=by
 unfold gB;exact(List.take_sublist _ _).nodup ((List.filter_sublist).nodup List.nodup_range)
theorem Ax (l:List ax):∀(p:List Nat) (t:List Int),(gV l t p).length=t.length
 | [],t=>rfl
 | k::p,t=>by
  show(gV l (t.set k (qG l k)) p).length=_;rw[Ax l p];exact List.length_set
theorem Gv (l:List ax)(t:List Int)(p:List Nat)(k:Nat):gV l t (p++[k])=(gV l t p).set k (qG l k):=by
 unfold gV;rw[List.foldl_append];rfl
theorem Q4 (l:List ax):∀(p:List Nat) (t:List Int) (k:Nat),k<t.length→(gV l t p)[k]?=some (if k∈p then qG l k else EW t k)
 | [],t,k,h=>by
  show t[k]?=_;rw[List.getElem?_eq_getElem h,if_neg zi,LG (List.getElem?_eq_getElem h)]
 | j::p,t,k,h=>by
  show(gV l (t.set j (qG l j)) p)[k]?=_;rw[Q4 l p _ k (by simpa using h)];by_cases hk:k∈p
  ·rw[if_pos hk,if_pos (by simp[hk])]
  ·rw[if_neg hk];by_cases hj:k=j
   ·subst hj;rw[if_pos zi,LG (List.getElem?_set_self h)]
   ·rw[if_neg (by simp[hk,hj])];unfold EW;rw[List.getElem?_set_ne (fun e=>hj e.symm)]
theorem SH:∀{l p:List Nat},l.Nodup→(∀x∈l,x∈p)→l.length≤p.length
 | [],p,_,_=>Nat.zero_le _
 | x::l,p,hn,hs=>by
  have hx:=hs x zi;obtain⟨h1,h2⟩:=List.nodup_cons.1 hn;have:=SH (l:=l) (p:=p.erase x) h2 fun y hy=>(List.mem_erase_of_ne (by rintro rfl;exact h1 hy)).2 (hs y (by simp[hy]))
  rw[List.length_erase_of_mem hx]at this;have:0<p.length:=List.length_pos_of_mem hx;simp only[List.length_cons];omega
structure hJ (c0 j c:Nat)(p:List Nat):Prop where
 cur:c=(c0+j) % 32
 all:∀i,i<j→(c0+i) % 32∈p
theorem hJ.few {c0:Nat}(h:hJ c0 j c p)(hc:c0<32)(hp:p.length<8):j<32:=by
 by_cases hj:j<32
 ·exact hj
 ·have:(List.range 32).length≤p.length:=SH List.nodup_range fun x hx=>by
   have hx:x<32:=List.mem_range.1 hx;by_cases hle:c0≤x
   ·have:=h.all (x-c0) zo
    rwa [show(c0+(x-c0)) % 32=x by omega]at this
   ·have:=h.all (x+32-c0) zo
    rwa [show(c0+(x+32-c0)) % 32=x by omega]at this
  simp at this;omega
theorem hJ.step {c0:Nat}(h:hJ c0 j c p):hJ c0 (j+1) ((c+1) % 32) (if c∈p then p else p++[c]):=by
 have hc:=h.cur;refine⟨by omega,fun i hi=>?_⟩
 have eT:∀x,x∈p→x∈(if c∈p then p else p++[c]):=fun x hx=>by
  split
  ·exact hx
  ·exact List.mem_append_left _ hx
 rcases Nat.lt_or_eq_of_le (Nat.le_of_lt_succ hi) with hi|rfl
 ·exact eT _ (h.all i hi)
 ·rw[←hc];split
  ·assumption
  ·simp
theorem Gs (h:¬p.length<8):oJ n c p=(c,p):=by
 cases n with
 | zero=>rfl
 | succ n=>unfold oJ;rw[if_neg h]
theorem Gt (h:p.length<8):oJ (n+1) c p=oJ n ((c+1) % 32) (if c∈p then p else p++[c]):=by
 conv=>lhs;unfold oJ
 rw[if_pos h]
def eB (bt g c:Nat)(T:aC):bZ:=⟨[bt,g],fun w=>bt≠g∧bC w bt 214 [.int .i64 T.au,.slice (some ⟨g,0,none⟩) 32 c]∧(az 218 10 bV (.slice (some ⟨g,0,none⟩) 32 c) T.cells).holds w⟩
theorem vM {bt:Nat}{T:aC}:(eB bt g c T).Local:=fun w w' h ⟨h1,h2,h3⟩ =>
 ⟨h1,eh bt _ _ w w' (fun b hb=>h b (by simp[blk]at hb;simp[eB,hb])) h2,fq w w' (fun b hb=>h b (by simp[az,own,Value.ownBlock]at hb;simp[eB,hb])) h3⟩
section
variable {bt:Nat}{T:aC}
theorem Qz (h:(eB bt g c T).holds w):w.cell? ⟨bt,0,none⟩=some (.int .i64 T.au):=h.2.1.cell 0
theorem m6 (h:(eB bt g c T).holds w):w.cell? ⟨bt,1,none⟩=some (.slice (some ⟨g,0,none⟩) 32 c):=h.2.1.cell 1
theorem EF (h:(eB bt g c T).holds w):bQ w 10 bV (fun _=>True) (some ⟨g,0,none⟩) 32 T.cells:=by
 obtain⟨_,_,h3⟩:=h
 have hl:T.cells.length=32:=by
  obtain⟨_,⟨h4,_⟩|⟨g',cap,cur,h4,_⟩⟩:=h3
  ·cases h4
  ·simp only[Value.slice.injEq]at h4;exact h4.2.1.symm
 have:=fE (G:=fun _=>True) gF h3 fun _ _=>trivial
 exact this
theorem sg (h:(eB bt g c T).holds w){k:Nat}{x:ax}(hx:T.cells[k]?=some x):aH w g (k*10) (bV x):=by
 obtain⟨b,o,h1,_,h2⟩:=(EF h).cells k x hx;cases h1;rw[Nat.zero_add]at h2;exact h2
theorem rp {w':World}(h:(eB bt g c T).holds w)(hx:Ext No w w'):(eB bt g c T).holds w' :=
 vM w w' (fun b hb=>hx.block b (by
  simp only[eB,List.mem_cons,List.not_mem_nil,or_false]at hb;rcases hb with rfl|rfl
  ·exact h.2.1.lt
  ·exact HM h.2.2) id) h
theorem Me (pr ia ip fa fp:Int)(hT:(eB bt g c T).holds w) :
  aa prog 172 #[.pointer (some ⟨bt,0,none⟩),.int .i64 pr,.agg #[.int .i64 ia,.int .i64 ip],.agg #[.int .i64 fa,.int .i64 fp]] w fun v w'=>v=.int .i64 (T.find pr ia ip fa fp)∧Ext No w w':=by
 have hl:=(EF hT).len;unfold aC.find;refine r5 aj func172 zk rfl ntmps172 zl ?_;have hS:=St.start w No;(conv=>whnf);refine hS.new (fun b6 w' _ hS=>?_);(conv=>whnf);refine hS.new (fun b7 w' _ hS=>?_);(conv=>whnf)
 refine d5 aj (fun σ w' q=>∃k:Nat,σ=[(9,.int .i64 k),(7,.pointer (some ⟨b7,0,none⟩)),(6,.pointer (some ⟨b6,0,none⟩)),(1,.int .i64 pr),(0,.pointer (some ⟨bt,0,none⟩))]∧q=32-k∧k≤32∧St w No w' [blk b6 147 [.int .i64 ia,.int .i64 ip],blk b7 147 [.int .i64 fa,.int .i64 fp]] ∧
   fW (iq (pY pr ia ip fa fp)) T.cells 0=fW (iq (pY pr ia ip fa fp)) (T.cells.drop k) k)
  (σ':=[(9,.int .i64 ((0:Nat):Int)),(7,.pointer (some ⟨b7,0,none⟩)),(6,.pointer (some ⟨b6,0,none⟩)),(1,.int .i64 pr),(0,.pointer (some ⟨bt,0,none⟩))]) (n:=32) zs ⟨0,rfl,rfl,Nat.zero_le _,hS,by simp⟩ ?_
 clear hS;rintro _ w1 q ⟨k,rfl,rfl,hk,hS,hi⟩;(conv=>whnf);refine hS.cK (m6 hT) id ?_;(conv=>whnf);refine aM (fun h3=>?_) (fun h3=>?_)
 ·obtain⟨x,dB⟩:∃x,T.cells[k]?=some x:=⟨_,List.getElem?_eq_getElem zo⟩;have aX:=Hh (iq (pY pr ia ip fa fp)) dB;refine hS.cK (m6 hT) id ?_;refine ao.mk zo zo ?_;refine hS.mV (l:=dW x.f) rfl (show aH w g (0+Int.toNat (k:Int)*10+2) (dW x.f) by rw[Nat.zero_add];exact(sg hT dB).sub 2 (l':=dW x.f) rfl) id ?_;refine hS.new (fun Fp w' _ hS=>?_);refine hS.sT 2 fun w' hS=>?_
  have next:iq (pY pr ia ip fa fp) x=false→fW (iq (pY pr ia ip fa fp)) T.cells 0=fW (iq (pY pr ia ip fa fp)) (T.cells.drop (k+1)) (k+1):=fun h=>by rw[hi,aX,h]
  repeat' ((conv=>whnf);first|apply aI.mk|refine bO.mk zd ?_|refine ag.mk zo zo ?_|refine ao.mk zo zo ?_|refine hS.ld 2 rfl rfl ?_|refine hS.la 2 rfl (l:=[.int .i64 x.f.ia,.int .i64 x.f.ip]) rfl rfl ?_|refine hS.la 2 rfl (l:=[.int .i64 x.f.fa,.int .i64 x.f.fp]) rfl rfl ?_|refine hS.la 0 rfl (l:=[.int .i64 ia,.int .i64 ip]) rfl rfl ?_|refine hS.la 1 rfl (l:=[.int .i64 fa,.int .i64 fp]) rfl rfl ?_|refine HV ?_|(first|apply aM|apply ca|apply cE|apply cD)<;>(intro))
  all_goals first
   | exact aD.mk ⟨_,[(9,.int .i64 ((k+1:Nat):Int)),(7,_),(6,_),(1,_),(0,_)],by omega,zs,⟨k+1,rfl,rfl,by omega,hS.keep 2,next (by simp_all[iq,pY])⟩⟩
   | exact⟨by rw[hi,aX,show iq (pY pr ia ip fa fp) x=true by simp_all[iq,pY]],hS.ext⟩
   | trace_state
 ·obtain rfl:k=32:=by omega
  refine zE ?_;rw[hi,List.drop_of_length_le zo];exact⟨rfl,hS.ext⟩
theorem L9 (pr po fa fp:Int)(hT:(eB bt g c T).holds w) :
  aa prog 177 #[.pointer (some ⟨bt,0,none⟩),.int .i64 pr,.int .i64 po,.agg #[.int .i64 fa,.int .i64 fp]] w fun v w'=>v=.int .i64 (T.back pr po fa fp)∧Ext No w w':=by
 have hl:=(EF hT).len;unfold aC.back;refine r5 aj func177 zk rfl ntmps177 zl ?_;have hS:=St.start w No;(conv=>whnf);refine hS.new (fun b7 w' _ hS=>?_);(conv=>whnf)
 refine d5 aj (fun σ w' q=>∃k:Nat,σ=[(9,.int .i64 k),(7,.pointer (some ⟨b7,0,none⟩)),(2,.int .i64 po),(1,.int .i64 pr),(0,.pointer (some ⟨bt,0,none⟩))]∧q=32-k∧k≤32∧St w No w' [blk b7 147 [.int .i64 fa,.int .i64 fp]] ∧
   fW (iq (pX pr po fa fp)) T.cells 0=fW (iq (pX pr po fa fp)) (T.cells.drop k) k)
  (σ':=[(9,.int .i64 ((0:Nat):Int)),(7,.pointer (some ⟨b7,0,none⟩)),(2,.int .i64 po),(1,.int .i64 pr),(0,.pointer (some ⟨bt,0,none⟩))]) (n:=32) zs ⟨0,rfl,rfl,Nat.zero_le _,hS,by simp⟩ ?_
 clear hS;rintro _ w1 q ⟨k,rfl,rfl,hk,hS,hi⟩;(conv=>whnf);refine hS.cK (m6 hT) id ?_;(conv=>whnf);refine aM (fun h3=>?_) (fun h3=>?_)
 ·obtain⟨x,dB⟩:∃x,T.cells[k]?=some x:=⟨_,List.getElem?_eq_getElem zo⟩;have aX:=Hh (iq (pX pr po fa fp)) dB;refine hS.cK (m6 hT) id ?_;refine ao.mk zo zo ?_;refine hS.mV (l:=dW x.f) rfl (show aH w g (0+Int.toNat (k:Int)*10+2) (dW x.f) by rw[Nat.zero_add];exact(sg hT dB).sub 2 (l':=dW x.f) rfl) id ?_;refine hS.new (fun Fp w' _ hS=>?_);refine hS.sT 1 fun w' hS=>?_
  have next:iq (pX pr po fa fp) x=false→fW (iq (pX pr po fa fp)) T.cells 0=fW (iq (pX pr po fa fp)) (T.cells.drop (k+1)) (k+1):=fun h=>by rw[hi,aX,h]
  repeat' ((conv=>whnf);first|apply aI.mk|refine bO.mk zd ?_|refine ag.mk zo zo ?_|refine ao.mk zo zo ?_|refine hS.ld 1 rfl rfl ?_|refine hS.la 1 rfl (l:=[.int .i64 x.f.fa,.int .i64 x.f.fp]) rfl rfl ?_|refine hS.la 0 rfl (l:=[.int .i64 fa,.int .i64 fp]) rfl rfl ?_|refine HV ?_|(first|apply aM|apply ca|apply cE|apply cD)<;>(intro))
  all_goals first
   | exact aD.mk ⟨_,[(9,.int .i64 ((k+1:Nat):Int)),(7,_),(2,_),(1,_),(0,_)],by omega,zs,⟨k+1,rfl,rfl,by omega,hS.keep 1,next (by simp_all[iq,pX])⟩⟩
   | exact⟨by rw[hi,aX,show iq (pX pr po fa fp) x=true by simp_all[iq,pX]],hS.ext⟩
   | trace_state
 ·obtain rfl:k=32:=by omega
  refine zE ?_;rw[hi,List.drop_of_length_le zo];exact⟨rfl,hS.ext⟩
theorem Mx (hT:(eB bt g c T).holds w):bt<w.heap.size∧g<w.heap.size:=⟨hT.2.1.lt,HM hT.2.2⟩
theorem zty {w':World}{L:List ax}(hT:(eB bt g c T).holds w)(hx:Ext (· = g) w w')(hO:(az 218 10 bV (.slice (some ⟨g,0,none⟩) 32 c) L).holds w'):(eB bt g c ⟨T.au,L⟩).holds w' :=
 ⟨hT.1,hx.blk hT.2.1 hT.1,hO⟩
theorem Lx (k:Nat)(f:cI){x:ax}(hT:(eB bt g c T).holds w)(hx:T.cells[k]?=some x)(hs:x.slot=k)(hv:0≤x.dF∧x.dF<9223372036854775807) :
  aa prog 246 #[.pointer (some ⟨bt,0,none⟩),.int .i64 k,.agg (dW f).toArray] w fun v w'=>Ext (· = g) w w'∧(eB bt g c ⟨T.au,qM T.cells k f⟩).holds w':=by
 have hl:=(EF hT).len;have aQ:=(List.getElem?_eq_some_iff.1 hx).1;obtain⟨l1,l2⟩:=Mx hT;have cj:=hT.1;refine zN func246 ntmps246 ?_;have hS:=(St.start w (· = g)).add fq hT.2.2 (by simp[az,own,Value.ownBlock];exact l2) zi;refine hS.new (fun b5 w' vd hS=>?_);have h5:¬b5=g:=by omega
 have j5:aH w' g (0+Int.toNat (k:Int)*10) (bV x):=by
  obtain⟨b,o,h1,_,h2⟩:=(fE (G:=fun _=>True) gF (hS.get 0 rfl) fun _ _=>trivial).cells k x hx;cases h1;exact h2
 conv=>whnf
 (refine ir aj mixed [13] (· = g) [0,1,2,3,4,5,6,7,8,9,10,11,12,15,13,14,16,17,18] zk ?_;rintro w1 rfl;replace hS:=hS.drew)
 repeat' ((conv=>whnf);first|refine ao.mk zo zo ?_|refine hS.cV (m6 hT) cj cj ?_|refine hS.xy 1 rfl (l:=dW f) rfl rfl h5 ?_|(refine g9 (j5.one 1 rfl) ?_;refine ae.mk (Ext.refl _ _) ?_)|refine ag.mk zo zo ?_)
 refine hS.m0 (k:=k) (x:=⟨(k:Int),x.dF+1,f⟩) 0 rfl hx zi (fun w' aU hS=>?_);refine ae.mk aU ?_;refine zE ?_;refine⟨hS.ext,zty hT hS.ext ?_⟩;rw[BN hx,hs];exact hS.get 0 rfl
theorem T9 (f:cI)(hT:(eB bt g c T).holds w){n:Nat}(hO:eo n T)(hn:n≤50000000) :
  aa prog 209 #[.pointer (some ⟨bt,0,none⟩),.agg (dW f).toArray] w fun v w'=>v=.tuple #[.int .i64 (ug (T.lay f).1.1),.int .i64 (T.lay f).1.2]∧Ext (· = g) w w'∧(eB bt g c (T.lay f).2).holds w':=by
 have hl:=hO.len;unfold aC.lay;refine zN func209 ntmps209 ?_;have hS:=St.start w No;refine hS.new (fun b3 w' Cx hS=>?_)
 refine d5 aj (fun σ w' q=>∃k:Nat,σ=[(6,.int .i64 k),(3,.pointer (some ⟨b3,0,none⟩)),(0,.pointer (some ⟨bt,0,none⟩))]∧q=32-k∧k≤32∧St w No w' [blk b3 216 (dW f)] ∧
   fW oI T.cells 0=fW oI (T.cells.drop k) k)
  (σ':=[(6,.int .i64 ((0:Nat):Int)),(3,.pointer (some ⟨b3,0,none⟩)),(0,.pointer (some ⟨bt,0,none⟩))]) (n:=32) zs ⟨0,rfl,rfl,Nat.zero_le _,hS,by simp⟩ ?_
 rintro _ w1 q ⟨k,rfl,rfl,hk,hS,hi⟩;refine hS.cK (m6 hT) id ?_;apply aR<;>intro h3
 ·obtain⟨x,dB⟩:∃x,T.cells[k]?=some x:=⟨_,List.getElem?_eq_getElem zo⟩;have aX:=Hh oI dB;have j5:=sg hT dB;have hp:=j5.one 2 rfl;refine hS.cK (m6 hT) id ?_;refine ao.mk zo zo ?_;refine hS.cK (show w.cell? ⟨g,0+Int.toNat (k:Int)*10+2+0,none⟩=_ by rw[Nat.zero_add];exact hp) id ?_;refine aM (fun h4=>?_) (fun h4=>?_)
  ·have y5:fW oI T.cells 0=k:=by rw[hi,aX,show oI x=true by simp[oI,h4]]
   have rX:=hO.dF x (List.mem_of_getElem? dB);refine hS.la 0 rfl (l:=dW f) rfl rfl ?_;refine(Lx k f (rp hT hS.ext) dB (hO.slot k x dB) zo).mono ?_;rintro v w' ⟨hx,qS⟩;refine zE ?_;rw[y5,if_neg zo];exact⟨by simp[ug];omega,(hS.ext.aF).trans hx,by simpa using qS⟩
  ·refine ag.mk zo zo ?_;(conv=>whnf);exact aD.mk ⟨_,[(6,.int .i64 ((k+1:Nat):Int)),(3,_),(0,_)],by omega,zs,⟨k+1,rfl,rfl,by omega,hS,by rw[hi,aX,show oI x=false by simp[oI,h4]]⟩⟩
 ·obtain rfl:k=32:=by omega
  refine zE ?_;have y5:fW oI T.cells 0 = -1:=by rw[hi,List.drop_of_length_le zo];rfl
  rw[y5,if_pos zo];exact⟨rfl,hS.ext.aF,rp hT hS.ext⟩
theorem UB (T:aC)(f:cI):ug (T.lay f).1.1=(T.lay f).1.1:=by
 unfold aC.lay;split
 ·rfl
 ·unfold ug;rw[if_neg (by assumption)]
theorem zwG (pr ia ip fa fp st un:Int)(hT:(eB bt g c T).holds w){n:Nat}(hO:eo n T)(hn:n≤50000000)(hF:0≤T.au∧T.au≤100000) :
  aa prog 176 #[.pointer (some ⟨bt,0,none⟩),.int .i64 pr,.agg #[.int .i64 ia,.int .i64 ip],.agg #[.int .i64 fa,.int .i64 fp],.int .i64 st,.int .i64 un] w fun v w'=>v=.tuple #[.int .i64 (T.add pr ia ip fa fp st un).1.1,.int .i64 (T.add pr ia ip fa fp st un).1.2]∧Ext (· = g) w w'∧(eB bt g c (T.add pr ia ip fa fp st un).2).holds w':=by
 unfold aC.add;refine zN func176 ntmps176 ?_;have hS:=St.start w No;refine hS.new (fun b8 w' N0 hS=>?_);refine hS.new (fun b9 w' jl hS=>?_);refine hS.la 0 rfl (l:=[.int .i64 ia,.int .i64 ip]) rfl rfl ?_;refine hS.la 1 rfl (l:=[.int .i64 fa,.int .i64 fp]) rfl rfl ?_;refine hS.cn (Me pr ia ip fa fp (rp hT hS.ext)) fun w2 hS=>?_
 generalize T.find pr ia ip fa fp=k;apply aR<;>intro h1
 ·rw[if_pos h1];refine zE ?_;exact⟨rfl,hS.ext.aF,rp hT hS.ext⟩
 rw[if_neg h1];generalize IX:wh T pr fa fp 24 0=PP
 refine d5 aj (fun σ w' q=>∃i:Nat,σ=[(14,.int .i64 i),(9,.pointer (some ⟨b9,0,none⟩)),(8,.pointer (some ⟨b8,0,none⟩)),(5,.int .i64 un),(4,.int .i64 st),(1,.int .i64 pr),(0,.pointer (some ⟨bt,0,none⟩))]∧q=24-i∧i≤24 ∧
   St w No w' [blk b8 147 [.int .i64 ia,.int .i64 ip],blk b9 147 [.int .i64 fa,.int .i64 fp]]∧PP=wh T pr fa fp (24-i) i)
  (σ':=[(14,.int .i64 ((0:Nat):Int)),(9,.pointer (some ⟨b9,0,none⟩)),(8,.pointer (some ⟨b8,0,none⟩)),(5,.int .i64 un),(4,.int .i64 st),(1,.int .i64 pr),(0,.pointer (some ⟨bt,0,none⟩))]) (n:=24) zs ⟨0,rfl,rfl,Nat.zero_le _,hS,IX.symm⟩ ?_
 rintro _ w1 q ⟨i,rfl,rfl,hi,hS,hp⟩;apply aR<;>intro h3
 ·have tv:24-i=(24-(i+1))+1:=by omega
  rw[tv]at hp;unfold wh at hp;(conv=>whnf);refine hS.dr [] No [0,1,2,3,4,5,6,7,8,9,10] fun w1 hS=>?_
  repeat' ((conv=>whnf);first|apply aI.mk|refine bO.mk zd ?_|refine ag.mk zo zo ?_|refine ao.mk zo zo ?_|refine hS.cV (Qz hT) id id ?_|refine hS.xy 1 rfl (l:=[.int .i64 fa,.int .i64 fp]) rfl rfl id ?_|(first|apply aM|apply ca|apply cE|apply cD)<;>(intro))
  refine(L9 pr (T.au+i) fa fp (rp hT hS.ext)).mono ?_;rintro v w2 ⟨rfl,hx⟩;replace hS:=hS.no hx;refine ae.mk hx ?_;generalize T.back pr (T.au+i) fa fp=j at hp;apply aR<;>intro h4
  ·rw[if_pos h4]at hp;subst hp;have cj:=hT.1;have aQ:=Mx hT;(conv=>whnf)
   (refine ir aj mixed [] (fun b=>b=g) [0,1,2,3,4,5,6,7,8,9,10,11,12,13,14,15,16,17] zk ?_;rintro w1 rfl;replace hS:=hS.drew)
   repeat' ((conv=>whnf);first|apply aI.mk|refine bO.mk zd ?_|refine ag.mk zo zo ?_|refine ao.mk zo zo ?_|refine hS.cV (Qz hT) id cj ?_|refine hS.xy 0 rfl (l:=[.int .i64 ia,.int .i64 ip]) rfl rfl (show ¬b8=g by omega) ?_|refine hS.xy 1 rfl (l:=[.int .i64 fa,.int .i64 fp]) rfl rfl (show ¬b9=g by omega) ?_|(first|apply aM|apply ca|apply cE|apply cD)<;>(intro))
   refine(T9 ⟨pr,ia,ip,fa,fp,T.au+i,st,un⟩ (rp hT hS.ext) hO hn).mono ?_;rintro v w' ⟨rfl,hx,qS⟩;refine ae.mk hx ?_;refine zE ?_;rw[UB];exact⟨rfl,hS.ext.aF.trans hx,qS⟩
  ·rw[if_neg h4]at hp;refine ag.mk zo zo ?_;exact aD.mk ⟨_,[(14,.int .i64 ((i+1:Nat):Int)),(9,_),(8,_),(5,_),(4,_),(1,_),(0,_)],by omega,zs,⟨i+1,rfl,rfl,by omega,hS,hp⟩⟩
 ·obtain rfl:i=24:=by omega
  rw[show PP=none from hp];refine zE ?_;exact⟨rfl,hS.ext.aF,rp hT hS.ext⟩
theorem zwN (f:cI)(hT:(eB bt g c T).holds w){n:Nat}(hO:eo n T)(hn:n≤50000000) :
  aa prog 169 #[.pointer (some ⟨bt,0,none⟩),.agg (dW f).toArray] w fun v w'=>v=.tuple #[.int .i64 (T.put f).1.1,.int .i64 (T.put f).1.2]∧Ext (· = g) w w'∧(eB bt g c (T.put f).2).holds w':=by
 unfold aC.put;refine zN func169 ntmps169 ?_;have hS:=St.start w No;refine hS.new (fun bf w' rQ hS=>?_);repeat' first|refine zP ?_|refine hS.lD 0 ?_|refine hS.la 0 rfl (l:=[.int .i64 f.ia,.int .i64 f.ip]) rfl rfl ?_|refine hS.la 0 rfl (l:=[.int .i64 f.fa,.int .i64 f.fp]) rfl rfl ?_
 refine hS.cn (Me f.proto f.ia f.ip f.fa f.fp (rp hT hS.ext)) fun w2 hS=>?_
 generalize T.find f.proto f.ia f.ip f.fa f.fp=k
 have lay:∀(w3:World) (K:Value→World→Prop),Ext No w w3→(∀w',Ext (· = g) w w'→(eB bt g c (T.lay f).2).holds w'→K (.tuple #[.int .i64 (T.lay f).1.1,.int .i64 (T.lay f).1.2]) w')→aa prog 209 #[.pointer (some ⟨bt,0,none⟩),.agg (dW f).toArray] w3 K:=by
  intro w3 K hx hK;refine(T9 f (rp hT hx) hO hn).mono ?_;rintro v w' ⟨rfl,aU,qS⟩;rw[UB];exact hK w' (hx.aF.trans aU) qS
 apply aR<;>intro h1
 ·rw[if_pos (.inl h1)];refine zE ?_;exact⟨rfl,hS.ext.aF,rp hT hS.ext⟩
 repeat' first|refine zP ?_|refine hS.lD 0 ?_|refine hS.la 0 rfl (l:=[.int .i64 f.fa,.int .i64 f.fp]) rfl rfl ?_
 refine hS.cn (L9 f.proto f.port f.fa f.fp (rp hT hS.ext)) fun w2 hS=>?_
 generalize T.back f.proto f.port f.fa f.fp=j;apply aR<;>intro h2
 ·rw[if_pos (.inr h2)];refine zE ?_;exact⟨rfl,hS.ext.aF,rp hT hS.ext⟩
 rw[if_neg (by rintro(h|h);exact h1 h;exact h2 h)];refine hS.la 0 rfl (l:=dW f) rfl rfl ?_;refine lay _ _ hS.ext fun w' hx qS=>?_
 refine zE ?_;exact⟨rfl,hx,qS⟩
theorem Ps (k:Int)(hT:(eB bt g c T).holds w):aa prog 245 #[.pointer (some ⟨bt,0,none⟩),.int .i64 k] w fun v w'=>v=.int .i64 (T.aZ k)∧w=w':=by
 have hl:=(EF hT).len;unfold aC.aZ;refine zN func245 ntmps245 ?_;by_cases h:k<0∨32≤k
 ·rw[if_pos h];repeat' ((conv=>whnf);first|apply aI.mk|refine bO.mk zd ?_|refine ag.mk zo zo ?_|refine ao.mk zo zo ?_|refine g9 (m6 hT) ?_|(first|apply aM|apply ca|apply cE|apply cD)<;>(intro))
  all_goals first|exact⟨rfl,rfl⟩|(exfalso;omega)
 ·rw[if_neg h];obtain⟨x,hx⟩:∃x,T.cells[k.toNat]?=some x:=⟨_,List.getElem?_eq_getElem zo⟩;have hp:=(sg hT hx).one 2 rfl;rw[hx];repeat' ((conv=>whnf);first|apply aI.mk|refine bO.mk zd ?_|refine ag.mk zo zo ?_|refine ao.mk zo zo ?_|refine g9 (m6 hT) ?_|refine g9 (show w.cell? ⟨g,0+k.toNat*10+2+0,none⟩=_ by rw[Nat.zero_add];exact hp) ?_|(first|apply aM|apply ca|apply cE|apply cD)<;>(intro))
  all_goals first|(exfalso;omega)|skip
  all_goals refine⟨?_,rfl⟩
  all_goals simp_all
theorem zwP (k st un:Int)(hT:(eB bt g c T).holds w){n:Nat}(hO:eo n T)(hn:n≤50000000) :
  aa prog 212 #[.pointer (some ⟨bt,0,none⟩),.int .i64 k,.int .i64 st,.int .i64 un] w fun v w'=>v=.int .i64 (T.iJ k st un).1∧Ext (· = g) w w'∧(eB bt g c (T.iJ k st un).2).holds w':=by
 have hl:=hO.len
 have ez:T.aZ k=0→0≤k∧k<32:=by
  unfold aC.aZ;split
  ·intro h;cases h
  ·intro _;omega
 unfold aC.iJ;refine zN func212 ntmps212 ?_;have hS:=St.start w No;refine(Ps k hT).mono ?_;rintro v w2 ⟨rfl,rfl⟩;by_cases h:T.aZ k=0
 ·obtain⟨h0,h1⟩:=ez h;rw[if_neg (by simpa using h),h];obtain⟨x,hx⟩:∃x,T.cells[k.toNat]?=some x:=⟨_,List.getElem?_eq_getElem zo⟩;have rX:=hO.dF x (List.mem_of_getElem? hx);have jm:ik T k=x.f:=by unfold ik;rw[hx]
  rw[jm];refine hS.cK (m6 hT) id ?_;refine ao.mk zo zo ?_;refine hS.mV (l:=dW x.f) rfl (show aH w g (0+k.toNat*10+2) (dW x.f) by rw[Nat.zero_add];exact(sg hT hx).sub 2 (l':=dW x.f) rfl) id ?_;refine hS.new (fun Fp w' _ hS=>?_);refine hS.sT 0 fun w' hS=>?_
  refine hS.sT 0 fun w' hS=>?_
  refine hS.sT 0 fun w' hS=>?_
  refine hS.la 0 rfl (l:=dW { x.f with state:=st,i5:=un }) rfl rfl ?_;(conv=>whnf);have oS:k=(k.toNat:Int):=by omega
  have hc:=Lx k.toNat { x.f with state:=st,i5:=un } (rp hT hS.ext) hx (hO.slot _ x hx) zo;rw[←oS]at hc;refine hc.mono ?_;rintro v w' ⟨aU,qS⟩;refine zE ?_;exact⟨rfl,hS.ext.aF.trans aU,qS⟩
 ·rw[if_pos h];refine aM (fun h2=>?_) (fun _=>?_)
  ·exact absurd h2 zo
  refine zE ?_;exact⟨rfl,Ext.refl _ _,hT⟩
theorem Sq (k:Int)(hT:(eB bt g c T).holds w){n:Nat}(hO:eo n T)(hn:n≤50000000) :
  aa prog 208 #[.pointer (some ⟨bt,0,none⟩),.int .i64 k] w fun v w'=>v=.int .i64 (T.drop k).1∧Ext (· = g) w w'∧(eB bt g c (T.drop k).2).holds w':=by
 have hl:=hO.len
 have ez:T.aZ k=0→0≤k∧k<32:=by
  unfold aC.aZ;split
  ·intro h;cases h
  ·intro _;omega
 unfold aC.drop;refine zN func208 ntmps208 ?_;refine(Ps k hT).mono ?_;rintro v w2 ⟨rfl,rfl⟩;by_cases h:T.aZ k=0
 ·obtain⟨h0,h1⟩:=ez h;rw[if_neg (by simpa using h),h];obtain⟨x,hx⟩:∃x,T.cells[k.toNat]?=some x:=⟨_,List.getElem?_eq_getElem zo⟩;have rX:=hO.dF x (List.mem_of_getElem? hx);(conv=>whnf);have oS:k=(k.toNat:Int):=by omega
  have hc:=Lx k.toNat fN hT hx (hO.slot _ x hx) zo;rw[←oS]at hc;refine hc.mono ?_;rintro v w' ⟨aU,qS⟩;refine zE ?_;exact⟨rfl,aU,qS⟩
 ·rw[if_pos h];refine aM (fun h2=>?_) (fun _=>?_)
  ·exact absurd h2 zo
  refine zE ?_;exact⟨rfl,Ext.refl _ _,hT⟩
theorem zpg (now:Int)(hT:(eB bt g c T).holds w){m:Nat}(hO:eo m T)(De:m≤40000000) :
  aa prog 163 #[.pointer (some ⟨bt,0,none⟩),.int .i64 now] w fun v w'=>(∃a' c',v=.slice a' (lN now 32 T.cells).length c')∧Ext (fun b=>b=bt∨b=g) w w'∧(eB bt g c (T.expire now)).holds w'∧(az 3 1 eY v (lN now 32 T.cells)).holds w'∧m7 w w' v:=by
 have hl:=hO.len;obtain⟨l1,l2⟩:=Mx hT;refine zN func163 ntmps163 ?_;have hS:=(St.start w (fun b=>b=bt∨b=g)).add vM hT (by intro b hb;simp only[eB,List.mem_cons,List.not_mem_nil,or_false]at hb;rcases hb with rfl|rfl;exact⟨.inl (.inl rfl),l1⟩;exact⟨.inl (.inr rfl),l2⟩) zi;have hS:=hS.add (fq (e:=3) (enc:=eY) (sz:=1) (v:=.slice none 0 0) (xs:=[])) (sf _ _ _) (by simp[az,own,Value.ownBlock]) (by simp[az,own,Value.ownBlock])
 refine d5 aj (fun σ w' q=>∃(k:Nat) (v:Value),σ=[(6,.int .i64 k),(5,v),(1,.int .i64 now),(0,.pointer (some ⟨bt,0,none⟩))]∧q=32-k∧k≤32∧(∃a' c',v=.slice a' (lN now k T.cells).length c')∧St w (fun b=>b=bt∨b=g) w' [eB bt g c ⟨T.au,jQ now k T.cells⟩,az 3 1 eY v (lN now k T.cells)])
  (σ':=[(6,.int .i64 ((0:Nat):Int)),(5,.slice none 0 0),(1,.int .i64 now),(0,.pointer (some ⟨bt,0,none⟩))]) (n:=32) zs ⟨0,_,rfl,rfl,Nat.zero_le _,⟨none,0,rfl⟩,hS⟩ ?_
 rintro _ w1 q ⟨k,_,rfl,rfl,hk,⟨a',c',rfl⟩,hS⟩;refine g9 (m6 (hS.get 0 rfl)) ?_;apply aR<;>intro h3
 ·obtain⟨x,dB⟩:∃x,T.cells[k]?=some x:=⟨_,List.getElem?_eq_getElem zo⟩;have zw:=QH now k T.cells;have qj:=Qo (now:=now) dB;have fZ:=Po (now:=now) dB;have rR:=Qn (now:=now) dB;have sN:=hO.expire now k;have j5:=sg (hS.get 0 rfl) rR;have c2:w1.cell? ⟨g,0+Int.toNat (k:Int)*10+2+0,none⟩=some (.int .i64 x.f.proto):=by rw[Nat.zero_add];exact j5.one 2 rfl
  have c9:w1.cell? ⟨g,0+Int.toNat (k:Int)*10+2+7,none⟩=some (.int .i64 x.f.i5):=by rw[Nat.zero_add];exact j5.one 9 rfl
  by_cases hx:uT now x=true
  ·have h1:x.f.proto≠0∧x.f.i5≤now:=by simpa[uT]using hx
   rw[if_pos hx]at qj
   have hdr:(aC.mk T.au (jQ now k T.cells)).drop k=(0,⟨T.au,jQ now (k+1) T.cells⟩):=by
    have Ji:(aC.mk T.au (jQ now k T.cells)).aZ k=0:=by
     unfold aC.aZ;rw[if_neg zo];simp only[show((k:Int)).toNat=k by simp,rR];simp[h1.1]
    unfold aC.drop;rw[Ji,if_neg zi,show((k:Int)).toNat=k by simp];simp only[BN rR];rw[fZ,sk,if_pos hx]
   repeat' ((conv=>whnf);first|refine ao.mk zo zo ?_|refine g9 (m6 (hS.get 0 rfl)) ?_|refine g9 c2 ?_|refine g9 c9 ?_|refine ca (fun _=>?_) (fun h=>absurd h h1.1)|refine aM (fun _=>?_) (fun h=>absurd h1.2 h))
   refine(Sq (k:Int) (hS.get 0 rfl) sN zo).mono ?_;rw[hdr];rintro v w' ⟨rfl,aU,qS⟩;replace hS:=hS.upd 0 rfl aU (fun d hd=>by subst hd;simp[eB]) vM qS (fun d hd=>.inl hd);refine hS.lit (cs:=[.int .i64 k]) underlying25 (sz:=1) zk (z:=.int .i64 0) zk rfl rfl (by rfl) (fun bl w' gY hS=>?_);refine hS.d8 kU 1 (ys:=[(k:Int)]) (G:=fun _=>True) underlying25 (bytes:=8) zk (z:=.int .i64 0) zk rfl rfl (bQ.bG kU (hS.blk 2 rfl) rfl zi (fun _ _=>trivial) rfl) (by unfold maxLen;omega) zo (fun a2 c2 w' hS=>?_);replace hS:=hS.keep 2;rw[←qj]at hS;have ft:(lN now k T.cells).length+1=(lN now (k+1) T.cells).length:=by rw[qj];simp
   rw[ft]at hS ⊢;refine ag.mk zo zo ?_;refine aD.mk ⟨_,[(6,.int .i64 ((k+1:Nat):Int)),(5,_),(1,_),(0,_)],?_,zs,⟨k+1,_,rfl,rfl,by omega,⟨a2,c2,rfl⟩,hS⟩⟩;omega
  ·rw[if_neg hx,List.append_nil]at qj
   have yR:jQ now (k+1) T.cells=jQ now k T.cells:=by
    rw[fZ,sk,if_neg hx];obtain⟨lt,e⟩:=List.getElem?_eq_some_iff.1 rR;rw[←e];exact List.set_getElem_self lt
   have h1:x.f.proto≠0→¬x.f.i5≤now:=by
    intro a b;exact hx (by simp[uT,a,b])
   have cT:St w (fun b=>b=bt∨b=g) w1 [eB bt g c ⟨T.au,jQ now (k+1) T.cells⟩,az 3 1 eY (.slice a' (lN now k T.cells).length c') (lN now (k+1) T.cells)]:=by
    rw[yR,qj];exact hS
   repeat' ((conv=>whnf);first|refine ao.mk zo zo ?_|refine ag.mk zo zo ?_|refine g9 (m6 (hS.get 0 rfl)) ?_|refine g9 c2 ?_|refine g9 c9 ?_|refine ca (fun h4=>?_) (fun _=>?_)|refine aM (fun h=>absurd h (h1 h4)) (fun _=>?_))
   all_goals exact aD.mk ⟨_,[(6,.int .i64 ((k+1:Nat):Int)),(5,_),(1,_),(0,_)],by omega,zs,⟨k+1,_,rfl,rfl,by omega,⟨a',c',by rw[qj]⟩,cT⟩⟩
 ·obtain rfl:k=32:=by omega
  refine zE ?_;refine⟨⟨a',c',rfl⟩,hS.ext,hS.get 0 rfl,hS.get 1 rfl,fun q hq=>?_⟩;obtain⟨h1,h2⟩:=hS.may _ (List.mem_of_getElem? (i:=1) rfl) q (by simpa[az,own]using hq);refine⟨h1.resolve_left ?_,h2⟩;intro h;have:=mj m4 hS.apart (i:=0) (j:=1) rfl rfl zd q (by simp only[eB,List.mem_cons,List.not_mem_nil,or_false];exact h);exact this (by simpa[az,own]using hq)
theorem ZB (nd:Int)(h:nd=0∨nd=1)(w:World) :
  aa prog 44 #[.int .i64 nd] w fun v w'=>∃bt g c,v=.pointer (some ⟨bt,0,none⟩)∧Ext No w w'∧(eB bt g c ⟨2000+nd*24,ay⟩).holds w'∧(∀b∈(eB bt g c ⟨2000+nd*24,ay⟩).aW,w.heap.size≤b∧b<w'.heap.size):=by
 refine zN func44 ntmps44 ?_;have hS:=St.start w No;refine ag.mk zo zo ?_;refine ag.mk zo zo ?_;refine(LL _).mono ?_;rintro v w' ⟨g,c,rfl,hx,hO,hF⟩;replace hS:=hS.qp hx hO hF;refine hS.new (fun bt w' gE hS=>?_);refine zE ?_;refine⟨bt,g,c,rfl,hS.ext,⟨?_,hS.get 1 rfl,hS.get 0 rfl⟩,?_⟩
 ·have:=mj m4 hS.apart (i:=1) (j:=0) rfl rfl zd bt (by simp[blk]);simpa[az,own,Value.ownBlock]using this
 ·intro b hb;simp only[eB,List.mem_cons,List.not_mem_nil,or_false]at hb;rcases hb with rfl|rfl
  ·have:=hS.may _ (List.mem_of_getElem? (i:=1) rfl) b (by simp[blk]);exact⟨this.1.resolve_left id,this.2⟩
  ·have:=hS.may _ (List.mem_of_getElem? (i:=0) rfl) b (by simp[az,own,Value.ownBlock]);exact⟨this.1.resolve_left id,this.2⟩
theorem ZT {G:Int→Prop}{b:Option Addr}{m d:Nat}{xs ys:List Int}(hx:bQ w 1 eY G a n xs)(hy:bQ w 1 eY G b m ys) :
  aa prog 12 #[.slice a n c,.slice b m d] w fun v w'=>v=.bool (decide (xs=ys))∧Ext No w w':=by
 have hm:=hx.max;have hl:=hx.len;have ft:=hy.len;refine zN func12 ntmps12 ?_;have hS:=St.start w No;(conv=>whnf);refine ca (fun h1=>?_) (fun h1=>?_)
 ·repeat' ((conv=>whnf);first|apply aI.mk|refine bO.mk zd ?_|refine ag.mk zo zo ?_|refine ao.mk zo zo ?_|(first|apply aM|apply ca|apply cE|apply cD)<;>(intro))
  refine⟨?_,hS.ext⟩;have:xs≠ys:=fun e=>h1 (by rw[←hl,←ft,e])
  simp[this]
 have pG:n=m:=by omega
 subst pG
 refine d5 aj (fun σ w' q=>∃k:Nat,σ=[(5,.int .i64 k),(1,.slice b n d),(0,.slice a n c)]∧q=n-k∧k≤n∧St w No w' []∧xs.take k=ys.take k)
  (σ':=[(5,.int .i64 ((0:Nat):Int)),(1,.slice b n d),(0,.slice a n c)]) (n:=n) zs ⟨0,rfl,rfl,Nat.zero_le _,hS,rfl⟩ ?_
 rintro _ w1 q ⟨k,rfl,rfl,hk,hS,hi⟩;refine aM (fun h3=>?_) (fun h3=>?_)
 ·obtain⟨b0,o0,x,dB,_,rfl,_,hc⟩:=hx.at (k:=k) zo;obtain⟨b1,o1,y,FY,_,rfl,_,hd⟩:=hy.at (k:=k) zo;repeat' ((conv=>whnf);first|apply aI.mk|refine bO.mk zd ?_|refine ag.mk zo zo ?_|refine ao.mk zo zo ?_|(refine ir aj mixed [] No [0,1,2,3,4,5,6,7,8] zk ?_;rintro w1 rfl;replace hS:=hS.drew)|refine hS.cV (hc.one 0 rfl) id id ?_|refine hS.cV (hd.one 0 rfl) id id ?_|(first|apply aM|apply ca|apply cE|apply cD)<;>(intro))
  ·rename_i h4;refine⟨?_,hS.ext⟩;have:xs≠ys:=fun e=>h4 (by subst e;exact Option.some.inj (dB.symm.trans FY))
   simp[this]
  ·rename_i h4;refine aD.mk ⟨_,[(5,.int .i64 ((k+1:Nat):Int)),(1,_),(0,_)],?_,zs,⟨k+1,rfl,rfl,by omega,hS,Zc dB FY hi h4⟩⟩;omega
 ·refine zE ?_;have:k=n:=by omega
  subst this;rw[List.take_of_length_le zo,List.take_of_length_le zo]at hi;exact⟨by simp[hi],hS.ext⟩
end
end
end Go.Proofs.YtggfpjldhglmeaaGreatDoor