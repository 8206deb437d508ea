import Derived.Test.YtbhfokahocgndabGreatPvN
import Derived.Laws.Externs
import Derived.KernelRfl
/- Contracts of functions: configurations, delays. -/
set_option linter.unusedSimpArgs false
set_option linter.unusedVariables false
namespace Go.Proofs
open Go.Pv
set_option maxRecDepth 100000
noncomputable abbrev band (a b:Int):Int:=iand .i64 a b
noncomputable abbrev bor (a b:Int):Int:=ior .i64 a b
abbrev shr (a b:Int):Int:=ishr .i64 a b
noncomputable def bitB (b i:Int):Bool:=decide (0≤i) && decide (i < 7) && (band (shr b i) 1 == 1)
theorem c_bit (b i:Int):Ctr Tryz.prog 178 [iv b,iv i] (bv (bitB b i)) []:=by
 refine zca mixed Tryz.func178 rfl (by kernel_rfl) (by kernel_rfl) ?_
 conv=>whnf
 repeat' (first
  | (refine zmt (fun h=>?_) (fun h=>?_)<;>conv=>whnf)
  | (refine And.intro (And.intro (by first | decide | omega) (by first | decide | omega)) ?_;conv=>whnf))
 all_goals (refine zab rfl ?_;simp [bitB, *];try rfl)
def zap (n lo hi:Int):Bool:=decide (lo≤n) && decide (n≤hi)
theorem zqj (n lo hi:Int):Ctr Tryz.prog 73 [iv n,iv lo,iv hi] (bv (zap n lo hi)) []:=by
 refine zca mixed Tryz.func73 rfl (by kernel_rfl) (by kernel_rfl) ?_
 conv=>whnf
 repeat' (first
  | (refine zmt (fun h=>?_) (fun h=>?_)<;>conv=>whnf))
 all_goals (refine zab rfl ?_;simp [zap, *])
theorem zcc (i:Int):Ctr Tryz.prog 57 [iv i] (bv (zap i 0 6)) []:=by
 refine zca mixed Tryz.func57 rfl (by kernel_rfl) (by kernel_rfl) ?_
 conv=>whnf
 refine Exists.intro none ?_;(conv=>whnf);refine zaa (zqj _ _ _) ?_
 conv=>whnf
 exact zab rfl rfl
theorem c_Bits (i:Int):Ctr Tryz.prog 29 [iv i] (bv (zap i 0 127)) []:=by
 refine zca mixed Tryz.func29 rfl (by kernel_rfl) (by kernel_rfl) ?_
 conv=>whnf
 refine Exists.intro none ?_;(conv=>whnf);refine zaa (zqj _ _ _) ?_
 conv=>whnf
 exact zab rfl rfl
noncomputable def hasB (b i:Int):Bool:=band (shr b (IntKind.u64.wrap i)) 1 == 1
theorem zeq (i:Int):0≤IntKind.u64.wrap i:=by
 simp [IntKind.wrap,IntKind.signed,IntKind.bits];omega
theorem c_Has (b i:Int):Ctr Tryz.prog 56 [iv b,iv i] (bv (hasB b i)) []:=by
 refine zca mixed Tryz.func56 rfl (by kernel_rfl) (by kernel_rfl) ?_
 conv=>whnf
 refine ⟨⟨by decide,zeq _⟩,?_⟩
 conv=>whnf
 exact zab rfl rfl
noncomputable def delay (c:Conf) (i:Int):Int:=if bitB c.full i then IntKind.i64.wrap (6+IntKind.i64.wrap (2 * i)) else if bitB c.wit i then IntKind.i64.wrap (6+IntKind.i64.wrap (2 * IntKind.i64.wrap (7+i))) else 0
theorem zjx (c:Conf) (i:Int):Ctr Tryz.prog 122 [.ag c.enc,iv i] (iv (delay c i)) []:=by
 refine zca mixed Tryz.func122 rfl (by kernel_rfl) (by kernel_rfl) ?_
 conv=>whnf
 repeat' (first
  | (refine Exists.intro none ?_;(conv=>whnf);refine zaa (c_bit _ _) ?_;conv=>whnf)
  | (refine zcn (fun h=>?_) (fun h=>?_)<;>conv=>whnf))
 all_goals (refine zab rfl ?_;simp [delay, *])
noncomputable def confB (c:Conf):Bool :=
 zap c.full 0 127 && (zap c.wit 0 127 && (zap c.learn 0 127 && (zap c.lwit 0 127 && (c.full != 0 && (band c.full c.wit == 0 && (band (bor c.full c.wit) c.learn == 0 && band (bor (bor c.full c.wit) c.learn) c.lwit == 0))))))
set_option maxHeartbeats 1000000 in
theorem zhx (c:Conf):Ctr Tryz.prog 8 [.ag c.enc] (bv (confB c)) []:=by
 refine zca mixed Tryz.func8 rfl (by kernel_rfl) (by kernel_rfl) ?_
 conv=>whnf
 repeat' (first
  | (refine Exists.intro none ?_;(conv=>whnf);refine zaa (c_Bits _) ?_;conv=>whnf)
  | (refine zut (fun h=>?_) (fun h=>?_)<;>conv=>whnf)
  | (refine zun (fun h=>?_) (fun h=>?_)<;>conv=>whnf)
  | (refine zcn (fun h=>?_) (fun h=>?_)<;>conv=>whnf))
 all_goals (refine zab rfl ?_;simp [confB, *])
def sE:ByteArray:=⟨#[]⟩
def sFull:ByteArray:=⟨#[102,117,108,108]⟩
def sWit:ByteArray:=⟨#[119,105,116]⟩
def zjd:ByteArray:=⟨#[108,101,97,114,110]⟩
def sLwit:ByteArray:=⟨#[108,101,97,114,110,119,105,116]⟩
noncomputable def kind (c:Conf) (i:Int):ByteArray :=
 if zap i 0 6 then (if hasB c.full i then sFull else if hasB c.wit i then sWit else if hasB c.learn i then zjd else if hasB c.lwit i then sLwit else sE) else sE
theorem zl8 (c:Conf) (i:Int):Ctr Tryz.prog 19 [.ag c.enc,iv i] (sv (kind c i)) []:=by
 refine zca mixed Tryz.func19 rfl (by kernel_rfl) (by kernel_rfl) ?_
 conv=>whnf
 repeat' (first
  | (refine Exists.intro none ?_;(conv=>whnf);refine zaa (zcc _) ?_;conv=>whnf)
  | (refine Exists.intro none ?_;(conv=>whnf);refine zaa (c_Has _ _) ?_;conv=>whnf)
  | (refine zvn (fun h=>?_) (fun h=>?_)<;>conv=>whnf)
  | (refine zcn (fun h=>?_) (fun h=>?_)<;>conv=>whnf))
 all_goals (refine zab rfl ?_;simp [kind,sFull,sWit,zjd,sLwit,sE, *])
theorem zal {n:Int} (h1:-9223372036854775808≤n) (h2:n < 9223372036854775808):IntKind.i64.wrap n=n:=by
 simp [IntKind.wrap,IntKind.signed,IntKind.bits];omega
theorem zb4 {n:Int} (h1:0≤n) (h2:n < 18446744073709551616):IntKind.u64.wrap n=n:=by
 simp [IntKind.wrap,IntKind.signed,IntKind.bits];omega
theorem zhw {b i:Int} (h:zap i 0 6=true):hasB b i=bitB b i:=by
 simp [zap] at h
 simp [hasB,bitB,zb4 (n:=i) (by omega) (by omega)]
 intro _;omega
theorem zl0 {b i:Int} (h:zap i 0 6=false):bitB b i=false:=by
 simp [zap] at h
 simp [bitB];intro a c;omega
theorem zov (c:Conf) (i:Int):kind c i=if bitB c.full i then sFull else if bitB c.wit i then sWit else if bitB c.learn i then zjd else if bitB c.lwit i then sLwit else sE:=by
 unfold kind
 cases h:zap i 0 6
 ·simp [zl0 h]
 ·simp [zhw h]
theorem zny (c:Conf) (i:Int):((kind c i).toList == (ByteArray.mk #[102,117,108,108]).toList)=bitB c.full i:=by
 rw [zov]
 cases bitB c.full i<;>cases bitB c.wit i<;>cases bitB c.learn i<;>cases bitB c.lwit i<;>decide +kernel
theorem zxu (c:Conf) (i:Int):((kind c i).toList == (ByteArray.mk #[119,105,116]).toList)=(!bitB c.full i && bitB c.wit i):=by
 rw [zov]
 cases bitB c.full i<;>cases bitB c.wit i<;>cases bitB c.learn i<;>cases bitB c.lwit i<;>decide +kernel
abbrev w64 (n:Int):Int:=IntKind.i64.wrap n
noncomputable abbrev bandn (a b:Int):Int:=iandn .i64 a b
abbrev shl (a b:Int):Int:=ishl .i64 a b
def tb (a:Int) (i:Nat):Bool:=(BitVec.ofInt 64 a).getLsbD i
theorem zmn (n:Int):IntKind.i64.wrap n=if n % 18446744073709551616 < 9223372036854775808 then n % 18446744073709551616 else n % 18446744073709551616 - 18446744073709551616:=by
 simp only [IntKind.wrap,IntKind.signed,IntKind.bits]
 simp
 split<;>split<;>omega
theorem zmi (n:Int):isI (IntKind.i64.wrap n):=by
 rw [zmn];unfold isI;split<;>omega
theorem zhn (x:BitVec 64):BitVec.ofInt 64 (IntKind.i64.wrap (x.toNat:Int))=x:=by
 have h:IntKind.i64.wrap (x.toNat:Int)=x.toInt:=by
  rw [BitVec.toInt_eq_toNat_bmod]
  rw [zmn]
  have:=x.isLt
  simp only [Int.bmod]
  split<;>split<;>omega
 rw [h,BitVec.ofInt_toInt]
theorem zee (a b:Int) (i:Nat):tb (band a b) i=(tb a i && tb b i):=by
 unfold tb
 rw [band,zey]
 rw [show IntKind.i64.bits=64 from rfl,zhn]
 simp
theorem tb_or (a b:Int) (i:Nat):tb (bor a b) i=(tb a i || tb b i):=by
 unfold tb
 rw [bor,zhf]
 rw [show IntKind.i64.bits=64 from rfl,zhn]
 simp
theorem zu4 (a b:Int) (i:Nat) (h:i < 64):tb (bandn a b) i=(tb a i && !tb b i):=by
 unfold tb
 rw [bandn,zlf]
 rw [show IntKind.i64.bits=64 from rfl,zhn]
 simp [h]
theorem zh9 (n i:Nat) (h:n < 2 ^ 64):tb (n:Int) i=n.testBit i:=by
 unfold tb
 rw [show (BitVec.ofInt 64 (n:Int))=BitVec.ofNat 64 n from by simp]
 simp only [BitVec.getLsbD_ofNat]
 by_cases hi:i < 64
 ·simp [hi]
 ·simp only [hi,decide_false,Bool.false_and]
  symm
  apply Nat.testBit_lt_two_pow
  exact Nat.lt_of_lt_of_le h (Nat.pow_le_pow_right (by omega) (by omega))
theorem tb_eq (a:Int) (i:Nat) (hi:i < 64):tb a i=decide (a / 2 ^ i % 2=1):=by
 unfold tb
 rw [BitVec.getLsbD,BitVec.toNat_ofInt,Nat.testBit_eq_decide_div_mod_eq]
 have h0:0≤a % 2 ^ 64:=Int.emod_nonneg _ (by decide)
 have e1:(((a % ((2 ^ 64:Nat):Int)).toNat / 2 ^ i % 2:Nat):Int)=(a % 2 ^ 64) / 2 ^ i % 2:=by
  rw [Int.natCast_emod,Int.natCast_ediv,Int.toNat_of_nonneg (by exact h0),Int.natCast_pow]
  rfl
 have e2:(a % 2 ^ 64) / 2 ^ i % 2=a / 2 ^ i % 2:=by
  obtain ⟨k,hk⟩:∃ k,64=i+1+k:=⟨63 - i,by omega⟩
  have hp:(2:Int) ^ 64=2 ^ i * (2 * 2 ^ k):=by rw [hk,Int.pow_add,Int.pow_add];simp [Int.mul_assoc]
  have hpos:(0:Int) < 2 ^ i:=Int.pow_pos (by decide)
  have hd:a % 2 ^ 64=a - 2 ^ i * (2 * 2 ^ k * (a / 2 ^ 64)):=by
   rw [Int.emod_def,hp]
   simp [Int.mul_assoc]
  rw [hd,show a - 2 ^ i * (2 * 2 ^ k * (a / 2 ^ 64))=a+2 ^ i * (-(2 * 2 ^ k * (a / 2 ^ 64))) by simp [Int.mul_neg,Int.sub_eq_add_neg],Int.add_mul_ediv_left _ _ (by omega)]
  rw [show (2:Int) * 2 ^ k * (a / 2 ^ 64)=2 * (2 ^ k * (a / 2 ^ 64)) by simp [Int.mul_assoc]]
  omega
 have e3:=e1.trans e2
 generalize (a % ((2 ^ 64:Nat):Int)).toNat / 2 ^ i % 2=m at e3
 rw [← e3]
 by_cases hx:m=1
 ·subst hx;rfl
 ·rw [decide_eq_false hx,decide_eq_false (by omega)]
def nb (b:Bool):Int:=if b then 1 else 0
theorem zrj (b:Bool):nb b=0∨nb b=1:=by cases b<;>simp [nb]
@[simp] theorem nb_true:nb true=1:=rfl
@[simp] theorem nb_false:nb false=0:=rfl
theorem zxr (a:Int):band a 1=nb (tb a 0):=by
 have h:=tb_eq a 0 (by decide)
 rw [band,zey]
 have e:(BitVec.ofInt 64 a &&& BitVec.ofInt 64 1)=if tb a 0 then 1#64 else 0#64:=by
  apply BitVec.eq_of_getLsbD_eq
  intro i hi
  simp only [BitVec.getLsbD_and]
  have h1:(BitVec.ofInt 64 1).getLsbD i=decide (i=0):=by
   rw [show BitVec.ofInt 64 1=1#64 from by decide];simp [BitVec.getLsbD_one]
  rw [h1]
  by_cases h0:i=0
  ·subst h0
   show (tb a 0 && true)=_
   cases tb a 0<;>simp
  ·cases tb a 0<;>simp [h0]
 rw [show IntKind.i64.bits=64 from rfl,e]
 cases tb a 0<;>rfl
theorem zel (a:Int) (i:Nat) (hi:i < 64):band (shr a i) 1=nb (tb a i):=by
 rw [zxr]
 congr 1
 unfold shr ishr
 rw [tb_eq _ 0 (by decide),tb_eq a i hi]
 rw [show IntKind.i64.bits=64 from rfl,show min ((i:Int)).toNat 64=i by omega]
 rw [Int.fdiv_eq_ediv_of_nonneg _ (Int.pow_nonneg (by decide))]
 simp
theorem zgd (i:Nat) (hi:i < 63):shl 1 i=((2 ^ i:Nat):Int):=by
 unfold shl ishl
 rw [show IntKind.i64.bits=64 from rfl,show min ((i:Int)).toNat 64=i by omega]
 have h:(2:Nat) ^ i < 2 ^ 63:=Nat.pow_lt_pow_right (by decide) hi
 have e:(1:Int) * 2 ^ i=((2 ^ i:Nat):Int):=by simp
 rw [e]
 generalize (2:Nat) ^ i=m at h
 exact zal (by omega) (by omega)
theorem zga (i j:Nat) (hi:i < 63):tb (shl 1 i) j=decide (i=j):=by
 rw [zgd i hi,zh9 _ _ (Nat.pow_lt_pow_right (by decide) (by omega)),Nat.testBit_two_pow]
theorem zet (i:Nat):tb 0 i=false:=by simp [tb]
def Bits7 (a:Int):Prop:=0≤a∧a≤127
theorem zhi {a:Int} (h:Bits7 a) {i:Nat} (hi:7≤i):tb a i=false:=by
 obtain ⟨n,rfl⟩:=Int.eq_ofNat_of_zero_le h.1
 have hn:n < 2 ^ 7:=by have:=h.2;omega
 rw [zh9 _ _ (Nat.lt_trans hn (by decide))]
 exact Nat.testBit_lt_two_pow (Nat.lt_of_lt_of_le hn (Nat.pow_le_pow_right (by decide) hi))
theorem ext64 {a b:Int} (ha:isI a) (hb:isI b) (h:∀ i,i < 64→tb a i=tb b i):a=b:=by
 have e:BitVec.ofInt 64 a=BitVec.ofInt 64 b:=BitVec.eq_of_getLsbD_eq fun i hi=>h i hi
 have:=congrArg BitVec.toInt e
 unfold isI at ha hb
 rw [BitVec.toInt_ofInt,BitVec.toInt_ofInt] at this
 simp only [Int.bmod] at this
 split at this<;>split at this<;>omega
theorem zdz (a b:Int):isI (band a b):=by
 rw [band,zey]
 exact zmi _
theorem zwg (a b:Int):isI (bor a b):=by
 rw [bor,zhf]
 exact zmi _
theorem zt8 (a b:Int):isI (bandn a b):=by
 rw [bandn,zlf]
 exact zmi _
theorem Bits7.isI {a:Int} (h:Bits7 a):isI a:=by unfold Proofs.isI;unfold Bits7 at h;omega
theorem zlg {a:Int} (ha:isI a) (h:∀ i,7≤i→i < 64→tb a i=false):Bits7 a:=by
 have e:BitVec.ofInt 64 a &&& 127#64=BitVec.ofInt 64 a:=by
  apply BitVec.eq_of_getLsbD_eq
  intro i hi
  simp only [BitVec.getLsbD_and]
  by_cases h7:i < 7
  ·have : (127#64).getLsbD i = true := by
     rcases i with _ | _ | _ | _ | _ | _ | _ | i<;>first | rfl | omega
   simp [this]
  ·have:=h i (by omega) hi
   unfold tb at this
   simp [this]
 have h2:=congrArg BitVec.toNat e
 rw [BitVec.toNat_and,BitVec.toNat_ofInt] at h2
 have h3:(a % ((2 ^ 64:Nat):Int)).toNat≤127:=by
  rw [← h2];exact Nat.and_le_right
 unfold isI at ha
 unfold Bits7
 omega
theorem ext7 {a b:Int} (ha:Bits7 a) (hb:Bits7 b) (h:∀ i,i < 7→tb a i=tb b i):a=b :=
 ext64 ha.isI hb.isI fun i _=>if h7:i < 7 then h i h7 else by rw [zhi ha (by omega),zhi hb (by omega)]
theorem ext0 {a:Int} (ha:isI a) (h:∀ i,i < 64→tb a i=false):a=0:=ext64 ha (by unfold isI;omega) fun i hi=>by rw [h i hi,zet]
theorem eq0_iff {a:Int} (ha:isI a):a=0 ↔ ∀ i,i < 64→tb a i=false:=⟨fun h=>by subst h;exact fun i _=>zet i,ext0 ha⟩
theorem zlv {a b:Int} (ha:Bits7 a) (hb:Bits7 b):Bits7 (bor a b):=zlg (zwg _ _) fun i h7 _=>by rw [tb_or,zhi ha h7,zhi hb h7];rfl
theorem zky {a b:Int} (ha:Bits7 a):Bits7 (bandn a b):=zlg (zt8 _ _) fun i h7 h=>by rw [zu4 _ _ _ h,zhi ha h7];rfl
theorem tb_127 (i:Nat):tb 127 i=decide (i < 7):=by
 by_cases h:i < 7
 ·rcases i with _ | _ | _ | _ | _ | _ | _ | i<;>first | rfl | omega
 ·rw [zhi (by unfold Bits7;omega) (by omega)];simp [h]
theorem zbn {α:Type}{f:α→List PV}{l:List α}{i:Nat} (h:i < l.length):(l.map f)[((i:Nat):Int).toNat]?=some (f (l[i]'h)):=by
 simp [h]
def zdl (c:VCmd):Bool:=decide (2000 < (c.key.size:Int)) || (decide (2000 < (c.old.text.size:Int)) || decide (2000 < (c.val.text.size:Int)))
theorem zko (c:VCmd):Ctr Tryz.prog 9 [.ag c.enc] (bv (zdl c)) []:=by
 refine sBody Tryz.func9 ?_;conv=>whnf
 repeat' (refine tSp (fun h=>?_) (fun h=>?_)<;>conv=>whnf)
 all_goals (refine zab rfl ?_;simp [zdl, *])
theorem any_at {α:Type}{p:α→Bool}{l:List α}{i:Nat} (h:i < l.length) (hp:p (l[i]'h)=true):l.any p=true:=by
 rw [List.any_eq_true];exact ⟨_,List.getElem_mem h,hp⟩
theorem zz0 {α:Type}{p:α→Bool}{l:List α} (h:∀ j (hj:j < l.length),p (l[j]'hj)=false):l.any p=false:=by
 rw [List.any_eq_false]
 intro x hx
 obtain ⟨j,hj,rfl⟩:=List.getElem_of_mem hx
 simp [h j hj]
theorem w1 {i:Nat} (h:(i:Int) < 9223372036854775807):IntKind.i64.wrap ((i:Int)+1)=((i+1:Nat):Int):=by
 rw [zal (by omega) (by omega)];rfl
noncomputable def Mg.inn (m:Mg):List Mg:=Classical.epsilon fun zs:List Mg=>m.inner=zs.map Mg.enc∧∀ z ∈ zs,z.ok
end Go.Proofs
namespace Go.Pv
theorem HRel.born {w0 : World} {X : Nat → Prop} {S0 : Base} {M : Mem} {B : BMap} {O : OMap} {w : World} (h : HRel w0 X S0 M B O w) (key sz : Nat) (hk : O key = none) :
    ∃ M',HRel w0 X S0 M' B (upd O [(key,some (false,sz,[]))]) w∧M.Le M' w w∧∃ L,M'.ob key=some L∧L.nil=true:=by
 have hM:M.ob key=none:=by
  cases e:M.ob key with
  | none=>rfl
  | some L =>
   obtain ⟨o,ho⟩:=h.objKey key L e
   rw [hk] at ho;cases ho
 refine ⟨⟨M.st,M.bx,fun k=>if k=key then some ⟨0,sz,0,true⟩ else M.ob k⟩,?_,⟨fun _ h=>h,fun _ _ h=>h,?_,fun _ _=>rfl⟩,⟨0,sz,0,true⟩,by simp,rfl⟩
 ·have hle : M.Le ⟨M.st, M.bx, fun k => if k = key then some ⟨0, sz, 0, true⟩ else M.ob k⟩ w w := ⟨fun _ h => h, fun _ _ h => h, fun k L hkL => by
    show (if k=key then _ else _)=_
    rw [if_neg (fun e=>by rw [e,hM] at hkL;cases hkL)];exact hkL,fun _ _=>rfl⟩
  refine ⟨h.os,h.tape,h.out,h.size,h.kept,h.stlt,h.stok,?_,h.boxKey,?_,?_,h.boxNe,?_,?_,h.pinB,?_⟩
  ·intro k ls hb
   obtain ⟨b,T,cs,h1,h2,h3,h4⟩:=h.box k ls hb
   exact ⟨b,T,cs,h1,h2,h3,RVL.mono hle _ _ h4⟩
  ·intro k fz s rows ho
   rw [zbg] at ho
   by_cases e:k=key
   ·subst e
    rw [if_pos rfl] at ho
    cases ho
    exact ⟨⟨0,sz,0,true⟩,by simp,rfl,.inl ⟨rfl,rfl⟩⟩
   ·rw [if_neg e] at ho
    obtain ⟨L,h1,h2,h3⟩:=h.obj k fz s rows ho
    exact ⟨L,by simp [e,h1],h2,h3⟩
  ·intro k L hL
   rw [zbg]
   by_cases e:k=key
   ·rw [if_pos e];exact ⟨_,rfl⟩
   ·rw [if_neg e]
    have hL':M.ob k=some L:=by simpa [e] using hL
    exact h.objKey k L hL'
  ·intro k k' o o' L L' ho ho' hL hL' hn hn'
   rw [zbg] at ho ho'
   by_cases e:k=key
   ·subst e
    simp at hL
    subst hL
    cases hn
   ·by_cases e':k'=key
    ·subst e'
     simp at hL'
     subst hL'
     cases hn'
    ·rw [if_neg e] at ho
     rw [if_neg e'] at ho'
     exact h.objNe k k' o o' L L' ho ho' (by simpa [e] using hL) (by simpa [e'] using hL') hn hn'
  ·intro k k' b o L hb ho hL hn
   rw [zbg] at ho
   by_cases e':k'=key
   ·subst e'
    simp at hL
    subst hL
    cases hn
   ·rw [if_neg e'] at ho
    exact h.boxObj k k' b o L hb ho (by simpa [e'] using hL) hn
  ·intro k L hp
   have:=h.pinO k L hp
   exact hle.ob k L this
 ·intro k L hkL
  show (if k=key then _ else _)=_
  rw [if_neg (fun e=>by rw [e,hM] at hkL;cases hkL)];exact hkL
theorem zpw {P : Program} {code : Code} {Q : Exit → CSt → Prop} {tm : List PV} {bx : List (Nat × List PV)} {ob : List (Nat × Option (Bool × Nat × List (List PV)))} (s key sz : Nat) (hs : tm[s]? = some .nl) (hk : lkA ob key = none)
    (g:stK tm s (.ow key 0 0) fun tm'=>Tri P code Q ⟨tm',bx,(key,some (false,sz,[])) :: ob⟩):Tri P code Q ⟨tm,bx,ob⟩:=by
 rw [zh5] at g
 refine ⟨?_⟩
 intro w0 X S0 M a w hr
 obtain ⟨M',h1,hle,L,hL,hn⟩:=hr.toHRel.born key sz hk
 refine g.run w0 X S0 M' a w ⟨?_,hr.dfr,by simpa [CSt.st] using hr.len,?_⟩
 ·have e : lkA ((key, some (false, sz, [])) :: ob) = upd (lkA ob) [(key, some (false, sz, []))] := by
    funext k
    rw [zbg]
    by_cases hk:k=key
    ·subst hk;simp [lkA]
    ·rw [if_neg hk]
     simp only [lkA]
     rw [zbt (fun e=>hk e.symm)];rfl
  show HRel w0 X S0 M' (lkA bx) (lkA ((key,some (false,sz,[])) :: ob)) w
  rw [e]
  exact h1
 ·intro t
  have ht:=hr.tmp t
  show RV M' w ((tm.set s (.ow key 0 0)).getD t .bad) (a.tmps.getD t undef)
  by_cases e:s=t
  ·subst e
   have hlt:s < tm.length:=(List.getElem?_eq_some_iff.1 hs).1
   have e1:(tm.set s (.ow key 0 0)).getD s .bad=.ow key 0 0:=by
    rw [List.getD_eq_getElem?_getD,List.getElem?_set_self hlt];rfl
   have e2:tm.getD s .bad=.nl:=by rw [List.getD_eq_getElem?_getD,hs];rfl
   rw [e1]
   have ht':RV M w (tm.getD s .bad) (a.tmps.getD s undef):=ht
   rw [e2] at ht'
   simp only [RV] at ht' ⊢
   exact ⟨L,hL,.inl ⟨hn,rfl,ht'⟩⟩
  ·have e1 : (tm.set s (.ow key 0 0)).getD t .bad = tm.getD t .bad := by
     rw [List.getD_eq_getElem?_getD,List.getD_eq_getElem?_getD,List.getElem?_set_ne e]
   rw [e1]
   exact RV.mono hle _ _ ht
theorem ztz {P : Program} {code : Code} {Q : Exit → CSt → Prop} {tm : List PV} {bx : List (Nat × List PV)} {ob : List (Nat × Option (Bool × Nat × List (List PV)))} (k off key sz : Nat) (ls : List PV) (hb : lkA bx k = some ls) (hs : ls[off]? = some .nl) (hk : lkA ob key = none)
    (g:stK ls off (.ow key 0 0) fun ls'=>setK bx k ls' fun bx'=>Tri P code Q ⟨tm,bx',(key,some (false,sz,[])) :: ob⟩):Tri P code Q ⟨tm,bx,ob⟩:=by
 rw [zh5,zph] at g
 refine ⟨?_⟩
 intro w0 X S0 M a w hr
 obtain ⟨M',h1,hle,L,hL,hn⟩:=hr.toHRel.born key sz hk
 refine g.run w0 X S0 M' a w ⟨?_,hr.dfr,hr.len,fun t=>RV.mono hle _ _ (hr.tmp t)⟩
 have e:lkA ((key,some (false,sz,[])) :: ob)=upd (lkA ob) [(key,some (false,sz,[]))]:=by
  funext j
  rw [zbg]
  by_cases hk:j=key
  ·subst hk;simp [lkA]
  ·rw [if_neg hk]
   simp only [lkA]
   rw [zbt (fun e=>hk e.symm)];rfl
 show HRel w0 X S0 M' (lkA (setA bx k (ls.set off (.ow key 0 0)))) (lkA ((key,some (false,sz,[])) :: ob)) w
 rw [e]
 obtain ⟨b,T,cs,b1,b2,b3,b4⟩:=h1.box k ls hb
 refine ⟨h1.os,h1.tape,h1.out,h1.size,h1.kept,h1.stlt,h1.stok,?_,?_,h1.obj,h1.objKey,h1.boxNe,h1.objNe,h1.boxObj,h1.pinB,h1.pinO⟩
 ·intro j ms hj
  rw [zed] at hj
  by_cases ej:j=k
  ·subst ej
   rw [if_pos rfl] at hj
   cases hj
   refine ⟨b,T,cs,b1,b2,b3,?_⟩
   obtain ⟨c,hc,hv⟩:=b4.get off hs
   simp only [RV] at hv
   have hnew:RV M' w (.ow key 0 0) c:=by
    simp only [RV]
    exact ⟨L,hL,.inl ⟨hn,rfl,hv⟩⟩
   have key2:∀ (off:Nat) (ls:List PV) (cs:List Value),RVL M' w ls cs→cs[off]?=some c→RVL M' w (ls.set off (.ow key 0 0)) cs:=by
    intro off
    induction off with
    | zero =>
     intro ls cs h hc
     cases ls with
     | nil=>simpa using h
     | cons p ls =>
      simp only [RVL] at h
      obtain ⟨c',r,rfl,_,h2⟩:=h
      simp at hc
      subst hc
      simp only [List.set_cons_zero,RVL]
      exact ⟨_,r,rfl,hnew,h2⟩
    | succ off ih =>
     intro ls cs h hc
     cases ls with
     | nil=>simpa using h
     | cons p ls =>
      simp only [RVL] at h
      obtain ⟨c',r,rfl,h1,h2⟩:=h
      simp only [List.getElem?_cons_succ] at hc
      simp only [List.set_cons_succ,RVL]
      exact ⟨c',r,rfl,h1,ih ls r h2 hc⟩
   exact key2 off ls cs.toList b4 hc
  ·rw [if_neg ej] at hj
   exact h1.box j ms hj
 ·intro j b' hj
  rw [zed]
  by_cases ej:j=k
  ·exact ⟨_,if_pos ej⟩
  ·rw [if_neg ej];exact h1.boxKey j b' hj
theorem sub_nl {M:Mem}{w:World}{v:Value}{sz:Nat} (h:RV M w .nl v):RV M w (.sl sz []) v:=by
 simp only [RV] at h ⊢
 obtain ⟨a,rfl⟩:=h
 exact ⟨a,0,0,rfl,rfl,Nat.le_refl _,.inl trivial⟩
theorem zk1 {P : Program} {f : Nat} {fn : Func} {e : Array Value → Sem Value} {args : List PV} {r : Value} (hf : P.funcs[f]? = some fn) (hname : (fn.name == "runtime.NumGoroutine") = false) (hb : fn.body.isNone = true) (hn : Extern.findNext fn = none) (he : Extern.find fn = some e)
    (h:∀ (w:World) (M:Mem) (vs:List Value),RVL M w args vs→(e vs.toArray).run P w=.ok r w):Ctr P f args (.sc r) []:=by
 refine ⟨?_⟩
 intro w st vs hst hv
 right
 refine ⟨r,w,?_,r,zcb st,rfl,by simp [RV],?_⟩
 ·rw [run_callFunc_extern hf hname hb hn he,h w _ vs hv];rfl
 ·refine { os:=rfl,tape:=rfl,out:=rfl,size:=Nat.le_refl _,kept:=fun _ _ _=>rfl,stlt:=hst,stok:=fun b hb=>.inl hb,box:=?_,boxKey:=?_,obj:=?_,objKey:=?_,boxNe:=?_,objNe:=?_,boxObj:=?_,pinB:=?_,pinO:=?_ }
  ·intro k ls hk;cases hk
  ·intro k b hk;cases hk
  ·intro k a b c hk;simp [osMap] at hk
  ·intro k L hk;cases hk
  ·intro k k' b hk;cases hk
  ·intro k k' o o' L L' hk;simp [osMap] at hk
  ·intro k k' b o L hk;cases hk
  ·intro k b hk;cases hk
  ·intro k b hk;cases hk
theorem zbd {c:CSt}{p r:PV}{os:List (Nat×List (List PV))} (rn:List (Nat×Nat)) (h1:rnB rn ((osL 0 os).map (·.1))=true) (h2:wkOK rn c.ob [] (osL 0 os)) (h3:WkV [] rn [] p r):ExitOk c p r os:=by
 refine ⟨.inl ⟨[],rn,⟨by simp,?_,?_,?_⟩,h3⟩⟩
 ·intro k o hk
  rcases zfw h2 k o hk with e0 | ⟨k0,q,a,b,d,e⟩
  ·exact .inl e0
  ·exact .inr ⟨k0,q,a,b,d,by simp⟩
 ·intro k k0 hk
  simp only [rnB,Bool.and_eq_true,List.all_eq_true] at h1
  have:=h1.1 _ (zgg hk)
  simp only [List.any_eq_true] at this
  obtain ⟨j,hj,e⟩:=this
  have e:j=k:=by simpa using e
  subst e
  exact zhs hj
 ·intro k k' k0 hk hk'
  simp only [rnB,Bool.and_eq_true,List.all_eq_true] at h1
  have:=h1.2 _ (zgg hk) _ (zgg hk')
  simpa using this
theorem zag {kb:List Nat}{rn:List (Nat×Nat)}{fz:List (Nat×Bool×Nat×List (List PV))}{ps qs:List PV} (h:wkLK kb rn fz qs ps):WkV kb rn fz (.ag ps) (.ag qs):=by
 simp only [WkV];exact ⟨ps,rfl,zdg _ _ _ _ _ h⟩
theorem zah {kb:List Nat}{rn:List (Nat×Nat)}{fz:List (Nat×Bool×Nat×List (List PV))}{ps qs:List PV} (h:wkLK kb rn fz qs ps):WkV kb rn fz (.tu ps) (.tu qs):=by
 simp only [WkV];exact ⟨ps,rfl,zdg _ _ _ _ _ h⟩
theorem zan {kb:List Nat}{rn:List (Nat×Nat)}{fz:List (Nat×Bool×Nat×List (List PV))}{f:Nat}{ps qs:List PV} (h:wkLK kb rn fz qs ps):WkV kb rn fz (.cl f ps) (.cl f qs):=by
 simp only [WkV];exact ⟨ps,rfl,zdg _ _ _ _ _ h⟩
theorem zn8 {kb:List Nat}{rn:List (Nat×Nat)}{fz:List (Nat×Bool×Nat×List (List PV))}{sz:Nat}{rows:List (List PV)} (h:rows.all (kbOkL kb)=true):WkV kb rn fz (.ls sz rows) (.ls sz rows):=by
 simp only [WkV];exact ⟨trivial,h⟩
theorem zai {P:Program}{f:Nat}{ps qs:List PV}{r:PV}{os:List (Nat×List (List PV))}{K:PV→List (Nat×List (List PV))→Prop} (h:Ctr P f qs r os) (e:ps=qs) (k:K r os):∃ r os,Ctr P f ps r os∧K r os:=⟨r,os,e ▸ h,k⟩
def fzL (n:Nat):List (Nat×List (List PV))→List (Nat×Bool×Nat×List (List PV))
 | []=>[]
 | (sz,rows) :: os=>(n,false,sz,rows) :: fzL (n+1) os
theorem ztu:∀ {os:List (Nat×List (List PV))}{n:Nat}{q:Nat×Bool×Nat×List (List PV)},q ∈ fzL n os→n≤q.1∧os[q.1 - n]?=some q.2.2∧q.2.1=false
 | [],n,q,h=>by simp [fzL] at h
 | (sz,rows) :: os,n,q,h=>by
  simp only [fzL,List.mem_cons] at h
  rcases h with rfl | h
  ·simp
  ·obtain ⟨h1,h2,h3⟩:=ztu h
   refine ⟨by omega,?_,h3⟩
   rw [show q.1 - n=(q.1 - (n+1))+1 by omega];simpa using h2
theorem Ctr.frz {P:Program}{f:Nat}{args:List PV}{r r':PV}{os:List (Nat×List (List PV))} (h:Ctr P f args r os) (hw:WkV [] [] (fzL 0 os) r r'):Ctr P f args r' []:=by
 refine ⟨?_⟩
 intro w st vs hst hvs
 have key:∀ e w',(∃ v M',e=Ending.returned v∧RV M' w' r v∧HRel w (fun _=>False) (Base.of st) M' (fun _=>none) (osMap os) w')→∃ v M',e=Ending.returned v∧RV M' w' r' v∧HRel w (fun _=>False) (Base.of st) M' (fun _=>none) (osMap []) w':=by
  rintro e w' ⟨v,M',he,hv,hr⟩
  have e1:lkA (osL 0 os)=osMap os:=by
   funext k
   rw [zmk]
   simp only [Nat.zero_le,if_true,Nat.sub_zero,osMap]
   cases os[k]?<;>rfl
  have e2:(lkA ([]:List (Nat×List PV)))=fun _=>none:=by funext k;rfl
  rw [← e1,← e2] at hr
  obtain ⟨M1,hle,hF,hnew⟩:=HRel.ren (c:=⟨[],[],osL 0 os⟩) (fz:=fzL 0 os) (rn:=[]) (bx':=[]) (ob':=[]) hr (fun _ _ h=>by cases h) (fun _ _ h=>by cases h) ⟨(by
   intro q hq
   obtain ⟨h1,h2,h3⟩:=ztu hq
   show lkA (osL 0 os) q.1=_
   rw [zmk,if_pos h1,h2]
   simp only [Option.map_some,Option.some.injEq]
   rw [← h3]),by simp [lkA],by simp [lkA],by simp [lkA]⟩ (by simp [lkA])
  have e3:lkA ([]:List (Nat×Option (Bool×Nat×List (List PV))))=osMap []:=by funext k;simp [lkA,osMap]
  rw [e3,e2] at hnew
  exact ⟨v,_,he,WkV.sound hF _ _ _ hw (RV.mono hle _ _ hv),hnew⟩
 rcases h.run w st vs hst hvs with ⟨h1,h2⟩ | ⟨v,w',h1,h2⟩
 ·exact .inl ⟨h1,h2.mono fun e w'=>key e w'⟩
 ·exact .inr ⟨v,w',h1,key _ _ h2⟩
theorem Tri.wk {P:Program}{code:Code}{Q:Exit→CSt→Prop}{c c':CSt} (hw:Wk c c') (h:Tri P code Q c'):Tri P code Q c:=by
 refine ⟨?_⟩
 intro w0 X S0 M a w hr
 obtain ⟨M',hr'⟩:=hw w0 X S0 M a w hr
 exact h.run w0 X S0 M' a w hr'
theorem zro {c:CSt} (slot K sz:Nat) (hs:c.tm.getD slot .bad=.nl) (hK:lkA c.ob K=none):Wk c ⟨c.tm.set slot (.ow K 0 0),c.bx,(K,some (false,sz,[])) :: c.ob⟩:=by
 intro w0 X S0 M a w hr
 obtain ⟨M',hnew,hle,hob⟩:=hr.toHRel.addObj (k:=K) hK ⟨0,sz,0,true⟩ (rows:=[]) (.inl ⟨rfl,rfl⟩) (fun _ _ _ h=>by cases h) (fun _ _ _ _ _ _ h=>by cases h)
 have e:upd (lkA c.ob) [(K,some (false,sz,[]))]=lkA ((K,some (false,sz,[])) :: c.ob):=by
  funext j
  rw [zbg]
  simp only [lkA]
  by_cases ej:j=K
  ·subst ej;simp
  ·rw [if_neg ej,zbt (fun x=>ej x.symm)];rfl
 refine ⟨M',?_,hr.dfr,?_,?_⟩
 ·have h2:HRel w0 X S0 M' (lkA c.bx) (upd (lkA c.ob) [(K,some (false,sz,[]))]) w:=hnew
  rw [e] at h2
  exact h2
 ·have:=hr.len
  simpa [CSt.st] using this
 ·intro t
  have ht:=RV.mono hle _ _ (hr.tmp t)
  by_cases et:slot=t
  ·subst et
   have hs':c.st.tmps.getD slot .bad=.nl:=hs
   rw [hs'] at ht
   simp only [RV] at ht
   obtain ⟨ad,hv⟩:=ht
   by_cases hlt:slot < c.tm.length
   ·have e2:(c.tm.set slot (.ow K 0 0)).getD slot .bad=.ow K 0 0:=by simp [List.getD,hlt]
    show RV M' w ((c.tm.set slot (.ow K 0 0)).getD slot .bad) _
    rw [e2]
    simp only [RV]
    exact ⟨_,hob,.inl ⟨rfl,rfl,ad,hv⟩⟩
   ·rw [List.getD_eq_getElem?_getD,List.getElem?_eq_none (by omega)] at hs
    cases hs
  ·show RV M' w ((c.tm.set slot (.ow K 0 0)).getD t .bad) _
   rw [List.getD_eq_getElem?_getD,List.getElem?_set_ne et,← List.getD_eq_getElem?_getD]
   exact ht
theorem zgp {P:Program}{code:Code}{Q:Exit→CSt→Prop}{tm:List PV}{bx:List (Nat×List PV)}{ob:List (Nat×Option (Bool×Nat×List (List PV)))} (slot K sz:Nat) (hs:lkK .bad tm slot fun p=>p=.nl) (hK:lkA ob K=none) (h:stK tm slot (.ow K 0 0) fun tm'=>Tri P code Q ⟨tm',bx,(K,some (false,sz,[])) :: ob⟩):Tri P code Q ⟨tm,bx,ob⟩:=by
 rw [zkx] at hs
 rw [zh5] at h
 exact Tri.wk (zro slot K sz hs hK) h
theorem wk_w1 {i:Nat} (h:(i:Int) < 9223372036854775807):IntKind.i64.wrap ((i:Int)+1)=((i+1:Nat):Int):=by
 simp [IntKind.wrap,IntKind.signed,IntKind.bits]
 omega
theorem wk_obj {b:Bool}{sz sz':Nat}{r r':List (List PV)} (h:sz=sz') (h2:r=r'):(b,sz,r)=(b,sz',r'):=by subst h;subst h2;rfl
theorem wk_app {α:Type}{f:α→List PV}{l:List α}{n:Nat}{x:List PV} (hn:n=(l.map f).length) (y:α) (hx:x=f y):(l.map f).take n++[x]=(l++[y]).map f:=by
 subst hn;subst hx;simp [List.take_of_length_le]
theorem wkx {A C:Prop}{B:Nat×Bool×Nat×List (List PV)→Prop} (c:C) (a:A:=by with_unfolding_all rfl) (b:∀ q ∈ ([]:List (Nat×Bool×Nat×List (List PV))),B q:=by intro q h;cases h):(A∧∀ q ∈ ([]:List (Nat×Bool×Nat×List (List PV))),B q)∧C:=⟨⟨a,b⟩,c⟩
theorem wkc {p:Prop} (h:p:=by first | exact True.intro | with_reducible exact rfl | exact (rfl:List.replicate 0 PV.bad=[])):p:=h
theorem wks {p:Prop} (h:p:=by first | with_reducible exact zaj _ rfl | exact znz rfl rfl | exact zbj rfl rfl rfl | exact zn8 rfl):p:=h
theorem wko {kb:List Nat}{rn:List (Nat×Nat)}{fz:List (Nat×Bool×Nat×List (List PV))}{k k0 lo len lo' len':Nat} (e2:len=len') (h:lkA rn k=some k0:=by exact rfl) (e1:lo=lo':=by exact rfl):WkV kb rn fz (.ow k0 lo len) (.ow k lo' len'):=zbj h e1 e2
theorem wki {kb:List Nat}{rn:List (Nat×Nat)}{fz:List (Nat×Bool×Nat×List (List PV))}{a b:Int} (h:a=b):WkV kb rn fz (.sc (.int .i64 a)) (.sc (.int .i64 b)):=zf7 (congrArg (Value.int .i64) h)
theorem wkb {kb:List Nat}{rn:List (Nat×Nat)}{fz:List (Nat×Bool×Nat×List (List PV))}{a b:Bool} (h:a=b):WkV kb rn fz (.sc (.bool a)) (.sc (.bool b)):=zf7 (congrArg Value.bool h)
theorem agD {p:Prop} (h:p:=by (conv=>whnf);repeat' (first | exact rfl | ((with_reducible refine And.intro ?_ ?_)<;>(first | (with_reducible exact zaj _ rfl) | exact .inl rfl | (conv=>whnf))))):p:=h
theorem tNew0 {α:Type}{x:α}{A B C K:α→Prop} (k:K x) (a:A x:=by exact rfl) (b:B x:=by intro q _;simp only [List.length_nil];omega) (c:C x:=by intro i hi;exact absurd hi (Nat.not_lt_zero i)):∃ x,A x∧B x∧C x∧K x:=⟨x,a,b,c,k⟩
theorem tOwn0 {A B:Prop} (b:B) (a:A:=by first | with_reducible exact Nat.le_of_eq (Nat.zero_add _) | (simp only [List.length_map,List.length_set,Nat.zero_add];omega)):A∧B:=⟨a,b⟩
theorem wkD {p:Prop} (h:p:=by (refine And.intro (And.intro (by with_unfolding_all rfl) (by intro q h;cases h)) ?_;refine And.intro ?_ (And.intro ?_ ?_)<;>(conv=>whnf)<;>(repeat' (first | exact True.intro | (with_reducible exact rfl) | exact (rfl:List.replicate 0 PV.bad=[]) | ((with_reducible refine And.intro ?_ ?_)<;>(first | (with_reducible exact zaj _ rfl) | exact znz rfl rfl | exact zbj rfl rfl rfl | (refine zbj rfl rfl ?_) | (refine zf7 (congrArg (Value.int .i64) ?_)) | (refine zf7 (congrArg Value.bool ?_)) | exact zn8 rfl | ((refine zan ?_);conv=>whnf) | ((refine zah ?_);conv=>whnf) | ((refine zag ?_);conv=>whnf) | (conv=>whnf))))));all_goals first | rfl | exact .inl rfl | exact wk_w1 (by omega) | exact .inr (.inl ⟨rfl,rfl⟩) | exact .head _ | exact .tail _ (.head _) | (refine wk_obj (by kernel_rfl) ?_;exact wk_app rfl _ rfl) | (simp only [List.map_append,List.length_append];rfl) | (simp;done)):p:=h
end Go.Pv
namespace Go.Proofs
open Go.Pv
set_option maxRecDepth 100000
def cnt (b:Int):Nat→Int
 | 0=>0
 | n+1=>cnt b n+nb (tb b n)
def count (b:Int):Int:=cnt b 7
theorem zp4 (b:Int):∀ n,0≤cnt b n∧cnt b n≤n
 | 0=>by simp [cnt]
 | n+1=>by
  have:=zp4 b n
  simp only [cnt]
  rcases zrj (tb b n) with h | h<;>rw [h]<;>omega
theorem zih (b:Int):0≤count b∧count b≤7:=zp4 b 7
theorem zcv (b:Int) (i:Nat) (hi:i < 64):hasB b i=tb b i:=by
 unfold hasB
 rw [zb4 (by omega) (by omega),zel b i hi]
 cases tb b i<;>rfl
theorem zxn (b:Int):Ctr Tryz.prog 17 [iv b] (iv (count b)) []:=by
 refine sBody Tryz.func17 ?_;conv=>whnf
 refine zbv mixed (by kernel_rfl) (fun i:Nat=>i≤7) (fun i=>[(4,iv i),(3,iv (cnt b i))]) [] (fun i=>7 - i) 0 (by decide) ?_ ?_
 ·conv=>whnf
  exact wkD
 ·intro i hi
  conv=>whnf
  repeat' (first | (refine tSp (fun h=>?_) (fun h=>?_)<;>conv=>whnf) | ((try (refine Exists.intro none ?_;conv=>whnf));(with_reducible refine zaa (c_Has _ _) ?_);conv=>whnf))
  ·refine ⟨i+1,by omega,?_⟩
   conv=>whnf
   rename_i h1
   rw [zcv b i (by omega)] at h
   have:=zp4 b i
   (refine wkx ?_;refine ⟨?_,?_,?_⟩<;>(conv=>whnf)<;>repeat' first | exact wkc | (with_reducible refine And.intro ?_ ?_)<;>first | exact wks | refine wko ?_ | refine wki ?_ | refine wkb ?_ | (refine zan ?_;conv=>whnf) | (refine zah ?_;conv=>whnf) | (refine zag ?_;conv=>whnf) | conv=>whnf)
   ·simp only [cnt,h,nb_true];exact zal (by omega) (by omega)
   ·rw [zal (by omega) (by omega)];rfl
  ·refine ⟨i+1,by omega,?_⟩
   conv=>whnf
   rename_i h1
   rw [zcv b i (by omega)] at h
   (refine wkx ?_;refine ⟨?_,?_,?_⟩<;>(conv=>whnf)<;>repeat' first | exact wkc | (with_reducible refine And.intro ?_ ?_)<;>first | exact wks | refine wko ?_ | refine wki ?_ | refine wkb ?_ | (refine zan ?_;conv=>whnf) | (refine zah ?_;conv=>whnf) | (refine zag ?_;conv=>whnf) | conv=>whnf)
   ·simp [cnt,h]
   ·rw [zal (by omega) (by omega)];rfl
  ·have:i=7:=by omega
   subst this
   exact zab rfl rfl
theorem c_Count (b:Int):Ctr Tryz.prog 176 [iv b] (iv (count b)) []:=by
 refine sBody Tryz.func176 ?_;conv=>whnf
 refine zcd mixed (by kernel_rfl) 8 ?_
 conv=>whnf
 repeat' ((with_reducible refine And.intro (And.intro (by first | decide | omega) (by first | decide | omega)) ?_);conv=>whnf)
 refine zab rfl ?_
 have h0:=zel b 0 (by decide)
 have h1:=zel b 1 (by decide)
 have h2:=zel b 2 (by decide)
 have h3:=zel b 3 (by decide)
 have h4:=zel b 4 (by decide)
 have h5:=zel b 5 (by decide)
 have h6:=zel b 6 (by decide)
 show iv (w64 (w64 (w64 (w64 (w64 (w64 (w64 (0+band (shr b ((0:Nat):Int)) 1)+band (shr b ((1:Nat):Int)) 1)+band (shr b ((2:Nat):Int)) 1)+band (shr b ((3:Nat):Int)) 1)+band (shr b ((4:Nat):Int)) 1)+band (shr b ((5:Nat):Int)) 1)+band (shr b ((6:Nat):Int)) 1))=_
 rw [h0,h1,h2,h3,h4,h5,h6]
 have e:∀ k,k≤6→w64 (cnt b k+nb (tb b k))=cnt b (k+1):=by
  intro k hk
  have:=zp4 b k
  rcases zrj (tb b k) with h | h<;>simp only [cnt,h]<;>exact zal (by omega) (by omega)
 rw [show (0:Int)=cnt b 0 from rfl,e 0 (by decide),e 1 (by decide),e 2 (by decide),e 3 (by decide),e 4 (by decide),e 5 (by decide),e 6 (by decide)]
 rfl
noncomputable def zrg (c:Conf):Int :=
 if c.full < 0∨127 < c.full∨band c.full 0 ≠ 0 then 14 else
 if c.wit < 0∨127 < c.wit∨band c.wit (bor 0 c.full) ≠ 0 then 14 else
 if c.learn < 0∨127 < c.learn∨band c.learn (bor (bor 0 c.full) c.wit) ≠ 0 then 14 else
 if c.lwit < 0∨127 < c.lwit∨band c.lwit (bor (bor (bor 0 c.full) c.wit) c.learn) ≠ 0 then 14 else
 if c.full=0 then 14 else 0
theorem zyb (c:Conf):Ctr Tryz.prog 71 [.ag c.enc] (iv (zrg c)) []:=by
 refine sBody Tryz.func71 ?_;conv=>whnf
 refine zcd mixed (by kernel_rfl) 5 ?_
 conv=>whnf
 repeat' (first | (refine tSp (fun h=>?_) (fun h=>?_)<;>conv=>whnf) | ((with_reducible refine And.intro (by with_unfolding_all decide) ?_);refine Exists.intro _ (And.intro (by with_unfolding_all rfl) ?_);conv=>whnf))
 all_goals (refine zab rfl ?_)
 all_goals simp [zrg,band,bor, *]
structure Cok (c:Conf):Prop where
 f:Bits7 c.full
 w:Bits7 c.wit
 l:Bits7 c.learn
 x:Bits7 c.lwit
 ne:c.full ≠ 0
 fw:∀ i:Nat,(tb c.full i && tb c.wit i)=false
 fl:∀ i:Nat,(tb c.full i && tb c.learn i)=false
 wl:∀ i:Nat,(tb c.wit i && tb c.learn i)=false
 fx:∀ i:Nat,(tb c.full i && tb c.lwit i)=false
 wx:∀ i:Nat,(tb c.wit i && tb c.lwit i)=false
 lx:∀ i:Nat,(tb c.learn i && tb c.lwit i)=false
theorem and0 {a b:Int}:band a b=0 ↔ ∀ i:Nat,(tb a i && tb b i)=false:=by
 rw [eq0_iff (zdz a b)]
 constructor
 ·intro h i
  by_cases hi:i < 64
  ·rw [← zee];exact h i hi
  ·rw [show tb a i=false from BitVec.getLsbD_of_ge _ _ (by omega)];rfl
 ·intro h i _
  rw [zee];exact h i
theorem zeo (c:Conf):confB c=true ↔ Cok c:=by
 unfold confB
 simp only [Bool.and_eq_true,zap,decide_eq_true_eq,bne_iff_ne,beq_iff_eq,and0]
 constructor
 ·rintro ⟨h1,h2,h3,h4,h5,h6,h7,h9⟩
  refine ⟨h1,h2,h3,h4,h5,h6,?_,?_,?_,?_,?_⟩<;>intro i<;>have h7:=h7 i<;>have h9:=h9 i<;>rw [tb_or] at h7<;>rw [tb_or,tb_or] at h9<;>revert h7 h9<;>cases tb c.full i<;>cases tb c.wit i<;>cases tb c.learn i<;>cases tb c.lwit i<;>simp
 ·rintro ⟨h1,h2,h3,h4,h5,h6,h7,h8,h9,h10,h11⟩
  refine ⟨h1,h2,h3,h4,h5,h6,?_,?_⟩<;>intro i<;>simp only [tb_or]<;>have h7:=h7 i<;>have h8:=h8 i<;>have h9:=h9 i<;>have h10:=h10 i<;>have h11:=h11 i<;>revert h7 h8 h9 h10 h11<;>cases tb c.full i<;>cases tb c.wit i<;>cases tb c.learn i<;>cases tb c.lwit i<;>simp
theorem zvq (c:Conf):zrg c=if confB c then 0 else 14:=by
 have hc:∀ a b:Int,band a b=band b a:=by
  intro a b
  exact ext64 (zdz _ _) (zdz _ _) fun i _=>by rw [zee,zee,Bool.and_comm]
 have h0:∀ a:Int,band a 0=0:=by
  intro a;rw [and0];intro i;simp [zet]
 have ho:∀ a x:Int,band a (bor 0 x)=band x a:=by
  intro a x
  exact ext64 (zdz _ _) (zdz _ _) fun i _=>by rw [zee,zee,tb_or,zet,Bool.false_or,Bool.and_comm]
 have ho2:∀ a x y:Int,band a (bor (bor 0 x) y)=band (bor x y) a:=by
  intro a x y
  exact ext64 (zdz _ _) (zdz _ _) fun i _=>by simp only [zee,tb_or,zet,Bool.false_or];rw [Bool.and_comm]
 have ho3:∀ a x y z:Int,band a (bor (bor (bor 0 x) y) z)=band (bor (bor x y) z) a:=by
  intro a x y z
  exact ext64 (zdz _ _) (zdz _ _) fun i _=>by simp only [zee,tb_or,zet,Bool.false_or];rw [Bool.and_comm]
 unfold zrg
 simp only [h0,ho,ho2,ho3]
 by_cases h:confB c=true
 ·rw [if_pos h]
  unfold confB at h
  simp only [Bool.and_eq_true,zap,decide_eq_true_eq,bne_iff_ne,beq_iff_eq] at h
  obtain ⟨h1,h2,h3,h4,h5,h6,h7,h8⟩:=h
  rw [if_neg (by omega),if_neg (by omega),if_neg (by omega),if_neg (by omega),if_neg h5]
 ·rw [if_neg h]
  unfold confB at h
  simp only [Bool.and_eq_true,zap,decide_eq_true_eq,bne_iff_ne,beq_iff_eq] at h
  repeat' split
  all_goals first | rfl | skip
  exfalso;apply h
  refine ⟨?_,?_,?_,?_,?_,?_,?_,?_⟩<;>omega
theorem zo6 (c:Conf):Ctr Tryz.prog 71 [.ag c.enc] (iv (if confB c then 0 else 14)) []:=by
 rw [← zvq];exact zyb c
theorem zle (c:Conf):Ctr Tryz.prog 177 [.ag c.enc] (iv (bor c.full c.wit)) []:=by
 refine sBody Tryz.func177 ?_;conv=>whnf
 exact zab rfl rfl
theorem zi4 (c:Conf):Ctr Tryz.prog 18 [.ag c.enc] (iv (bor c.full c.wit)) []:=by
 refine sBody Tryz.func18 ?_;conv=>whnf
 exact zab rfl rfl
theorem c_All (c:Conf):Ctr Tryz.prog 113 [.ag c.enc] (iv (bor (bor (bor c.full c.wit) c.learn) c.lwit)) []:=by
 refine sBody Tryz.func113 ?_;conv=>whnf
 exact zab rfl rfl
noncomputable def zbb (c:Conf) (b:Int):Bool:=decide (count (bor c.full c.wit) < 2 * count (band (bor c.full c.wit) b))
theorem zlt (c:Conf) (b:Int):Ctr Tryz.prog 116 [.ag c.enc,iv b] (bv (zbb c b)) []:=by
 refine sBody Tryz.func116 ?_;conv=>whnf
 repeat' (first | ((try ((refine Exists.intro none ?_);(conv=>whnf)));first | ((with_reducible refine zaa (zle c) ?_);conv=>whnf) | ((with_reducible refine zaa (c_Count _) ?_);conv=>whnf)) | ((with_reducible refine And.intro (And.intro (by first | decide | omega) (by first | decide | omega)) ?_);conv=>whnf))
 refine zab rfl ?_
 have h1:=zih (bor c.full c.wit)
 have h2:=zih (band (bor c.full c.wit) b)
 show bv (decide (w64 ((count (bor c.full c.wit)).tdiv 2) < count (band (bor c.full c.wit) b)))=_
 rw [Int.tdiv_eq_ediv_of_nonneg h1.1]
 rw [show w64 (count (bor c.full c.wit) / 2)=count (bor c.full c.wit) / 2 from zal (by omega) (by omega)]
 exact congrArg (fun b:Bool=>bv b) (decide_eq_decide.2 (by omega))
theorem zg1 (c:Conf) (b:Int):Ctr Tryz.prog 155 [.ag c.enc,iv b] (bv (zbb c b)) []:=by
 refine sBody Tryz.func155 ?_;conv=>whnf
 repeat' (first | ((try ((refine Exists.intro none ?_);(conv=>whnf)));first | ((with_reducible refine zaa (zi4 c) ?_);conv=>whnf) | ((with_reducible refine zaa (zxn _) ?_);conv=>whnf)) | ((with_reducible refine And.intro (And.intro (by first | decide | omega) (by first | decide | omega)) ?_);conv=>whnf))
 refine zab rfl ?_
 have h1:=zih (bor c.full c.wit)
 have h2:=zih (band (bor c.full c.wit) b)
 have e1:∀ x y:Int,(∀ i,i < 7→tb x i=tb y i)→count x=count y:=by
  intro x y h
  simp only [count,cnt,h 0 (by decide),h 1 (by decide),h 2 (by decide),h 3 (by decide),h 4 (by decide),h 5 (by decide),h 6 (by decide)]
 show bv (decide (count (band (bor c.full c.wit) 127) < w64 (2 * count (band (band (bor c.full c.wit) 127) b))))=_
 rw [e1 (band (bor c.full c.wit) 127) (bor c.full c.wit) (fun i hi=>by rw [zee,tb_127];simp [hi]),
  e1 (band (band (bor c.full c.wit) 127) b) (band (bor c.full c.wit) b) (fun i hi=>by rw [zee,zee,zee,tb_127];simp [hi])]
 rw [show w64 (2 * count (band (bor c.full c.wit) b))=2 * count (band (bor c.full c.wit) b) from zal (by omega) (by omega)]
 rfl
theorem c_node (i:Int):Ctr Tryz.prog 180 [iv i] (bv (zap i 0 6)) []:=by
 refine sBody Tryz.func180 ?_;conv=>whnf
 repeat' (refine tSp (fun h=>?_) (fun h=>?_)<;>conv=>whnf)
 all_goals (refine zab rfl (congrArg (fun b:Bool=>bv b) ?_);simp only [zap])
 ·rw [decide_eq_true h,Bool.true_and];exact decide_eq_decide.2 (by omega)
 ·rw [decide_eq_false (by omega)];rfl
noncomputable def zh6 (c:Conf) (i:Int):Int:=if confB c then (if zap i 0 6 then 0 else 1) else 14
abbrev cz:Conf:=⟨0,0,0,0⟩
noncomputable def zev (c:Conf):Conf×Int:=if confB c then (c,0) else (cz,14)
noncomputable def allB (c:Conf):Int:=bor (bor (bor c.full c.wit) c.learn) c.lwit
noncomputable def zv6 (c:Conf) (i:Int) (wit:Bool):Conf×Int :=
 if zh6 c i=0 then
  if band (allB c) (shl 1 i)=0 then (if wit then zev ⟨c.full,c.wit,c.learn,bor c.lwit (shl 1 i)⟩ else zev ⟨c.full,c.wit,bor c.learn (shl 1 i),c.lwit⟩) else (cz,14)
 else (cz,zh6 c i)
noncomputable def zqs (c:Conf) (i:Int):Conf×Int :=
 if zh6 c i=0 then
  if band c.learn (shl 1 i)=0 then (if band c.lwit (shl 1 i)=0 then (cz,14) else zev ⟨c.full,bor c.wit (shl 1 i),c.learn,bandn c.lwit (shl 1 i)⟩)
  else zev ⟨bor c.full (shl 1 i),c.wit,bandn c.learn (shl 1 i),c.lwit⟩
 else (cz,zh6 c i)
noncomputable def zvd (c:Conf) (i:Int):Conf×Int :=
 if zh6 c i=0 then
  if band (allB c) (shl 1 i)=0 then (cz,14) else zev ⟨bandn c.full (shl 1 i),bandn c.wit (shl 1 i),bandn c.learn (shl 1 i),bandn c.lwit (shl 1 i)⟩
 else (cz,zh6 c i)
noncomputable def kindR (c:Conf) (i:Int):ByteArray :=
 if zap i 0 6 then (if band c.full (shl 1 i) ≠ 0 then sFull else if band c.wit (shl 1 i) ≠ 0 then sWit else if band c.learn (shl 1 i) ≠ 0 then zjd else if band c.lwit (shl 1 i) ≠ 0 then sLwit else sE) else sE
theorem c_Kind0 (c:Conf) (i:Int):Ctr Tryz.prog 120 [.ag c.enc,iv i] (sv (kindR c i)) []:=by
 refine sBody Tryz.func120 ?_;conv=>whnf
 ((try (refine Exists.intro none ?_;conv=>whnf));(with_reducible refine zaa (c_node _) ?_);conv=>whnf)
 (refine tSp (fun h=>?_) (fun h=>?_)<;>conv=>whnf)
 ·exact zab rfl (by simp [kindR,h,sE])
 ·have hn:=h
  simp [zap] at hn
  ((with_reducible refine And.intro (And.intro (by first | decide | omega) (by first | decide | omega)) ?_);conv=>whnf)
  repeat' (refine tSp (fun h=>?_) (fun h=>?_)<;>conv=>whnf)
  all_goals exact zab rfl (by simp [kindR,band,shl,sFull,sWit,zjd,sLwit,sE, *])
theorem zip {x:Int}{n:Nat} (hn:n < 7):band x (shl 1 n)=0 ↔ tb x n=false:=by
 rw [and0]
 constructor
 ·intro h;have:=h n;rw [zga n n (by omega)] at this;simpa using this
 ·intro h j
  rw [zga n j (by omega)]
  by_cases e:n=j
  ·subst e;rw [h];rfl
  ·simp [e]
theorem zuh {x y:Int} (h:∀ i,i < 7→tb x i=tb y i):count x=count y:=by
 simp only [count,cnt,h 0 (by decide),h 1 (by decide),h 2 (by decide),h 3 (by decide),h 4 (by decide),h 5 (by decide),h 6 (by decide)]
theorem Cok.some {c:Conf} (h:Cok c):∃ i,i < 7∧tb c.full i=true:=by
 apply Classical.byContradiction
 intro hn
 apply h.ne
 refine ext7 h.f (by unfold Bits7;omega) fun i hi=>?_
 rw [zet]
 cases hb:tb c.full i
 ·rfl
 ·exact absurd ⟨i,hi,hb⟩ hn
end Go.Proofs
