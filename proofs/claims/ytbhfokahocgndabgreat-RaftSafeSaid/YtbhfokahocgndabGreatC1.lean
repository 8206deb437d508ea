import Derived.Test.YtbhfokahocgndabGreatPvN
import Derived.Laws.Externs
import Derived.Test.YtbhfokahocgndabGreatPvK
import Derived.KernelRfl
import Derived.Test.YtbhfokahocgndabGreatPvL
/- Contracts of functions: configurations, delays. -/
set_option linter.unusedSimpArgs false
set_option linter.unusedVariables false
set_option maxHeartbeats 1000000
namespace Go.Proofs
open Go.Pv
set_option maxRecDepth 100000
noncomputable abbrev band (a b:Int):Int:=iand .i64 a b
noncomputable abbrev bor (a b:Int):Int:=ior .i64 a b
abbrev shr (a b:Int):Int:=ishr .i64 a b
noncomputable def bitB (b i:Int):Bool:=decide (0≤i) && decide (i < 7) && (band (shr b i) 1 == 1)
theorem c_bit (b i:Int):Ctr Tryz.prog 178 [iv b,iv i] (bv (bitB b i)) []:=by
 refine zb4 mixed Tryz.func178 rfl (by kernel_rfl) (by kernel_rfl) ?_
 conv=>whnf
 repeat' (first
  | (refine zqx (fun h=>?_) (fun h=>?_)<;>conv=>whnf)
  | (refine And.intro (And.intro (by first | decide | omega) (by first | decide | omega)) ?_;conv=>whnf))
 all_goals (refine zaa rfl ?_;simp [bitB, *];try rfl)
def zav (n lo hi:Int):Bool:=decide (lo≤n) && decide (n≤hi)
theorem zu4 (n lo hi:Int):Ctr Tryz.prog 73 [iv n,iv lo,iv hi] (bv (zav n lo hi)) []:=by
 refine zb4 mixed Tryz.func73 rfl (by kernel_rfl) (by kernel_rfl) ?_
 conv=>whnf
 repeat' (first
  | (refine zqx (fun h=>?_) (fun h=>?_)<;>conv=>whnf))
 all_goals (refine zaa rfl ?_;simp [zav, *])
theorem zqs (i:Int):Ctr Tryz.prog 57 [iv i] (bv (zav i 0 6)) []:=by
 refine zb4 mixed Tryz.func57 rfl (by kernel_rfl) (by kernel_rfl) ?_
 conv=>whnf
 refine Exists.intro none ?_;(conv=>whnf);refine zhm (zu4 _ _ _) ?_
 conv=>whnf
 exact zaa rfl rfl
theorem c_Bits (i:Int):Ctr Tryz.prog 29 [iv i] (bv (zav i 0 127)) []:=by
 refine zb4 mixed Tryz.func29 rfl (by kernel_rfl) (by kernel_rfl) ?_
 conv=>whnf
 refine Exists.intro none ?_;(conv=>whnf);refine zhm (zu4 _ _ _) ?_
 conv=>whnf
 exact zaa rfl rfl
noncomputable def hasB (b i:Int):Bool:=band (shr b (IntKind.u64.wrap i)) 1 == 1
theorem zfd (i:Int):0≤IntKind.u64.wrap i:=by
 simp [IntKind.wrap,IntKind.signed,IntKind.bits];omega
theorem c_Has (b i:Int):Ctr Tryz.prog 56 [iv b,iv i] (bv (hasB b i)) []:=by
 refine zb4 mixed Tryz.func56 rfl (by kernel_rfl) (by kernel_rfl) ?_
 conv=>whnf
 refine ⟨⟨by decide,zfd _⟩,?_⟩
 conv=>whnf
 exact zaa rfl rfl
noncomputable def delay (c:Conf) (i:Int):Int:=if bitB c.full i then IntKind.i64.wrap (6+IntKind.i64.wrap (2 * i)) else if bitB c.wit i then IntKind.i64.wrap (6+IntKind.i64.wrap (2 * IntKind.i64.wrap (7+i))) else 0
theorem zl1 (c:Conf) (i:Int):Ctr Tryz.prog 122 [.ag c.enc,iv i] (iv (delay c i)) []:=by
 refine zb4 mixed Tryz.func122 rfl (by kernel_rfl) (by kernel_rfl) ?_
 conv=>whnf
 repeat' (first
  | (refine Exists.intro none ?_;(conv=>whnf);refine zhm (c_bit _ _) ?_;conv=>whnf)
  | (refine zco (fun h=>?_) (fun h=>?_)<;>conv=>whnf))
 all_goals (refine zaa rfl ?_;simp [delay, *])
noncomputable def confB (c:Conf):Bool :=
 zav c.full 0 127 && (zav c.wit 0 127 && (zav c.learn 0 127 && (zav c.lwit 0 127 && (c.full != 0 && (band c.full c.wit == 0 && (band (bor c.full c.wit) c.learn == 0 && band (bor (bor c.full c.wit) c.learn) c.lwit == 0))))))
theorem ziy (c:Conf):Ctr Tryz.prog 8 [.ag c.enc] (bv (confB c)) []:=by
 refine zb4 mixed Tryz.func8 rfl (by kernel_rfl) (by kernel_rfl) ?_
 conv=>whnf
 repeat' (first
  | (refine Exists.intro none ?_;(conv=>whnf);refine zhm (c_Bits _) ?_;conv=>whnf)
  | (refine zxk (fun h=>?_) (fun h=>?_)<;>conv=>whnf)
  | (refine zzp (fun h=>?_) (fun h=>?_)<;>conv=>whnf)
  | (refine zco (fun h=>?_) (fun h=>?_)<;>conv=>whnf))
 all_goals (refine zaa rfl ?_;simp [confB, *])
def sE:ByteArray:=⟨#[]⟩
def sFull:ByteArray:=⟨#[102,117,108,108]⟩
def sWit:ByteArray:=⟨#[119,105,116]⟩
def zko:ByteArray:=⟨#[108,101,97,114,110]⟩
def sLwit:ByteArray:=⟨#[108,101,97,114,110,119,105,116]⟩
noncomputable def kind (c:Conf) (i:Int):ByteArray :=
 if zav i 0 6 then (if hasB c.full i then sFull else if hasB c.wit i then sWit else if hasB c.learn i then zko else if hasB c.lwit i then sLwit else sE) else sE
theorem zn4 (c:Conf) (i:Int):Ctr Tryz.prog 19 [.ag c.enc,iv i] (sv (kind c i)) []:=by
 refine zb4 mixed Tryz.func19 rfl (by kernel_rfl) (by kernel_rfl) ?_
 conv=>whnf
 repeat' (first
  | (refine Exists.intro none ?_;(conv=>whnf);refine zhm (zqs _) ?_;conv=>whnf)
  | (refine Exists.intro none ?_;(conv=>whnf);refine zhm (c_Has _ _) ?_;conv=>whnf)
  | (refine zzu (fun h=>?_) (fun h=>?_)<;>conv=>whnf)
  | (refine zco (fun h=>?_) (fun h=>?_)<;>conv=>whnf))
 all_goals (refine zaa rfl ?_;simp [kind,sFull,sWit,zko,sLwit,sE, *])
theorem zaf {n:Int} (h1:-9223372036854775808≤n) (h2:n < 9223372036854775808):IntKind.i64.wrap n=n:=by
 simp [IntKind.wrap,IntKind.signed,IntKind.bits];omega
theorem zbz {n:Int} (h1:0≤n) (h2:n < 18446744073709551616):IntKind.u64.wrap n=n:=by
 simp [IntKind.wrap,IntKind.signed,IntKind.bits];omega
theorem zja {b i:Int} (h:zav i 0 6=true):hasB b i=bitB b i:=by
 simp [zav] at h
 simp [hasB,bitB,zbz (n:=i) (by omega) (by omega)]
 intro _;omega
theorem zom {b i:Int} (h:zav i 0 6=false):bitB b i=false:=by
 simp [zav] at h
 simp [bitB];intro a c;omega
theorem zq5 (c:Conf) (i:Int):kind c i=if bitB c.full i then sFull else if bitB c.wit i then sWit else if bitB c.learn i then zko else if bitB c.lwit i then sLwit else sE:=by
 unfold kind
 cases h:zav i 0 6
 ·simp [zom h]
 ·simp [zja h]
theorem zls (c:Conf) (i:Int):((kind c i).toList == (ByteArray.mk #[102,117,108,108]).toList)=bitB c.full i:=by
 rw [zq5]
 cases bitB c.full i<;>cases bitB c.wit i<;>cases bitB c.learn i<;>cases bitB c.lwit i<;>decide +kernel
theorem z3i (c:Conf) (i:Int):((kind c i).toList == (ByteArray.mk #[119,105,116]).toList)=(!bitB c.full i && bitB c.wit i):=by
 rw [zq5]
 cases bitB c.full i<;>cases bitB c.wit i<;>cases bitB c.learn i<;>cases bitB c.lwit i<;>decide +kernel
abbrev w64 (n:Int):Int:=IntKind.i64.wrap n
noncomputable abbrev bandn (a b:Int):Int:=iandn .i64 a b
abbrev shl (a b:Int):Int:=ishl .i64 a b
def tb (a:Int) (i:Nat):Bool:=(BitVec.ofInt 64 a).getLsbD i
theorem zpz (n:Int):IntKind.i64.wrap n=if n % 18446744073709551616 < 9223372036854775808 then n % 18446744073709551616 else n % 18446744073709551616 - 18446744073709551616:=by
 simp only [IntKind.wrap,IntKind.signed,IntKind.bits]
 simp
 split<;>split<;>omega
theorem zov (n:Int):isI (IntKind.i64.wrap n):=by
 rw [zpz];unfold isI;split<;>omega
theorem zi7 (x:BitVec 64):BitVec.ofInt 64 (IntKind.i64.wrap (x.toNat:Int))=x:=by
 have h:IntKind.i64.wrap (x.toNat:Int)=x.toInt:=by
  rw [BitVec.toInt_eq_toNat_bmod]
  rw [zpz]
  have:=x.isLt
  simp only [Int.bmod]
  split<;>split<;>omega
 rw [h,BitVec.ofInt_toInt]
theorem zdr (a b:Int) (i:Nat):tb (band a b) i=(tb a i && tb b i):=by
 unfold tb
 rw [band,zfs]
 rw [show IntKind.i64.bits=64 from rfl,zi7]
 simp
theorem tb_or (a b:Int) (i:Nat):tb (bor a b) i=(tb a i || tb b i):=by
 unfold tb
 rw [bor,zhx]
 rw [show IntKind.i64.bits=64 from rfl,zi7]
 simp
theorem zsa (a b:Int) (i:Nat) (h:i < 64):tb (bandn a b) i=(tb a i && !tb b i):=by
 unfold tb
 rw [bandn,zok]
 rw [show IntKind.i64.bits=64 from rfl,zi7]
 simp [h]
theorem zjl (n i:Nat) (h:n < 2 ^ 64):tb (n:Int) i=n.testBit i:=by
 unfold tb
 rw [show (BitVec.ofInt 64 (n:Int))=BitVec.ofNat 64 n from by simp]
 simp only [BitVec.getLsbD_ofNat]
 by_cases hi:i < 64
 ·simp [hi]
 ·simp only [hi,decide_false,Bool.false_and]
  symm
  apply Nat.testBit_lt_two_pow
  exact Nat.lt_of_lt_of_le h (Nat.pow_le_pow_right (by omega) (by omega))
theorem tb_eq (a:Int) (i:Nat) (hi:i < 64):tb a i=decide (a / 2 ^ i % 2=1):=by
 unfold tb
 rw [BitVec.getLsbD,BitVec.toNat_ofInt,Nat.testBit_eq_decide_div_mod_eq]
 have h0:0≤a % 2 ^ 64:=Int.emod_nonneg _ (by decide)
 have e1:(((a % ((2 ^ 64:Nat):Int)).toNat / 2 ^ i % 2:Nat):Int)=(a % 2 ^ 64) / 2 ^ i % 2:=by
  rw [Int.natCast_emod,Int.natCast_ediv,Int.toNat_of_nonneg (by exact h0),Int.natCast_pow]
  rfl
 have e2:(a % 2 ^ 64) / 2 ^ i % 2=a / 2 ^ i % 2:=by
  obtain ⟨k,hk⟩:∃ k,64=i+1+k:=⟨63 - i,by omega⟩
  have hp:(2:Int) ^ 64=2 ^ i * (2 * 2 ^ k):=by rw [hk,Int.pow_add,Int.pow_add];simp [Int.mul_assoc]
  have hpos:(0:Int) < 2 ^ i:=Int.pow_pos (by decide)
  have hd:a % 2 ^ 64=a - 2 ^ i * (2 * 2 ^ k * (a / 2 ^ 64)):=by
   rw [Int.emod_def,hp]
   simp [Int.mul_assoc]
  rw [hd,show a - 2 ^ i * (2 * 2 ^ k * (a / 2 ^ 64))=a+2 ^ i * (-(2 * 2 ^ k * (a / 2 ^ 64))) by simp [Int.mul_neg,Int.sub_eq_add_neg],Int.add_mul_ediv_left _ _ (by omega)]
  rw [show (2:Int) * 2 ^ k * (a / 2 ^ 64)=2 * (2 ^ k * (a / 2 ^ 64)) by simp [Int.mul_assoc]]
  omega
 have e3:=e1.trans e2
 generalize (a % ((2 ^ 64:Nat):Int)).toNat / 2 ^ i % 2=m at e3
 rw [← e3]
 by_cases hx:m=1
 ·subst hx;rfl
 ·rw [decide_eq_false hx,decide_eq_false (by omega)]
def nb (b:Bool):Int:=if b then 1 else 0
theorem zg0 (b:Bool):nb b=0∨nb b=1:=by cases b<;>simp [nb]
@[simp] theorem nb_true:nb true=1:=rfl
@[simp] theorem nb_false:nb false=0:=rfl
theorem z1x (a:Int):band a 1=nb (tb a 0):=by
 have h:=tb_eq a 0 (by decide)
 rw [band,zfs]
 have e:(BitVec.ofInt 64 a &&& BitVec.ofInt 64 1)=if tb a 0 then 1#64 else 0#64:=by
  apply BitVec.eq_of_getLsbD_eq
  intro i hi
  simp only [BitVec.getLsbD_and]
  have h1:(BitVec.ofInt 64 1).getLsbD i=decide (i=0):=by
   rw [show BitVec.ofInt 64 1=1#64 from by decide];simp [BitVec.getLsbD_one]
  rw [h1]
  by_cases h0:i=0
  ·subst h0
   show (tb a 0 && true)=_
   cases tb a 0<;>simp
  ·cases tb a 0<;>simp [h0]
 rw [show IntKind.i64.bits=64 from rfl,e]
 cases tb a 0<;>rfl
theorem zes (a:Int) (i:Nat) (hi:i < 64):band (shr a i) 1=nb (tb a i):=by
 rw [z1x]
 congr 1
 unfold shr ishr
 rw [tb_eq _ 0 (by decide),tb_eq a i hi]
 rw [show IntKind.i64.bits=64 from rfl,show min ((i:Int)).toNat 64=i by omega]
 rw [Int.fdiv_eq_ediv_of_nonneg _ (Int.pow_nonneg (by decide))]
 simp
theorem zhp (i:Nat) (hi:i < 63):shl 1 i=((2 ^ i:Nat):Int):=by
 unfold shl ishl
 rw [show IntKind.i64.bits=64 from rfl,show min ((i:Int)).toNat 64=i by omega]
 have h:(2:Nat) ^ i < 2 ^ 63:=Nat.pow_lt_pow_right (by decide) hi
 have e:(1:Int) * 2 ^ i=((2 ^ i:Nat):Int):=by simp
 rw [e]
 generalize (2:Nat) ^ i=m at h
 exact zaf (by omega) (by omega)
theorem ze1 (i j:Nat) (hi:i < 63):tb (shl 1 i) j=decide (i=j):=by
 rw [zhp i hi,zjl _ _ (Nat.pow_lt_pow_right (by decide) (by omega)),Nat.testBit_two_pow]
theorem ze9 (i:Nat):tb 0 i=false:=by simp [tb]
def Bits7 (a:Int):Prop:=0≤a∧a≤127
theorem zit {a:Int} (h:Bits7 a) {i:Nat} (hi:7≤i):tb a i=false:=by
 obtain ⟨n,rfl⟩:=Int.eq_ofNat_of_zero_le h.1
 have hn:n < 2 ^ 7:=by have:=h.2;omega
 rw [zjl _ _ (Nat.lt_trans hn (by decide))]
 exact Nat.testBit_lt_two_pow (Nat.lt_of_lt_of_le hn (Nat.pow_le_pow_right (by decide) hi))
theorem ext64 {a b:Int} (ha:isI a) (hb:isI b) (h:∀ i,i < 64→tb a i=tb b i):a=b:=by
 have e:BitVec.ofInt 64 a=BitVec.ofInt 64 b:=BitVec.eq_of_getLsbD_eq fun i hi=>h i hi
 have:=congrArg BitVec.toInt e
 unfold isI at ha hb
 rw [BitVec.toInt_ofInt,BitVec.toInt_ofInt] at this
 simp only [Int.bmod] at this
 split at this<;>split at this<;>omega
theorem zel (a b:Int):isI (band a b):=by
 rw [band,zfs]
 exact zov _
theorem zz9 (a b:Int):isI (bor a b):=by
 rw [bor,zhx]
 exact zov _
theorem z1f (a b:Int):isI (bandn a b):=by
 rw [bandn,zok]
 exact zov _
theorem Bits7.isI {a:Int} (h:Bits7 a):isI a:=by unfold Proofs.isI;unfold Bits7 at h;omega
theorem zoo {a:Int} (ha:isI a) (h:∀ i,7≤i→i < 64→tb a i=false):Bits7 a:=by
 have e:BitVec.ofInt 64 a &&& 127#64=BitVec.ofInt 64 a:=by
  apply BitVec.eq_of_getLsbD_eq
  intro i hi
  simp only [BitVec.getLsbD_and]
  by_cases h7:i < 7
  ·have : (127#64).getLsbD i = true := by
     rcases i with _ | _ | _ | _ | _ | _ | _ | i<;>first | rfl | omega
   simp [this]
  ·have:=h i (by omega) hi
   unfold tb at this
   simp [this]
 have h2:=congrArg BitVec.toNat e
 rw [BitVec.toNat_and,BitVec.toNat_ofInt] at h2
 have h3:(a % ((2 ^ 64:Nat):Int)).toNat≤127:=by
  rw [← h2];exact Nat.and_le_right
 unfold isI at ha
 unfold Bits7
 omega
theorem ext7 {a b:Int} (ha:Bits7 a) (hb:Bits7 b) (h:∀ i,i < 7→tb a i=tb b i):a=b :=
 ext64 ha.isI hb.isI fun i _=>if h7:i < 7 then h i h7 else by rw [zit ha (by omega),zit hb (by omega)]
theorem ext0 {a:Int} (ha:isI a) (h:∀ i,i < 64→tb a i=false):a=0:=ext64 ha (by unfold isI;omega) fun i hi=>by rw [h i hi,ze9]
theorem eq0_iff {a:Int} (ha:isI a):a=0 ↔ ∀ i,i < 64→tb a i=false:=⟨fun h=>by subst h;exact fun i _=>ze9 i,ext0 ha⟩
theorem zow {a b:Int} (ha:Bits7 a) (hb:Bits7 b):Bits7 (bor a b):=zoo (zz9 _ _) fun i h7 _=>by rw [tb_or,zit ha h7,zit hb h7];rfl
theorem zmw {a b:Int} (ha:Bits7 a):Bits7 (bandn a b):=zoo (z1f _ _) fun i h7 h=>by rw [zsa _ _ _ h,zit ha h7];rfl
theorem tb_127 (i:Nat):tb 127 i=decide (i < 7):=by
 by_cases h:i < 7
 ·rcases i with _ | _ | _ | _ | _ | _ | _ | i<;>first | rfl | omega
 ·rw [zit (by unfold Bits7;omega) (by omega)];simp [h]
end Go.Proofs
namespace Go.Pv
theorem HRel.born {w0 : World} {X : Nat → Prop} {S0 : Base} {M : Mem} {B : BMap} {O : OMap} {w : World} (h : HRel w0 X S0 M B O w) (key sz : Nat) (hk : O key = none) :
    ∃ M',HRel w0 X S0 M' B (upd O [(key,some (false,sz,[]))]) w∧M.Le M' w w∧∃ L,M'.ob key=some L∧L.nil=true:=by
 have hM:M.ob key=none:=by
  cases e:M.ob key with
  | none=>rfl
  | some L =>
   obtain ⟨o,ho⟩:=h.objKey key L e
   rw [hk] at ho;cases ho
 refine ⟨⟨M.st,M.bx,fun k=>if k=key then some ⟨0,sz,0,true⟩ else M.ob k,M.nw⟩,?_,⟨fun _ h=>h,fun _ _ h=>h,?_,fun _ _=>rfl,fun _ h=>h,fun _ _=>rfl⟩,⟨0,sz,0,true⟩,by simp,rfl⟩
 ·have hle : M.Le ⟨M.st, M.bx, fun k => if k = key then some ⟨0, sz, 0, true⟩ else M.ob k, M.nw⟩ w w := ⟨fun _ h => h, fun _ _ h => h, fun k L hkL => by
    show (if k=key then _ else _)=_
    rw [if_neg (fun e=>by rw [e,hM] at hkL;cases hkL)];exact hkL,fun _ _=>rfl,fun _ h=>h,fun _ _=>rfl⟩
  refine ⟨h.os,h.tape,h.out,h.size,h.kept,h.stlt,h.stok,?_,h.boxKey,?_,?_,h.boxNe,?_,?_,h.pinB,?_,h.nwok,h.c00⟩
  ·intro k ls hb
   obtain ⟨b,T,cs,h1,h2,h3,h4⟩:=h.box k ls hb
   exact ⟨b,T,cs,h1,h2,h3,RVL.mono hle _ _ h4⟩
  ·intro k fz s rows ho
   rw [zaz] at ho
   by_cases e:k=key
   ·subst e
    rw [if_pos rfl] at ho
    cases ho
    exact ⟨⟨0,sz,0,true⟩,by simp,rfl,.inl ⟨rfl,rfl⟩⟩
   ·rw [if_neg e] at ho
    obtain ⟨L,h1,h2,h3⟩:=h.obj k fz s rows ho
    exact ⟨L,by simp [e,h1],h2,h3⟩
  ·intro k L hL
   rw [zaz]
   by_cases e:k=key
   ·rw [if_pos e];exact ⟨_,rfl⟩
   ·rw [if_neg e]
    have hL':M.ob k=some L:=by simpa [e] using hL
    exact h.objKey k L hL'
  ·intro k k' o o' L L' ho ho' hL hL' hn hn'
   rw [zaz] at ho ho'
   by_cases e:k=key
   ·subst e
    simp at hL
    subst hL
    cases hn
   ·by_cases e':k'=key
    ·subst e'
     simp at hL'
     subst hL'
     cases hn'
    ·rw [if_neg e] at ho
     rw [if_neg e'] at ho'
     exact h.objNe k k' o o' L L' ho ho' (by simpa [e] using hL) (by simpa [e'] using hL') hn hn'
  ·intro k k' b o L hb ho hL hn
   rw [zaz] at ho
   by_cases e':k'=key
   ·subst e'
    simp at hL
    subst hL
    cases hn
   ·rw [if_neg e'] at ho
    exact h.boxObj k k' b o L hb ho (by simpa [e'] using hL) hn
  ·intro k L hp
   have:=h.pinO k L hp
   exact hle.ob k L this
 ·intro k L hkL
  show (if k=key then _ else _)=_
  rw [if_neg (fun e=>by rw [e,hM] at hkL;cases hkL)];exact hkL
theorem zs5 {P : Program} {code : Code} {Q : Exit → CSt → Prop} {tm : List PV} {bx : List (Nat × List PV)} {ob : List (Nat × Option (Bool × Nat × List (List PV)))} (s key sz : Nat) (hs : tm[s]? = some .nl) (hk : lkA ob key = none)
    (g:stK tm s (.ow key 0 0) fun tm'=>Tri P code Q ⟨tm',bx,(key,some (false,sz,[])) :: ob⟩):Tri P code Q ⟨tm,bx,ob⟩:=by
 rw [zje] at g
 refine ⟨?_⟩
 intro w0 X S0 M a w hr
 obtain ⟨M',h1,hle,L,hL,hn⟩:=hr.toHRel.born key sz hk
 refine g.run w0 X S0 M' a w ⟨?_,hr.dfr,by simpa [CSt.st] using hr.len,?_⟩
 ·have e : lkA ((key, some (false, sz, [])) :: ob) = upd (lkA ob) [(key, some (false, sz, []))] := by
    funext k
    rw [zaz]
    by_cases hk:k=key
    ·subst hk;simp [lkA]
    ·rw [if_neg hk]
     simp only [lkA]
     rw [zbj (fun e=>hk e.symm)];rfl
  show HRel w0 X S0 M' (lkA bx) (lkA ((key,some (false,sz,[])) :: ob)) w
  rw [e]
  exact h1
 ·intro t
  have ht:=hr.tmp t
  show RV M' w ((tm.set s (.ow key 0 0)).getD t .bad) (a.tmps.getD t undef)
  by_cases e:s=t
  ·subst e
   have hlt:s < tm.length:=(List.getElem?_eq_some_iff.1 hs).1
   have e1:(tm.set s (.ow key 0 0)).getD s .bad=.ow key 0 0:=by
    rw [List.getD_eq_getElem?_getD,List.getElem?_set_self hlt];rfl
   have e2:tm.getD s .bad=.nl:=by rw [List.getD_eq_getElem?_getD,hs];rfl
   rw [e1]
   have ht':RV M w (tm.getD s .bad) (a.tmps.getD s undef):=ht
   rw [e2] at ht'
   simp only [RV] at ht' ⊢
   exact ⟨L,hL,.inl ⟨hn,rfl,ht'⟩⟩
  ·have e1 : (tm.set s (.ow key 0 0)).getD t .bad = tm.getD t .bad := by
     rw [List.getD_eq_getElem?_getD,List.getD_eq_getElem?_getD,List.getElem?_set_ne e]
   rw [e1]
   exact RV.mono hle _ _ ht
theorem zz3 {P : Program} {code : Code} {Q : Exit → CSt → Prop} {tm : List PV} {bx : List (Nat × List PV)} {ob : List (Nat × Option (Bool × Nat × List (List PV)))} (k off key sz : Nat) (ls : List PV) (hb : lkA bx k = some ls) (hs : ls[off]? = some .nl) (hk : lkA ob key = none)
    (g:stK ls off (.ow key 0 0) fun ls'=>setK bx k ls' fun bx'=>Tri P code Q ⟨tm,bx',(key,some (false,sz,[])) :: ob⟩):Tri P code Q ⟨tm,bx,ob⟩:=by
 rw [zje,zsv] at g
 refine ⟨?_⟩
 intro w0 X S0 M a w hr
 obtain ⟨M',h1,hle,L,hL,hn⟩:=hr.toHRel.born key sz hk
 refine g.run w0 X S0 M' a w ⟨?_,hr.dfr,hr.len,fun t=>RV.mono hle _ _ (hr.tmp t)⟩
 have e:lkA ((key,some (false,sz,[])) :: ob)=upd (lkA ob) [(key,some (false,sz,[]))]:=by
  funext j
  rw [zaz]
  by_cases hk:j=key
  ·subst hk;simp [lkA]
  ·rw [if_neg hk]
   simp only [lkA]
   rw [zbj (fun e=>hk e.symm)];rfl
 show HRel w0 X S0 M' (lkA (setA bx k (ls.set off (.ow key 0 0)))) (lkA ((key,some (false,sz,[])) :: ob)) w
 rw [e]
 obtain ⟨b,T,cs,b1,b2,b3,b4⟩:=h1.box k ls hb
 refine ⟨h1.os,h1.tape,h1.out,h1.size,h1.kept,h1.stlt,h1.stok,?_,?_,h1.obj,h1.objKey,h1.boxNe,h1.objNe,h1.boxObj,h1.pinB,h1.pinO,h1.nwok,h1.c00⟩
 ·intro j ms hj
  rw [ze6] at hj
  by_cases ej:j=k
  ·subst ej
   rw [if_pos rfl] at hj
   cases hj
   refine ⟨b,T,cs,b1,b2,b3,?_⟩
   obtain ⟨c,hc,hv⟩:=b4.get off hs
   simp only [RV] at hv
   have hnew:RV M' w (.ow key 0 0) c:=by
    simp only [RV]
    exact ⟨L,hL,.inl ⟨hn,rfl,hv⟩⟩
   have key2:∀ (off:Nat) (ls:List PV) (cs:List Value),RVL M' w ls cs→cs[off]?=some c→RVL M' w (ls.set off (.ow key 0 0)) cs:=by
    intro off
    induction off with
    | zero =>
     intro ls cs h hc
     cases ls with
     | nil=>simpa using h
     | cons p ls =>
      simp only [RVL] at h
      obtain ⟨c',r,rfl,_,h2⟩:=h
      simp at hc
      subst hc
      simp only [List.set_cons_zero,RVL]
      exact ⟨_,r,rfl,hnew,h2⟩
    | succ off ih =>
     intro ls cs h hc
     cases ls with
     | nil=>simpa using h
     | cons p ls =>
      simp only [RVL] at h
      obtain ⟨c',r,rfl,h1,h2⟩:=h
      simp only [List.getElem?_cons_succ] at hc
      simp only [List.set_cons_succ,RVL]
      exact ⟨c',r,rfl,h1,ih ls r h2 hc⟩
   exact key2 off ls cs.toList b4 hc
  ·rw [if_neg ej] at hj
   exact h1.box j ms hj
 ·intro j b' hj
  rw [ze6]
  by_cases ej:j=k
  ·exact ⟨_,if_pos ej⟩
  ·rw [if_neg ej];exact h1.boxKey j b' hj
theorem sub_nl {M:Mem}{w:World}{v:Value}{sz:Nat} (h:RV M w .nl v):RV M w (.sl sz []) v:=by
 simp only [RV] at h ⊢
 obtain ⟨a,rfl⟩:=h
 exact ⟨a,0,0,rfl,rfl,Nat.le_refl _,.inl trivial⟩
theorem znb {P : Program} {f : Nat} {fn : Func} {e : Array Value → Sem Value} {args : List PV} {r : Value} (hf : P.funcs[f]? = some fn) (hname : (fn.name == "runtime.NumGoroutine") = false) (hb : fn.body.isNone = true) (hn : Extern.findNext fn = none) (he : Extern.find fn = some e)
    (h:∀ (w:World) (M:Mem) (vs:List Value),RVL M w args vs→(e vs.toArray).run P w=.ok r w):Ctr P f args (.sc r) []:=by
 refine ⟨?_⟩
 intro w st vs hst hv
 right
 refine ⟨r,w,?_,r,zbp st,rfl,by simp [RV],?_⟩
 ·rw [run_callFunc_extern hf hname hb hn he,h w _ vs hv];rfl
 ·refine { os:=rfl,tape:=rfl,out:=rfl,size:=Nat.le_refl _,kept:=fun _ _ _=>rfl,stlt:=hst,stok:=fun b hb=>.inl hb,box:=?_,boxKey:=?_,obj:=?_,objKey:=?_,boxNe:=?_,objNe:=?_,boxObj:=?_,pinB:=?_,pinO:=?_,nwok:=(fun _ h=>h.elim),c00:=⟨fun _ h=>.inl h,fun _ h=>h.elim⟩ }
  ·intro k ls hk;cases hk
  ·intro k b hk;cases hk
  ·intro k a b c hk;simp [osMap] at hk
  ·intro k L hk;cases hk
  ·intro k k' b hk;cases hk
  ·intro k k' o o' L L' hk;simp [osMap] at hk
  ·intro k k' b o L hk;cases hk
  ·intro k b hk;cases hk
  ·intro k b hk;cases hk
def SimV (u u':Value):Prop:=u'=u∨∃ k m n,u=.int k m∧u'=.int k n
theorem SimV.trans {u v x:Value} (h:SimV u v) (h':SimV v x):SimV u x:=by
 rcases h with rfl | ⟨k,m,n,rfl,rfl⟩
 ·exact h'
 ·rcases h' with rfl | ⟨k',m',n',e,rfl⟩
  ·exact .inr ⟨k,m,n,rfl,rfl⟩
  ·cases e;exact .inr ⟨k,m,n',rfl,rfl⟩
structure Sim (N:Nat→Prop) (w w':World):Prop where
 os:w'.os=w.os
 tape:w'.tape=w.tape
 out:w'.output=w.output
 size:w.heap.size≤w'.heap.size
 kept:∀ b,b < w.heap.size→¬ N b→w'.heap[b]?=w.heap[b]?
 cell:∀ b o u,N b→w.cell? ⟨b,o,none⟩=some u→∃ u',w'.cell? ⟨b,o,none⟩=some u'∧SimV u u'
 c00:∀ b,N b→C00 w b→C00 w' b
theorem Sim.refl (N:Nat→Prop) (w:World):Sim N w w:=⟨rfl,rfl,rfl,Nat.le_refl _,fun _ _ _=>rfl,fun _ _ u _ h=>⟨u,h,.inl rfl⟩,fun _ _ h=>h⟩
theorem Sim.trans {N:Nat→Prop}{w w' w'':World} (h:Sim N w w') (h':Sim N w' w''):Sim N w w'' :=
 ⟨h'.os.trans h.os,h'.tape.trans h.tape,h'.out.trans h.out,Nat.le_trans h.size h'.size,fun b hb hn=>(h'.kept b (Nat.lt_of_lt_of_le hb h.size) hn).trans (h.kept b hb hn),fun b o u hb hc=>by
  obtain ⟨u',h1,h2⟩:=h.cell b o u hb hc
  obtain ⟨u'',h3,h4⟩:=h'.cell b o u' hb h1
  exact ⟨u'',h3,h2.trans h4⟩,fun b hb hc=>h'.c00 b hb (h.c00 b hb hc)⟩
theorem znd {w:World}{b o:Nat}{u:Value} (h:w.cell? ⟨b,o,none⟩=some u):∃ cs T fr,w.heap[b]?=some (.cells cs T fr)∧cs[o]?=some u:=by
 unfold World.cell? at h
 split at h
 ·rename_i cs T fr hh
  exact ⟨cs,T,fr,hh,by simpa using h⟩
 all_goals cases h
def lenB (P:Program) (t:TypeId):Bool:=match P.underlying t with
 | some (.slice _)=>true
 | _=>false
def idxB (P:Program) (t:TypeId) (sz:Nat):Bool:=match P.underlying t with
 | some (.slice e)=>match P.info? e with
  | some inf=>inf.size == sz
  | none=>false
 | _=>false
def fldB (P:Program) (t:TypeId) (i o:Nat):Bool:=match P.underlying t with
 | some (.struct fs)=>match fs[i]? with
  | some f=>match P.info? f.type with
   | some inf=>f.offset == o && inf.size != 0
   | none=>false
  | none=>false
 | _=>false
def oneB1 (P:Program) (t:TypeId):Bool:=match P.underlying t with
 | some d=>!zeb d
 | none=>false
def aggB (P:Program) (t:TypeId) (sz:Nat):Bool:=match P.underlying t,P.info? t with
 | some d,some inf=>zeb d && inf.size == sz
 | _,_=>false
def szB (P:Program) (t:TypeId):Bool:=match P.info? t with
 | some inf=>inf.size == 1
 | none=>false
def gv (a:Act) (t:Nat):Value:=a.tmps.getD t undef
theorem ev_gv (a:Act) (t:Nat):a.eval (.tmp t)=gv a t:=rfl
theorem zum (a:Act) (v:Value):a.eval (.const v)=v:=rfl
theorem gv_put {a:Act}{d t:Nat}{v:Value} (h:d < a.tmps.size):gv (a.put (some d) v) t=if t=d then v else gv a t:=by
 unfold gv Act.put
 simp only [Array.getD_eq_getD_getElem?]
 by_cases e:t=d
 ·subst e;simp [h]
 ·rw [if_neg e,Array.getElem?_setIfInBounds_ne (fun x=>e x.symm)]
theorem sz_put {a:Act}{d:Option Nat}{v:Value}:(a.put d v).tmps.size=a.tmps.size:=by cases d<;>simp [Act.put]
theorem df_put {a:Act}{d:Option Nat}{v:Value}:(a.put d v).defers=a.defers:=by cases d<;>rfl
structure Pt (d:Option Nat) (v:Value) (a a':Act):Prop where
 sz:a'.tmps.size=a.tmps.size
 df:a'.defers=a.defers
 gv:∀ t,Pv.gv a' t=if d=some t then v else Pv.gv a t
def dltB (d:Option Nat) (n:Nat):Bool:=match d with
 | some d=>Nat.blt d n
 | none=>true
theorem Pt.of {d:Option Nat}{v:Value}{a:Act}{n:Nat} (hs:a.tmps.size=n) (hd:dltB d n=true):Pt d v a (a.put d v):=by
 refine ⟨sz_put,df_put,fun t=>?_⟩
 cases d with
 | none=>rfl
 | some d =>
  have:d < a.tmps.size:=by
   rw [hs]
   have:=Nat.le_of_ble_eq_true hd
   omega
  rw [gv_put this]
  by_cases e:t=d
  ·subst e;simp
  ·rw [if_neg e,if_neg (fun x=>e (Option.some.inj x).symm)]
section
variable {P:Program}{o:Oper}{a:Act}{w:World}{next:Act→World→Prop}{Q:Exit→Act→World→Prop}
theorem rw_val0 {v:Value}{w':World} (h:(execOp a.eval o).run P w=.ok (.value v) w') (k:next (a.put o.dst v) w'):o.wp P a w next Q:=by
 unfold Oper.wp;rw [h];exact k
variable {n0:Nat} (hs:a.tmps.size=n0)
include hs
theorem zif {v:Value}{w':World} (h:(execOp a.eval o).run P w=.ok (.value v) w') (k:∀ a',Pt o.dst v a a'→next a' w') (hd:dltB o.dst n0=true):o.wp P a w next Q :=
 rw_val0 h (k _ (Pt.of hs hd))
theorem zbh {x:Operand} (ho:o.op=.move x) (k:∀ a',Pt o.dst (a.eval x) a a'→next a' w)  (hd:dltB o.dst n0=true:=by rfl):o.wp P a w next Q:=zif hs (by simp [execOp,ho]) k hd
theorem zdn {x:Operand} (ho:o.op=.assign x) (k:∀ a',Pt o.dst (a.eval x) a a'→next a' w)  (hd:dltB o.dst n0=true:=by rfl):o.wp P a w next Q:=zif hs (by simp [execOp,ho]) k hd
theorem zg9 {op:BinOp}{t t':TypeId}{x y:Operand}{u v r:Value} (ho:o.op=.binOp op t x y t') (hx:a.eval x=u) (hy:a.eval y=v) (hr:pbin op u v=some r) (k:∀ a',Pt o.dst r a a'→next a' w)  (hd:dltB o.dst n0=true:=by rfl):o.wp P a w next Q:=by
 refine zif hs ?_ k hd
 have:=ztm (P:=P) (w:=w) (t:=t) (x:=x) (y:=y) hr
 simp only [execOp,ho,hx,hy,Sem.run_bind] at this ⊢
 rw [this]
 simp
theorem zo4 {x:Operand}{t:TypeId}{ad:Option Addr}{n c:Nat} (ho:o.op=.call { callee:=.builtin .len,args:=#[x],argTypes:=#[t] }) (hx:a.eval x=.slice ad n c) (k:∀ a',Pt o.dst (.int .i64 n) a a'→next a' w) (ht:lenB P t=true:=by kernel_rfl)  (hd:dltB o.dst n0=true:=by rfl):o.wp P a w next Q:=by
 unfold lenB at ht
 split at ht
 ·rename_i e ht'
  exact zif hs (by simp [execOp,ho,resolve,invoke,builtin,Builtin.len_,run_underlying ht',hx,goInt]) k hd
 ·cases ht
theorem ze4 {t : TypeId} {x y : Operand} {sz b off n c : Nat} {kk : IntKind} {i : Int} (ho : o.op = .indexAddr t x y) (hx : a.eval x = .slice (some ⟨b, off, none⟩) n c) (hy : a.eval y = .int kk i) (h0 : 0 ≤ i) (h1 : i < n)
    (k:∀ a',Pt o.dst (.pointer (some ⟨b,off+i.toNat * sz,none⟩)) a a'→next a' w) (ht:idxB P t sz=true:=by kernel_rfl)  (hd:dltB o.dst n0=true:=by rfl):o.wp P a w next Q:=by
 unfold idxB at ht
 split at ht
 ·rename_i e ht'
  split at ht
  ·rename_i inf hi
   have hz:inf.size=sz:=by simpa using ht
   subst hz
   exact zif hs (by simp [execOp,ho,hx,hy,Instr.indexAt,run_underlying ht',asIntOf,sizeOf,typeInfo,hi,h0,h1,Addr.add_lit]) k hd
  ·cases ht
 ·cases ht
theorem zdg {t : TypeId} {x : Operand} {i fo b off : Nat} (ho : o.op = .fieldAddr t x i) (hx : a.eval x = .pointer (some ⟨b, off, none⟩))
    (k:∀ a',Pt o.dst (.pointer (some ⟨b,off+fo,none⟩)) a a'→next a' w) (ht:fldB P t i fo=true:=by kernel_rfl)  (hd:dltB o.dst n0=true:=by rfl):o.wp P a w next Q:=by
 unfold fldB at ht
 split at ht
 ·rename_i fs ht'
  split at ht
  ·rename_i f hf
   split at ht
   ·rename_i inf hi
    simp only [Bool.and_eq_true,beq_iff_eq,bne_iff_ne] at ht
    obtain ⟨rfl,hz⟩:=ht
    exact zif hs (by simp [execOp,ho,hx,Instr.fieldAt,run_underlying ht',hf,Instr.sureAddr,fieldPlace,sizeOf,typeInfo,hi,hz,Addr.add_lit]) k hd
   ·cases ht
  ·cases ht
 ·cases ht
theorem zf7 {t : TypeId} {x : Operand} {b off : Nat} {u : Value} (ho : o.op = .load t x) (hx : a.eval x = .pointer (some ⟨b, off, none⟩)) (hc : w.cell? ⟨b, off, none⟩ = some u)
    (k:∀ a',Pt o.dst u a a'→next a' w) (ht:oneB1 P t=true:=by kernel_rfl)  (hd:dltB o.dst n0=true:=by rfl):o.wp P a w next Q:=by
 unfold oneB1 at ht
 split at ht
 ·rename_i d ht'
  have hag:zeb d=false:=by simpa using ht
  refine zif hs ?_ k hd
  have:(loadVar t ⟨b,off,none⟩).run P w=.ok u w:=by
   simp only [loadVar,Sem.run_bind,zex ht',hag,Result.andThen_ok,Bool.false_eq_true,if_false]
   simp [load,Sem.run,hc]
  simp [execOp,ho,hx,Instr.loadAt,Instr.sureAddr,this]
 ·cases ht
theorem zt6 {t : TypeId} {x : Operand} {b off sz : Nat} {cs : List Value} (ho : o.op = .load t x) (hx : a.eval x = .pointer (some ⟨b, off, none⟩)) (hc : Cells w b off cs) (hl : cs.length = sz)
    (k:∀ a',Pt o.dst (.agg cs.toArray) a a'→next a' w) (ht:aggB P t sz=true:=by kernel_rfl)  (hd:dltB o.dst n0=true:=by rfl):o.wp P a w next Q:=by
 unfold aggB at ht
 split at ht
 ·rename_i d inf ht' hi
  simp only [Bool.and_eq_true,beq_iff_eq] at ht
  refine zif hs ?_ k hd
  have hrun:=run_loadCells_list (P:=P) w ⟨b,off,none⟩ cs (fun j v hj=>by rw [Addr.add_lit];exact hc j v hj)
  rw [hl] at hrun
  have:(loadVar t ⟨b,off,none⟩).run P w=.ok (.agg cs.toArray) w:=by simp [loadVar,zex ht',ht.1,sizeOf,typeInfo,hi,ht.2,hrun]
  simp [execOp,ho,hx,Instr.loadAt,Instr.sureAddr,this]
 ·cases ht
theorem rw_box {t:TypeId}{x:Operand} (ho:o.op=.box t x) (k:∀ a',Pt o.dst (.pointer (some ⟨w.heap.size,0,none⟩)) a a'→next a' (w.alloc (.cells (a.eval x).cells t)))  (hd:dltB o.dst n0=true:=by rfl):o.wp P a w next Q :=
 zif hs (by simp [execOp,ho,Instr.box,newVar,newRow,newObj,Sem.run]) k hd
theorem zj3 {N : Nat → Prop} {t : TypeId} {x y : Operand} {b off : Nat} {kk : IntKind} {m n : Int} (ho : o.op = .store t x y) (hx : a.eval x = .pointer (some ⟨b, off, none⟩)) (hy : a.eval y = .int kk n) (hb : N b) (h00 : C00 w b) (hc : w.cell? ⟨b, off, none⟩ = some (.int kk m))
    (k:∀ a' w',Pt o.dst undef a a'→Sim N w w'→next a' w') (ht:szB P t=true:=by kernel_rfl)  (hd:dltB o.dst n0=true:=by rfl):o.wp P a w next Q:=by
 obtain ⟨inf,hi,hz⟩:∃ inf,P.info? t=some inf∧inf.size=1:=by
  unfold szB at ht
  split at ht
  ·rename_i inf hi;exact ⟨inf,hi,by simpa using ht⟩
  ·cases ht
 obtain ⟨cs,T,hh⟩:=h00
 obtain ⟨cs0,T0,fr0,hh0,hu⟩:=znd hc
 rw [hh] at hh0;cases hh0
 have hlt:off < cs.size:=(Array.getElem?_eq_some_iff.1 hu).1
 have hrun:=run_storeCells_at P b off T [.int kk n] 0 cs w hh (by simp;omega) (by intro v hv;rw [List.mem_singleton.1 hv];rfl)
 simp only [Nat.add_zero] at hrun
 have hex:(execOp a.eval o).run P w=.ok .skip (w.setRow b (cs.toList.take off++[Value.int kk n]++cs.toList.drop (off+1)).toArray):=by
  simp [execOp,ho,hx,hy,Instr.storeAt,Instr.sureAddr,storeVar,sizeOf,typeInfo,hi,hz,Value.cells]
  simp at hrun
  simp [hrun]
 unfold Oper.wp
 rw [hex,Oper.upon_skip]
 have hnew:=setRow_heap w b cs (cs.toList.take off++[Value.int kk n]++cs.toList.drop (off+1)).toArray T (0,0) hh
 refine k _ _ (Pt.of hs hd) ⟨rfl,rfl,rfl,by simp,fun b' _ hn=>setRow_other w b b' _ (fun e=>hn (e ▸ hb)),fun b' o' u hb' hcu=>?_,fun b' _ h=>?_⟩
 ·by_cases e:b'=b
  ·subst e
   obtain ⟨cs1,T1,fr1,hh1,hu1⟩:=znd hcu
   rw [hh] at hh1;cases hh1
   simp only [World.cell?,hnew]
   by_cases eo:o'=off
   ·subst eo
    rw [hu] at hu1;cases hu1
    exact ⟨.int kk n,by simp [List.getElem?_append,List.length_take,Nat.min_eq_left (Nat.le_of_lt hlt)],.inr ⟨kk,m,n,rfl,rfl⟩⟩
   ·refine ⟨u,?_,.inl rfl⟩
    have hlt':o' < cs.size:=(Array.getElem?_eq_some_iff.1 hu1).1
    rcases Nat.lt_or_gt_of_ne eo with h | h
    ·simp [List.getElem?_append,List.getElem?_take,h,Nat.min_eq_left (Nat.le_of_lt hlt)]
     exact (Array.getElem?_eq_some_iff.1 hu1).2
    ·have e1:¬ o' < off:=by omega
     have e2:o' - off=(o' - off - 1)+1:=by omega
     simp [List.getElem?_append,Nat.min_eq_left (Nat.le_of_lt hlt),e1]
     rw [e2]
     simp
     rw [show off+1+(o' - off - 1)=o' from by omega]
     exact hu1
  ·refine ⟨u,?_,.inl rfl⟩
   rw [World.cell?_of_block (a:=⟨b',o',none⟩) (setRow_other w b b' _ e)]
   exact hcu
 ·by_cases e:b'=b
  ·subst e;exact ⟨_,T,hnew⟩
  ·exact h.of (setRow_other w b b' _ e)
theorem zhg {c:Call}{f:Nat}{vs:Array Value}{R:Ending→World→Prop} (ho:o.op=.call c) (hc:c.callee=.value (.func f)) (hv:c.args.map a.eval=vs) (hr:Runs P f vs w R) (k:∀ e w',R e w'→∃ v,e=.returned v∧∀ a',Pt o.dst v a a'→next a' w') (hd:dltB o.dst n0=true:=by rfl):o.wp P a w next Q:=by
 have hex:(execOp a.eval o).run P w=(callFunc f vs).run P w:=by
  simp [execOp,ho,resolve,hc,Act.eval,Deferred.ofValue,invoke,← hv]
 unfold Oper.wp
 rw [hex]
 rcases hr with ⟨h1,h2⟩ | ⟨v,w',h1,h2⟩
 ·rw [h1,Oper.upon_enter]
  refine h2.mono ?_
  intro e w' he
  obtain ⟨v,rfl,hK⟩:=k e w' he
  exact hK _ (Pt.of hs hd)
 ·rw [h1,Oper.upon_value]
  obtain ⟨v',e,hK⟩:=k _ w' h2
  cases e
  exact hK _ (Pt.of hs hd)
end
def rawL (P:Program) (Q:Exit→Act→World→Prop):List Oper→Act→World→Prop
 | [],a,w=>Q .normal a w
 | o :: os,a,w=>o.wp P a w (rawL P Q os) Q
theorem zms {P:Program}{ops:Array Oper}{Q:Exit→Act→World→Prop}:∀ (l:List Oper) (i:Nat) (a:Act) (w:World),ops.toList.drop i=l→(l.all fun o=>o.guard.isNone)=true→rawL P Q l a w→wpOps P ops Q (List.range' i l.length) a w
 | [],i,a,w,_,_,h=>by simpa [wpOps,rawL] using h
 | o :: os,i,a,w,hd,hg,h=>by
  simp only [List.all_cons,Bool.and_eq_true] at hg
  have ho:ops[i]?=some o:=by
   have:=congrArg List.head? hd
   simpa [List.head?_drop] using this
  rw [List.length_cons,List.range'_succ,wpOps_cons]
  unfold wpOp
  have hgn:o.guard=none:=by simpa using hg.1
  simp only [ho,Region.wanted,hgn,if_true]
  refine .inl (Oper.wp_mono (fun a w h=>zms os (i+1) a w ?_ hg.2 h) h)
  have:=congrArg List.tail hd
  simpa [List.tail_drop] using this
theorem zbg {P:Program}{id:Nat}{l:List Oper}{Q:Exit→Act→World→Prop}{a:Act}{w:World} (hg:(l.all fun o=>o.guard.isNone)=true) (h:rawL P Q l a w):(Code.region id l.toArray false).wp P Q a w:=by
 refine wp_region ?_
 rw [List.range_eq_range']
 simpa using zms (ops:=l.toArray) l 0 a w (by simp) hg h
def nrm (R:Act→World→Prop) (e:Exit) (a:Act) (w:World):Prop:=match e with
 | .normal=>R a w
 | _=>False
theorem zl2 {P : Program} {H B S : Code} {t s id : Nat} {Q : Exit → Act → World → Prop} {a : Act} {w : World} (n : Nat) (I J : Nat → Act → World → Prop) (h0 : I 0 a w) (hi : ∀ i a w, I i a w → i ≤ n ∧ gv a s = .int .i64 i)
    (hH:∀ i a w,I i a w→H.wp P (nrm fun a' w'=>a'.eval (.tmp t)=.bool (decide (i < n))∧I i a' w') a w)
    (hB:∀ i a w,i < n→I i a w→B.wp P (nrm (J i)) a w) (hS:∀ i a w,i < n→J i a w→S.wp P (nrm (I (i+1))) a w) (hQ:∀ a w,I n a w→Q .normal a w) :
    (Code.block id (Code.loop ((H.seq (Code.cond (.tmp t) .skip (.exit id))).seq (B.seq S)))).wp P Q a w:=by
 refine wp_block (wp_loop (fun a w=>∃ i,I i a w) (fun a w=>match gv a s with | .int _ i=>n - i.toNat | _=>0) ⟨0,h0⟩ ?_)
 rintro a w ⟨i,hI⟩
 obtain ⟨hin,hs⟩:=hi i a w hI
 refine wp_seq (wp_seq (wp_mono (hH i a w hI) ?_))
 rintro e a1 w1 hq
 cases e with
 | normal =>
  obtain ⟨ht,hI1⟩:=hq
  obtain ⟨_,hs1⟩:=hi i a1 w1 hI1
  show (Code.cond (.tmp t) .skip (.exit id)).wp P _ a1 w1
  by_cases hlt:i < n
  ·refine wp_cond (t:=true) (by rw [ht,decide_eq_true hlt]) (wp_skip ?_)
   show (B.seq S).wp P _ a1 w1
   refine wp_seq (wp_mono (hB i a1 w1 hlt hI1) ?_)
   rintro e a2 w2 hq2
   cases e with
   | normal =>
    show S.wp P _ a2 w2
    refine wp_mono (hS i a2 w2 hlt hq2) ?_
    rintro e a3 w3 hq3
    cases e with
    | normal =>
     obtain ⟨_,hs3⟩:=hi (i+1) a3 w3 hq3
     refine ⟨⟨i+1,hq3⟩,?_⟩
     simp only [hs,hs3]
     simp
     omega
    | _=>exact hq3.elim
   | _=>exact hq2.elim
  ·obtain rfl:i=n:=by omega
   refine wp_cond (t:=false) (by rw [ht,decide_eq_false hlt]) (wp_exit ?_)
   show Exit.inBlock id Q (.exit id) a1 w1
   simp only [Exit.inBlock,if_true]
   exact hQ a1 w1 hI1
 | _=>exact hq.elim
def Win (N:Nat→Prop) (w:World) (sz:Nat) (F:(Nat→Option Value)→Prop) (n:Nat) (v:Value):Prop :=
 ∃ ad c,v=.slice ad n c∧n≤4611686018427387904∧(n=0∨∃ b off,ad=some ⟨b,off,none⟩∧N b∧C00 w b∧∀ i,i < n→F fun j=>w.cell? ⟨b,off+i * sz+j,none⟩)
def SimG (g g':Nat→Option Value):Prop:=∀ j u,g j=some u→∃ u',g' j=some u'∧SimV u u'
theorem SimG.int {g g':Nat→Option Value} (h:SimG g g') {j:Nat}{k:IntKind} (e:∃ m,g j=some (.int k m)):∃ m,g' j=some (.int k m):=by
 obtain ⟨m,e⟩:=e
 obtain ⟨u',h1,h2⟩:=h j _ e
 rcases h2 with rfl | ⟨k',m',n',e1,rfl⟩
 ·exact ⟨m,h1⟩
 ·cases e1;exact ⟨n',h1⟩
theorem SimG.slice {g g':Nat→Option Value} (h:SimG g g') {j n c:Nat}{ad:Option Addr} (e:g j=some (.slice ad n c)):g' j=some (.slice ad n c):=by
 obtain ⟨u',h1,h2⟩:=h j _ e
 rcases h2 with rfl | ⟨k',m',n',e1,rfl⟩
 ·exact h1
 ·cases e1
theorem Win.sim {N:Nat→Prop}{w w':World} (h:Sim N w w') {sz n:Nat}{F F':(Nat→Option Value)→Prop} (hF:∀ g g',SimG g g'→F g→F' g') {v:Value} (hv:Win N w sz F n v):Win N w' sz F' n v:=by
 obtain ⟨ad,c,e,hn,r⟩:=hv
 refine ⟨ad,c,e,hn,r.imp id ?_⟩
 rintro ⟨b,off,ha,hb,h0,hr⟩
 exact ⟨b,off,ha,hb,h.c00 b hb h0,fun i hi=>hF _ _ (fun j u hu=>h.cell b _ u hb hu) (hr i hi)⟩
mutual
def dropF:PV→PV
 | .ag ps=>.ag (dropL ps)
 | .tu ps=>.tu (dropL ps)
 | .cl f ps=>.cl f (dropL ps)
 | .cm f ps=>.cm f (dropL ps)
 | .sc v=>.sc v
 | .sl sz rows=>.sl sz rows
 | .nl=>.nl
 | .ow k lo len=>.ow k lo len
 | .pt k off=>.pt k off
 | .ep sfx=>.ep sfx
 | .eo k i off=>.eo k i off
 | .ub φ=>.ub φ
 | .nn kd=>.nn kd
 | .bs k off len=>.bs k off len
 | _=>.bad
def dropL:List PV→List PV
 | []=>[]
 | p :: ps=>dropF p :: dropL ps
end
def Mem.dr (M:Mem):Mem:=⟨M.st,M.bx,M.ob,fun _=>False⟩
section
variable {M:Mem}{w w':World}
theorem dr_cl (hst:∀ b,M.st b→w'.heap[b]?=w.heap[b]?):M.cl.Le M.dr.cl w w':=⟨fun _ h=>h,(fun _ _ h=>by cases h),(fun _ _ h=>by cases h),hst,(fun _ h=>h.elim),(fun _ h=>h.elim)⟩
mutual
theorem RV.drop (hst:∀ b,M.st b→w'.heap[b]?=w.heap[b]?):∀ (p:PV) (v:Value),RV M w p v→RV M.dr w' (dropF p) v
 | .fs ..,v,_=>by simp [RV,dropF]
 | .ls ..,v,_=>by simp [RV,dropF]
 | .lp ..,v,_=>by simp [RV,dropF]
 | .bad,v,_=>by simp [RV,dropF]
 | .ag ps,v,hv=>by
  simp only [RV,dropF] at hv ⊢
  obtain ⟨cs,e,r⟩:=hv
  exact ⟨cs,e,RVL.drop' hst ps _ r⟩
 | .tu ps,v,hv=>by
  simp only [RV,dropF] at hv ⊢
  obtain ⟨cs,e,r⟩:=hv
  exact ⟨cs,e,RVL.drop' hst ps _ r⟩
 | .cl f ps,v,hv=>by
  simp only [RV,dropF] at hv ⊢
  obtain ⟨cs,e,r⟩:=hv
  exact ⟨cs,e,RVL.drop' hst ps _ r⟩
 | .cm f ps,v,hv=>by
  simp only [RV,dropF] at hv ⊢
  obtain ⟨cs,e,r⟩:=hv
  exact ⟨cs,e,RVL.drop' hst ps _ r⟩
 | .sc x,v,hv=>by simpa [RV,dropF] using hv
 | .sl sz rows,v,hv=>by
  simp only [RV,dropF] at hv ⊢
  obtain ⟨a,n,c,e,hn,hc,r⟩:=hv
  refine ⟨a,n,c,e,hn,hc,?_⟩
  rcases r with r | ⟨b,off,cs,ha,hs,hcl,hr⟩
  ·exact .inl r
  ·exact .inr ⟨b,off,cs,ha,hs,hcl.mono (hst b hs),RVR.mono (dr_cl hst) sz rows _ hr⟩
 | .nl,v,hv=>by simpa [RV,dropF] using hv
 | .ow k lo len,v,hv=>by simp only [RV,dropF] at hv ⊢;exact hv
 | .pt k off,v,hv=>by simp only [RV,dropF] at hv ⊢;exact hv
 | .bs k off len,v,hv=>by simp only [RV,dropF] at hv ⊢;exact hv
 | .ep sfx,v,hv=>by
  simp only [RV,dropF] at hv ⊢
  obtain ⟨b,off,cs,e,hs,hcl,hr⟩:=hv
  exact ⟨b,off,cs,e,hs,hcl.mono (hst b hs),RVL.mono (dr_cl hst) sfx _ hr⟩
 | .eo k i off,v,hv=>by simp only [RV,dropF] at hv ⊢;exact hv
 | .ub φ,v,hv=>by simp only [RV,dropF] at hv ⊢;exact hv
 | .nn kd,v,hv=>by simp only [RV,dropF] at hv ⊢;exact hv
theorem RVL.drop' (hst:∀ b,M.st b→w'.heap[b]?=w.heap[b]?):∀ (ps:List PV) (cs:List Value),RVL M w ps cs→RVL M.dr w' (dropL ps) cs
 | [],cs,hv=>by simpa [RVL,dropL] using hv
 | p :: ps,cs,hv=>by
  simp only [RVL,dropL] at hv ⊢
  obtain ⟨c,r,e,h1,h2⟩:=hv
  exact ⟨c,r,e,RV.drop hst p c h1,RVL.drop' hst ps r h2⟩
end
end
section
variable {w0:World}{X:Nat→Prop}{S0:Base}{M:Mem}{B:BMap}{O:OMap}{w w':World}
theorem HRel.spoil (h:HRel w0 X S0 M B O w) (hs:Sim M.nw w w'):HRel w0 X S0 M.dr (fun k=>(B k).map dropL) O w':=by
 have hst:∀ b,M.st b→w'.heap[b]?=w.heap[b]?:=fun b hb=>hs.kept b (h.stlt b hb) fun x=>(h.nwok b x).2.2 hb
 refine { os:=hs.os.trans h.os,tape:=hs.tape.trans h.tape,out:=hs.out.trans h.out,size:=Nat.le_trans h.size hs.size,kept:=fun b hb hx=>?_,stlt:=fun b hb=>Nat.lt_of_lt_of_le (h.stlt b hb) hs.size,stok:=h.stok,box:=fun k ls hk=>?_,boxKey:=fun k b hk=>?_,obj:=fun k fz sz rows hk=>?_,objKey:=h.objKey,boxNe:=h.boxNe,objNe:=h.objNe,boxObj:=h.boxObj,pinB:=h.pinB,pinO:=h.pinO,nwok:=fun _ hb=>hb.elim,c00:=⟨fun b hb=>(h.c00.1 b hb).imp id (C00.of (hst b hb)),fun _ hb=>hb.elim⟩ }
 ·rw [hs.kept b (Nat.lt_of_lt_of_le hb h.size) fun x=>?_]
  ·exact h.kept b hb hx
  ·rcases (h.nwok b x).2.1 with y | y
   ·omega
   ·exact hx y
 ·cases hB:B k with
  | none=>rw [hB] at hk;cases hk
  | some l =>
   rw [hB] at hk;cases hk
   obtain ⟨b,T,cs,h1,h2,h3,h4⟩:=h.box k l hB
   exact ⟨b,T,cs,h1,⟨h2.1,fun x=>h2.2 (.inl (x.resolve_right id))⟩,by rw [hs.kept b (zag h3) fun x=>h2.2 (.inr x)];exact h3,RVL.drop' hst _ _ h4⟩
 ·obtain ⟨ls,hl⟩:=h.boxKey k b hk
  exact ⟨dropL ls,by rw [hl];rfl⟩
 ·obtain ⟨L,h1,h2,h3⟩:=h.obj k fz sz rows hk
  refine ⟨L,h1,h2,?_⟩
  rcases h3 with h3 | ⟨h3,hf,ho,c,E,h5,h6,h7,h8,h9⟩
  ·exact .inl h3
  ·refine .inr ⟨h3,hf,fun e=>⟨(ho e).1,fun x=>(ho e).2 (.inl (x.resolve_right id))⟩,c,E,?_,h6,h7,h8,RVR.mono (dr_cl hst) _ _ _ h9⟩
   cases fz with
   | true=>rw [hst _ (hf rfl)];exact h5
   | false=>rw [hs.kept _ (zag h5) fun x=>(ho rfl).2 (.inr x)];exact h5
theorem Rel.spoil {s:St}{a:Act} (h:Rel w0 X S0 M s a w) (hs:Sim M.nw w w'):Rel w0 X S0 M.dr ⟨s.tmps.map dropF,fun k=>(s.B k).map dropL,s.O⟩ a w':=by
 refine ⟨h.toHRel.spoil hs,h.dfr,by simp [h.len],fun t=>?_⟩
 have hst:∀ b,M.st b→w'.heap[b]?=w.heap[b]?:=fun b hb=>hs.kept b (h.stlt b hb) fun x=>(h.nwok b x).2.2 hb
 have:=RV.drop hst _ _ (h.tmp t)
 rw [List.getD_eq_getElem?_getD] at this ⊢
 rw [List.getElem?_map]
 cases hx:s.tmps[t]? with
 | none=>simp [RV]
 | some p=>rw [hx] at this;simpa using this
end
theorem Rel.pt {w0:World}{X:Nat→Prop}{S0:Base}{M:Mem}{s:St}{a a':Act}{w:World} (h:Rel w0 X S0 M s a w) {d:Option Nat}{v:Value} (p:Pt d v a a'):Rel w0 X S0 M ⟨setT s.tmps d .bad,s.B,s.O⟩ a' w:=by
 refine ⟨h.toHRel,p.df.trans h.dfr,by rw [zk5,h.len,p.sz],fun t=>?_⟩
 have hg:a'.tmps.getD t undef=if d=some t then v else a.tmps.getD t undef:=p.gv t
 rw [hg]
 by_cases e:d=some t
 ·subst e
  rw [if_pos rfl]
  by_cases hd:t < s.tmps.length
  ·simp [setT,List.getD,hd,RV]
  ·simp [setT,List.getD,hd,RV]
 ·rw [if_neg e,zju e];exact h.tmp t
theorem zal {c:CSt}{p r:PV}{os:List (Nat×List (List PV))} (rn:List (Nat×Nat)) (h1:rnB rn ((osL 0 os).map (·.1))=true) (h2:wkOK rn c.ob [] (osL 0 os)) (h3:WkV [] rn [] p r):ExitOk c p r os:=by
 refine ⟨.inl ⟨[],rn,⟨by simp,?_,?_,?_⟩,h3⟩⟩
 ·intro k o hk
  rcases zg7 h2 k o hk with e0 | ⟨k0,q,a,b,d,e⟩
  ·exact .inl e0
  ·exact .inr ⟨k0,q,a,b,d,by simp⟩
 ·intro k k0 hk
  simp only [rnB,Bool.and_eq_true,List.all_eq_true] at h1
  have:=h1.1 _ (zhs hk)
  simp only [List.any_eq_true] at this
  obtain ⟨j,hj,e⟩:=this
  have e:j=k:=by simpa using e
  subst e
  exact zjd hj
 ·intro k k' k0 hk hk'
  simp only [rnB,Bool.and_eq_true,List.all_eq_true] at h1
  have:=h1.2 _ (zhs hk) _ (zhs hk')
  simpa using this
theorem zao {kb:List Nat}{rn:List (Nat×Nat)}{fz:List (Nat×Bool×Nat×List (List PV))}{ps qs:List PV} (h:wkLK kb rn fz qs ps):WkV kb rn fz (.ag ps) (.ag qs):=by
 simp only [WkV];exact ⟨ps,rfl,zd0 _ _ _ _ _ h⟩
theorem zat {kb:List Nat}{rn:List (Nat×Nat)}{fz:List (Nat×Bool×Nat×List (List PV))}{ps qs:List PV} (h:wkLK kb rn fz qs ps):WkV kb rn fz (.tu ps) (.tu qs):=by
 simp only [WkV];exact ⟨ps,rfl,zd0 _ _ _ _ _ h⟩
theorem znh {kb:List Nat}{rn:List (Nat×Nat)}{fz:List (Nat×Bool×Nat×List (List PV))}{f:Nat}{ps qs:List PV} (h:wkLK kb rn fz qs ps):WkV kb rn fz (.cl f ps) (.cl f qs):=by
 simp only [WkV];exact ⟨ps,rfl,zd0 _ _ _ _ _ h⟩
theorem zo7 {kb:List Nat}{rn:List (Nat×Nat)}{fz:List (Nat×Bool×Nat×List (List PV))}{sz:Nat}{rows:List (List PV)} (h:rows.all (kbOkL kb)=true):WkV kb rn fz (.ls sz rows) (.ls sz rows):=by
 simp only [WkV];exact ⟨trivial,h⟩
theorem znq {P:Program}{f:Nat}{ps qs:List PV}{r:PV}{os:List (Nat×List (List PV))}{K:PV→List (Nat×List (List PV))→Prop} (h:Ctr P f qs r os) (e:ps=qs) (k:K r os):∃ r os,Ctr P f ps r os∧K r os:=⟨r,os,e ▸ h,k⟩
def fzL (n:Nat):List (Nat×List (List PV))→List (Nat×Bool×Nat×List (List PV))
 | []=>[]
 | (sz,rows) :: os=>(n,false,sz,rows) :: fzL (n+1) os
theorem zyn:∀ {os:List (Nat×List (List PV))}{n:Nat}{q:Nat×Bool×Nat×List (List PV)},q ∈ fzL n os→n≤q.1∧os[q.1 - n]?=some q.2.2∧q.2.1=false
 | [],n,q,h=>by simp [fzL] at h
 | (sz,rows) :: os,n,q,h=>by
  simp only [fzL,List.mem_cons] at h
  rcases h with rfl | h
  ·simp
  ·obtain ⟨h1,h2,h3⟩:=zyn h
   refine ⟨by omega,?_,h3⟩
   rw [show q.1 - n=(q.1 - (n+1))+1 by omega];simpa using h2
theorem Ctr.frz {P:Program}{f:Nat}{args:List PV}{r r':PV}{os:List (Nat×List (List PV))} (h:Ctr P f args r os) (hw:WkV [] [] (fzL 0 os) r r'):Ctr P f args r' []:=by
 refine ⟨?_⟩
 intro w st vs hst hvs
 have key:∀ e w',(∃ v M',e=Ending.returned v∧RV M' w' r v∧HRel w (fun _=>False) (Base.of st) M' (fun _=>none) (osMap os) w')→∃ v M',e=Ending.returned v∧RV M' w' r' v∧HRel w (fun _=>False) (Base.of st) M' (fun _=>none) (osMap []) w':=by
  rintro e w' ⟨v,M',he,hv,hr⟩
  have e1:lkA (osL 0 os)=osMap os:=by
   funext k
   rw [znz]
   simp only [Nat.zero_le,if_true,Nat.sub_zero,osMap]
   cases os[k]?<;>rfl
  have e2:(lkA ([]:List (Nat×List PV)))=fun _=>none:=by funext k;rfl
  rw [← e1,← e2] at hr
  obtain ⟨M1,hle,hF,hnew⟩:=HRel.ren (c:=⟨[],[],osL 0 os⟩) (fz:=fzL 0 os) (rn:=[]) (bx':=[]) (ob':=[]) hr (fun _ _ h=>by cases h) (fun _ _ h=>by cases h) ⟨(by
   intro q hq
   obtain ⟨h1,h2,h3⟩:=zyn hq
   show lkA (osL 0 os) q.1=_
   rw [znz,if_pos h1,h2]
   simp only [Option.map_some,Option.some.injEq]
   rw [← h3]),by simp [lkA],by simp [lkA],by simp [lkA]⟩ (by simp [lkA])
  have e3:lkA ([]:List (Nat×Option (Bool×Nat×List (List PV))))=osMap []:=by funext k;simp [lkA,osMap]
  rw [e3,e2] at hnew
  exact ⟨v,_,he,WkV.sound hF _ _ _ hw (RV.mono hle _ _ hv),hnew⟩
 rcases h.run w st vs hst hvs with ⟨h1,h2⟩ | ⟨v,w',h1,h2⟩
 ·exact .inl ⟨h1,h2.mono fun e w'=>key e w'⟩
 ·exact .inr ⟨v,w',h1,key _ _ h2⟩
theorem Tri.wk {P:Program}{code:Code}{Q:Exit→CSt→Prop}{c c':CSt} (hw:Wk c c') (h:Tri P code Q c'):Tri P code Q c:=by
 refine ⟨?_⟩
 intro w0 X S0 M a w hr
 obtain ⟨M',hr'⟩:=hw w0 X S0 M a w hr
 exact h.run w0 X S0 M' a w hr'
theorem zwd {c:CSt} (slot K sz:Nat) (hs:c.tm.getD slot .bad=.nl) (hK:lkA c.ob K=none):Wk c ⟨c.tm.set slot (.ow K 0 0),c.bx,(K,some (false,sz,[])) :: c.ob⟩:=by
 intro w0 X S0 M a w hr
 obtain ⟨M',hnew,hle,hob⟩:=hr.toHRel.addObj (k:=K) hK ⟨0,sz,0,true⟩ (rows:=[]) (.inl ⟨rfl,rfl⟩) (fun _ _ _ h=>by cases h) (fun _ _ _ _ _ _ h=>by cases h)
 have e:upd (lkA c.ob) [(K,some (false,sz,[]))]=lkA ((K,some (false,sz,[])) :: c.ob):=by
  funext j
  rw [zaz]
  simp only [lkA]
  by_cases ej:j=K
  ·subst ej;simp
  ·rw [if_neg ej,zbj (fun x=>ej x.symm)];rfl
 refine ⟨M',?_,hr.dfr,?_,?_⟩
 ·have h2:HRel w0 X S0 M' (lkA c.bx) (upd (lkA c.ob) [(K,some (false,sz,[]))]) w:=hnew
  rw [e] at h2
  exact h2
 ·have:=hr.len
  simpa [CSt.st] using this
 ·intro t
  have ht:=RV.mono hle _ _ (hr.tmp t)
  by_cases et:slot=t
  ·subst et
   have hs':c.st.tmps.getD slot .bad=.nl:=hs
   rw [hs'] at ht
   simp only [RV] at ht
   obtain ⟨ad,hv⟩:=ht
   by_cases hlt:slot < c.tm.length
   ·have e2:(c.tm.set slot (.ow K 0 0)).getD slot .bad=.ow K 0 0:=by simp [List.getD,hlt]
    show RV M' w ((c.tm.set slot (.ow K 0 0)).getD slot .bad) _
    rw [e2]
    simp only [RV]
    exact ⟨_,hob,.inl ⟨rfl,rfl,ad,hv⟩⟩
   ·rw [List.getD_eq_getElem?_getD,List.getElem?_eq_none (by omega)] at hs
    cases hs
  ·show RV M' w ((c.tm.set slot (.ow K 0 0)).getD t .bad) _
   rw [List.getD_eq_getElem?_getD,List.getElem?_set_ne et,← List.getD_eq_getElem?_getD]
   exact ht
theorem zfx {P:Program}{code:Code}{Q:Exit→CSt→Prop}{tm:List PV}{bx:List (Nat×List PV)}{ob:List (Nat×Option (Bool×Nat×List (List PV)))} (slot K sz:Nat) (hs:lkK .bad tm slot fun p=>p=.nl) (hK:lkA ob K=none) (h:stK tm slot (.ow K 0 0) fun tm'=>Tri P code Q ⟨tm',bx,(K,some (false,sz,[])) :: ob⟩):Tri P code Q ⟨tm,bx,ob⟩:=by
 rw [zni] at hs
 rw [zje] at h
 exact Tri.wk (zwd slot K sz hs hK) h
theorem wk_w1 {i:Nat} (h:(i:Int) < 9223372036854775807):IntKind.i64.wrap ((i:Int)+1)=((i+1:Nat):Int):=by
 simp [IntKind.wrap,IntKind.signed,IntKind.bits]
 omega
theorem zz8 {b:Bool}{sz sz':Nat}{r r':List (List PV)} (h:sz=sz') (h2:r=r'):(b,sz,r)=(b,sz',r'):=by subst h;subst h2;rfl
theorem wk_app {α:Type}{f:α→List PV}{l:List α}{n:Nat}{x:List PV} (hn:n=(l.map f).length) (y:α) (hx:x=f y):(l.map f).take n++[x]=(l++[y]).map f:=by
 subst hn;subst hx;simp [List.take_of_length_le]
theorem wkx {A C:Prop}{B:Nat×Bool×Nat×List (List PV)→Prop} (c:C) (a:A:=by with_unfolding_all rfl) (b:∀ q ∈ ([]:List (Nat×Bool×Nat×List (List PV))),B q:=by intro q h;cases h):(A∧∀ q ∈ ([]:List (Nat×Bool×Nat×List (List PV))),B q)∧C:=⟨⟨a,b⟩,c⟩
theorem wkc {p:Prop} (h:p:=by first | exact True.intro | with_reducible exact rfl | exact (rfl:List.replicate 0 PV.bad=[])):p:=h
theorem wks {p:Prop} (h:p:=by first | with_reducible exact zae _ rfl | exact zqq rfl rfl | exact zas rfl rfl rfl | exact zo7 rfl):p:=h
theorem wko {kb:List Nat}{rn:List (Nat×Nat)}{fz:List (Nat×Bool×Nat×List (List PV))}{k k0 lo len lo' len':Nat} (e2:len=len') (h:lkA rn k=some k0:=by exact rfl) (e1:lo=lo':=by exact rfl):WkV kb rn fz (.ow k0 lo len) (.ow k lo' len'):=zas h e1 e2
theorem wki {kb:List Nat}{rn:List (Nat×Nat)}{fz:List (Nat×Bool×Nat×List (List PV))}{a b:Int} (h:a=b):WkV kb rn fz (.sc (.int .i64 a)) (.sc (.int .i64 b)):=zha (congrArg (Value.int .i64) h)
theorem wkb {kb:List Nat}{rn:List (Nat×Nat)}{fz:List (Nat×Bool×Nat×List (List PV))}{a b:Bool} (h:a=b):WkV kb rn fz (.sc (.bool a)) (.sc (.bool b)):=zha (congrArg Value.bool h)
theorem agD {p:Prop} (h:p:=by (conv=>whnf);repeat' (first | exact rfl | ((with_reducible refine And.intro ?_ ?_)<;>(first | (with_reducible exact zae _ rfl) | exact .inl rfl | (conv=>whnf))))):p:=h
theorem tNew0 {α:Type}{x:α}{A B C K:α→Prop} (k:K x) (a:A x:=by exact rfl) (b:B x:=by intro q _;simp only [List.length_nil];omega) (c:C x:=by intro i hi;exact absurd hi (Nat.not_lt_zero i)):∃ x,A x∧B x∧C x∧K x:=⟨x,a,b,c,k⟩
theorem tOwn0 {A B:Prop} (b:B) (a:A:=by first | with_reducible exact Nat.le_of_eq (Nat.zero_add _) | (simp only [List.length_map,List.length_set,Nat.zero_add];omega)):A∧B:=⟨a,b⟩
theorem wkD {p:Prop} (h:p:=by (refine And.intro (And.intro (by with_unfolding_all rfl) (by intro q h;cases h)) ?_;refine And.intro ?_ (And.intro ?_ ?_)<;>(conv=>whnf)<;>(repeat' (first | exact True.intro | (with_reducible exact rfl) | exact (rfl:List.replicate 0 PV.bad=[]) | ((with_reducible refine And.intro ?_ ?_)<;>(first | (with_reducible exact zae _ rfl) | exact zqq rfl rfl | exact zas rfl rfl rfl | (refine zas rfl rfl ?_) | (refine zha (congrArg (Value.int .i64) ?_)) | (refine zha (congrArg Value.bool ?_)) | exact zo7 rfl | ((refine znh ?_);conv=>whnf) | ((refine zat ?_);conv=>whnf) | ((refine zao ?_);conv=>whnf) | (conv=>whnf))))));all_goals first | rfl | exact .inl rfl | exact wk_w1 (by omega) | exact .inr (.inl ⟨rfl,rfl⟩) | exact .head _ | exact .tail _ (.head _) | (refine zz8 (by kernel_rfl) ?_;exact wk_app rfl _ rfl) | (simp only [List.map_append,List.length_append];rfl) | (simp;done)):p:=h
structure ExitE (c:CSt) (p r:PV) (bx':List (Nat×List PV)) (ob':List (Nat×Option (Bool×Nat×List (List PV)))):Prop where
 ok:Wk ⟨[p],c.bx,c.ob⟩ ⟨[r],bx',ob'⟩
theorem zcm {c:CSt}{p r:PV}{bx':List (Nat×List PV)}{ob':List (Nat×Option (Bool×Nat×List (List PV)))} (rn:List (Nat×Nat)) (fz:List (Nat×Bool×Nat×List (List PV))) (h:wkK rn fz ⟨[p],c.bx,c.ob⟩ [r] bx' ob'):ExitE c p r bx' ob':=⟨zc4 h⟩
def z07 (P:Program) (rs:List ResultVar) (r:PV) (bx':List (Nat×List PV)) (ob':List (Nat×Option (Bool×Nat×List (List PV)))) (e:Exit) (c:CSt):Prop :=
 match e with
 | .ret=>zf2 P c rs fun p=>ExitE c p r bx' ob'
 | .normal=>zf2 P c rs fun p=>ExitE c p r bx' ob'
 | _=>False
theorem zfm {P : Program} {fn : Func} {w0 : World} {X : Nat → Prop} {S0 : Base} {M : Mem} {c : CSt} {a : Act} {w : World} {r : PV} {bx' : List (Nat × List PV)} {ob' : List (Nat × Option (Bool × Nat × List (List PV)))} (hr : Rel w0 X S0 M c.st a w) (h : zf2 P c fn.results.toList fun p => ExitE c p r bx' ob') :
    ∃ v,(results fn a.tmps).run P w=.ok v w∧∃ M',RV M' w r v∧HRel w0 X S0 M' (lkA bx') (lkA ob') w:=by
 unfold zf2 at h
 obtain ⟨F,hF,hF1,hF2⟩:∃ F:ResultVar→Sem Value,results fn a.tmps=(do let vs ← fn.results.mapM F;pure (if h:vs.size=1 then vs[0] else .tuple vs))∧(∀ t,F (.tmp t)=pure (a.tmps.getD t undef))∧(∀ ad t,F (.cell ad t)=do loadVar t (← asAddr (a.tmps.getD ad undef))):=⟨_,rfl,fun _=>rfl,fun _ _=>rfl⟩
 obtain ⟨ps,vs,h1,h2,h3⟩:=zd3 hr F hF1 hF2 h
 have hlen:=h1.length
 have hres:(results fn a.tmps).run P w=.ok (if h:vs.length=1 then vs[0] else .tuple vs.toArray) w:=by
  rw [hF,Array.mapM_eq_mapM_toList]
  simp only [Sem.run_bind,Sem.run_map,h2]
  simp
 have fin:∀ p,ExitE c p r bx' ob'→∀ v,RV M w p v→∃ M',RV M' w r v∧HRel w0 X S0 M' (lkA bx') (lkA ob') w:=by
  rintro p ⟨hk⟩ v hv
  obtain ⟨M',hr'⟩:=hk w0 X S0 M { tmps:=#[v],defers:=[] } w ⟨hr.toHRel,rfl,rfl,fun t=>by
   cases t with
   | zero=>exact hv
   | succ t=>simp [CSt.st,RV]⟩
  exact ⟨M',hr'.tmp 0,hr'.toHRel⟩
 split at h3
 ·rename_i p
  simp only [RVL] at h1
  obtain ⟨v,rr,rfl,h4,rfl⟩:=h1
  refine ⟨v,by rw [hres];simp,fin p h3 v h4⟩
 ·rename_i ps hne
  have hl1:vs.length ≠ 1:=by
   rw [hlen]
   intro e
   obtain ⟨p,rfl⟩:=List.length_eq_one_iff.1 e
   exact hne p rfl
  refine ⟨.tuple vs.toArray,by rw [hres,dif_neg hl1],fin _ h3 _ ?_⟩
  simp only [RV]
  exact ⟨vs.toArray,rfl,by simpa using h1⟩
theorem zny {P : Program} (hm : P.follows .mixedOrders = true) {f : Nat} {fn : Func} {code : Code} {args : List PV} {r : PV} {bx bx' : List (Nat × List PV)} {ob ob' : List (Nat × Option (Bool × Nat × List (List PV)))} (hf : P.funcs[f]? = some fn) (hb : fn.body = some code) (hname : (fn.name == "runtime.NumGoroutine") = false) (hok : zb0 code = true)
    (h:pwp P code ⟨args++List.replicate (fn.ntmps - args.length) .bad,bx,ob⟩ (z07 P fn.results.toList r bx' ob')):CtrE P f args bx ob r bx' ob':=by
 refine ⟨?_⟩
 intro w X M vs h0 hvs
 left
 refine ⟨by simp [callFunc,hf,hb];simpa using hname,?_⟩
 refine calls_of_wp hf hb ?_
 have hlen:=hvs.length
 have hrel:Rel w X (zgk M) M (CSt.st ⟨args++List.replicate (fn.ntmps - args.length) .bad,bx,ob⟩) { tmps:=vs.toArray++Array.replicate (fn.ntmps - vs.toArray.size) undef,defers:=[] } w:=by
  refine ⟨h0,rfl,?_,?_⟩
  ·simp [CSt.st,hlen]
  ·intro t
   simp only [CSt.st]
   rw [List.getD_eq_getElem?_getD,Array.getD_eq_getD_getElem?,List.getElem?_append,Array.getElem?_append]
   by_cases ht:t < args.length
   ·rw [if_pos ht,if_pos (by simp;omega)]
    obtain ⟨c,hc,hv⟩:=hvs.get t (p:=args[t]) (by simp [ht])
    simp [ht,hc]
    exact hv
   ·rw [if_neg ht]
    rw [List.getElem?_replicate]
    split<;>simp [RV]
 refine wp_mono ((zb2 hm code _ _ hok h).run w X (zgk M) M _ w hrel) ?_
 rintro e a' w' ⟨c',M',hr',hq⟩
 cases e with
 | ret =>
  obtain ⟨v,h1,M'',h2,h3⟩:=zfm (fn:=fn) hr' hq
  exact ⟨hr'.dfr,v,h1,v,M'',rfl,h2,h3⟩
 | normal =>
  obtain ⟨v,h1,M'',h2,h3⟩:=zfm (fn:=fn) hr' hq
  exact ⟨hr'.dfr,v,h1,v,M'',rfl,h2,h3⟩
 | exit i=>exact hq.elim
 | goto i=>exact hq.elim
 | panic ch=>exact hq.elim
 | outgrown=>exact hq.elim
theorem zuj {P:Program}{f:Nat}{qs:List PV}{r:PV}{bx bx':List (Nat×List PV)}{ob ob':List (Nat×Option (Bool×Nat×List (List PV)))}{K:PV→List (Nat×List PV)→List (Nat×Option (Bool×Nat×List (List PV)))→Prop} (h:CtrE P f qs bx ob r bx' ob') (k:K r bx' ob'):∃ r bx' ob',CtrE P f qs bx ob r bx' ob'∧K r bx' ob':=⟨r,bx',ob',h,k⟩
theorem zaj {P : Program} {f : Nat} {fn : Func} {code : Code} {args : List PV} {r : PV} {bx bx' : List (Nat × List PV)} {ob ob' : List (Nat × Option (Bool × Nat × List (List PV)))} (hf : P.funcs[f]? = some fn)
    (h:pwp P code ⟨args++List.replicate (fn.ntmps - args.length) .bad,bx,ob⟩ (z07 P fn.results.toList r bx' ob')) (hb:fn.body=some code:=by exact rfl) (hm:P.follows .mixedOrders=true:=by exact mixed) (hname:(fn.name == "runtime.NumGoroutine")=false:=by kernel_rfl) (hok:zb0 code=true:=by kernel_rfl):CtrE P f args bx ob r bx' ob':=zny hm hf hb hname hok h
end Go.Pv
