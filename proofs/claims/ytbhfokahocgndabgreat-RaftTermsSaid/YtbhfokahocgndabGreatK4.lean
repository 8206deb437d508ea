import Derived.Test.YtbhfokahocgndabGreatI1
import Derived.Test.YtbhfokahocgndabGreatC24
import Derived.Test.YtbhfokahocgndabGreatC1
import Derived.Test.YtbhfokahocgndabGreatH2
import Derived.Test.YtbhfokahocgndabGreatC5
import Derived.Test.YtbhfokahocgndabGreatPvV4
import Derived.Test.YtbhfokahocgndabGreatC54
import Derived.Test.YtbhfokahocgndabGreatC13
import Derived.Test.YtbhfokahocgndabGreatC47
/- Contracts of functions: a call is put into the log. -/
set_option linter.unusedSimpArgs false
set_option linter.unusedVariables false
namespace Go.Proofs
open Go.Pv
set_option maxRecDepth 100000
noncomputable def zdx (r:Rft):Int:=if r.role=3 then (if bitB (zac r).full r.id=true then 0 else 11) else 11
theorem zse (c:Conf) (i:Int):kindR c i=kind c i:=by
 rw [zov]
 cases h:zap i 0 6 with
 | false =>
  unfold kindR
  rw [h,if_neg (by decide)]
  simp only [zl0 h];rfl
 | true =>
  have hi:0≤i∧i≤6:=by simpa [zap] using h
  obtain ⟨n,rfl⟩:∃ n:Nat,i=n:=⟨i.toNat,by omega⟩
  have hn:n < 7:=by omega
  rw [zq6 c hn]
  have e:∀ b,bitB b n=tb b n:=fun b=>by rw [← zhw h,zcv b n (by omega)]
  simp only [e]
abbrev ec (r:Rft) (c:VCall):Ent:=⟨r.hard.term,1,c,cz⟩
noncomputable def propE (r:Rft) (c:VCall):Int:=if zdx r=0 then (if callR c=0 then (if r.hard.log.length < 64 then 0 else 5) else callR c) else 11
theorem zum (c:Conf):Ctr Tryz.prog 154 [.ag c.enc] (iv (bor (bor (bor c.full c.wit) c.learn) c.lwit)) []:=by
 refine sBody Tryz.func154 ?_;conv=>whnf
 exact zab rfl rfl
theorem zuo (a:Hrd) (hm:a.log.length≤maxLen) (hb:0≤a.base) (hs:a.base+a.log.length < 9223372036854775808) (i:Int) (hi:isI i):Ctr Tryz.prog 20 [.ag a.enc,iv i] (bv (fits a i a.term)) []:=by
 have kt:=zjs a hm hb hs i hi
 refine sBody Tryz.func20 ?_;conv=>whnf
 (refine tSp (fun h=>?_) (fun h=>?_)<;>conv=>whnf)
 ·((try (refine Exists.intro none ?_;conv=>whnf));(with_reducible refine zaa (kt) ?_);conv=>whnf)
  exact zab rfl (by simp [fits,h])
 ·exact zab rfl (by simp [fits,h])
theorem c_rMay (a:Hrd) (hm:a.log.length≤maxLen) (hb:0≤a.base) (hs:a.base+a.log.length < 9223372036854775808) (i:Int) (hi:isI i):Ctr Tryz.prog 168 [.ag a.enc,iv i] (bv (fits a i a.term && decide ((force a (lastI a)).2≤i))) []:=by
 have kl:=zb0 a hm
 have kf:=zi9 a hm (lastI a)
 have ko:=zuo a hm hb hs i hi
 refine sBody Tryz.func168 ?_;conv=>whnf
 ((try (refine Exists.intro none ?_;conv=>whnf));(with_reducible refine zaa (kl) ?_);conv=>whnf)
 ((try (refine Exists.intro none ?_;conv=>whnf));(with_reducible refine zaa (kf) ?_);conv=>whnf)
 ((try (refine Exists.intro none ?_;conv=>whnf));(with_reducible refine zaa (ko) ?_);conv=>whnf)
 (refine tSp (fun h=>?_) (fun h=>?_)<;>conv=>whnf)
 ·exact zab rfl (by simp [h])
 ·exact zab rfl (by simp [h])
theorem zfs (r:Rft) (hm:r.hard.log.length≤maxLen):Ctr Tryz.prog 166 [.ag r.enc] (bv (decide (zdx r=0))) []:=by
 have kc:=zb7 r hm
 have kk:=zl8 (zac r) r.id
 unfold zdx
 refine sBody Tryz.func166 ?_;conv=>whnf
 (refine tSp (fun h=>?_) (fun h=>?_)<;>conv=>whnf)
 ·have h:r.role=3:=h
  rw [if_pos h]
  ((try (refine Exists.intro none ?_;conv=>whnf));(with_reducible refine zaa (kc) ?_);conv=>whnf)
  ((try (refine Exists.intro none ?_;conv=>whnf));(with_reducible refine zaa (kk) ?_);conv=>whnf)
  refine zab rfl ?_
  rw [zny]
  cases hq:bitB (zac r).full r.id<;>rfl
 ·have h:¬ r.role=3:=h
  rw [if_neg h]
  exact zab rfl rfl
theorem zmb {x:Int}{k:Nat} (hk:k < 62) (hx:0≤x∧x < ((2 ^ k:Nat):Int)):bor x (shl 1 k)=x+((2 ^ k:Nat):Int):=by
 obtain ⟨n,rfl⟩:∃ n:Nat,x=n:=⟨x.toNat,by omega⟩
 have hn:n < 2 ^ k:=by omega
 have h2:2 ^ k≤2 ^ 61:=Nat.pow_le_pow_right (by decide) (by omega)
 have h3:(2:Nat) ^ 61=2305843009213693952:=by decide
 have e0:2 ^ k+n=2 ^ k ||| n:=by have:=Nat.two_pow_add_eq_or_of_lt hn 1;rwa [Nat.mul_one] at this
 have e:(n:Int)+((2 ^ k:Nat):Int)=((2 ^ k+n:Nat):Int):=by omega
 rw [e]
 refine ext64 (zwg _ _) (by unfold isI;omega) fun i hi=>?_
 rw [tb_or,zga k i (by omega),zh9 n i (by omega),zh9 (2 ^ k+n) i (by omega),e0,Nat.testBit_or,Nat.testBit_two_pow]
 exact Bool.or_comm _ _
theorem zrf (m:Arr) (n:Int):∀ k:Nat,k≤7→0≤haveB m n k∧haveB m n k < ((2 ^ k:Nat):Int)
 | 0,_=>by show (0:Int)≤0∧(0:Int) < ((2 ^ 0:Nat):Int);decide
 | k+1,h=>by
  have ih:=zrf m n k (by omega)
  have e2:((2 ^ (k+1):Nat):Int)=2 * ((2 ^ k:Nat):Int):=by rw [Nat.pow_succ];omega
  unfold haveB
  split
  ·rw [zmb (by omega) ih];omega
  ·omega
theorem zez (m:Arr) (n:Int) {k:Nat} (hk:k < 7) (h:n≤m.at k):IntKind.i64.wrap (haveB m n k+shl 1 k)=haveB m n (k+1):=by
 have ih:=zrf m n k (by omega)
 have h2:2 ^ k≤2 ^ 6:=Nat.pow_le_pow_right (by decide) (by omega)
 have h3:(2:Nat) ^ 6=64:=by decide
 rw [show haveB m n (k+1)=bor (haveB m n k) (shl 1 k) from if_pos h,zmb (by omega) ih,zgd k (by omega)]
 exact zal (by omega) (by omega)
set_option maxHeartbeats 4000000 in
theorem zg9 (a:Hrd) (hm:a.log.length≤maxLen) (hb:0≤a.base) (hs:a.base+a.log.length < 9223372036854775808) (commit:Int) (m:Arr):Ctr Tryz.prog 161 [.ag a.enc,iv commit,.ag m.enc] (iv (zdh a commit m)) []:=by
 have hbI:isI a.base:=by unfold isI;omega
 have kl:=zb0 a hm
 have kf:=zi9 a hm (lastI a)
 refine sBody Tryz.func161 ?_;conv=>whnf
 ((try (refine Exists.intro none ?_;conv=>whnf));(with_reducible refine zaa (kl) ?_);conv=>whnf)
 ((try (refine Exists.intro none ?_;conv=>whnf));(with_reducible refine zaa (kf) ?_);conv=>whnf)
 refine zbv mixed (by kernel_rfl) (fun f:Nat=>f≤a.log.length+1∧down (hit a m) a.base commit f=zdh a commit m) (fun f=>[(11,iv (a.base+f - 1))]) [] (fun f=>f) (a.log.length+1) ⟨Nat.le_refl _,rfl⟩ ?_ ?_
 ·conv=>whnf
  (refine wkx ?_;refine ⟨?_,?_,?_⟩<;>(conv=>whnf)<;>repeat' first | exact wkc | (with_reducible refine And.intro ?_ ?_)<;>first | exact wks | refine wko ?_ | refine wki ?_ | refine wkb ?_ | (refine zan ?_;conv=>whnf) | (refine zah ?_;conv=>whnf) | (refine zag ?_;conv=>whnf) | conv=>whnf)
  rw [zq9 hb hs];omega
 rintro f ⟨hf,hd⟩
 generalize hn:a.base+(f:Int) - 1=n
 conv=>whnf
 (refine tSp (fun h=>?_) (fun h=>?_)<;>conv=>whnf)
 case refine_2 =>
  refine zab rfl ?_
  rw [← hd]
  cases f with
  | zero=>rfl
  | succ k=>rw [down,if_neg (by omega)]
 have h1:=h
 (refine tSp (fun h=>?_) (fun h=>?_)<;>conv=>whnf)
 case refine_2 =>
  refine zab rfl ?_
  rw [← hd]
  cases f with
  | zero=>rfl
  | succ k=>omega
 obtain ⟨k,rfl⟩:∃ k,f=k+1:=⟨f - 1,by omega⟩
 have hnk:n=a.base+k:=by omega
 refine zbv mixed (by kernel_rfl) (fun k:Nat=>k≤7) (fun k=>[(13,iv k),(12,iv (haveB m n k))]) [] (fun k=>7 - k) 0 (by decide) ?_ ?_
 ·conv=>whnf
  exact wkD
 ·intro k hk
  rcases (by omega:k=0∨k=1∨k=2∨k=3∨k=4∨k=5∨k=6∨k=7) with rfl | rfl | rfl | rfl | rfl | rfl | rfl | rfl
  ·have ha:=zez m n (k:=0) (by decide)
   conv=>whnf
   refine ⟨⟨by decide,by decide⟩,?_⟩
   conv=>whnf
   (refine tSp (fun h=>?_) (fun h=>?_)<;>conv=>whnf)
   ·((with_reducible refine And.intro (And.intro (by first | decide | omega) (by first | decide | omega)) ?_);conv=>whnf)
    refine ⟨1,⟨by omega,by omega⟩,?_⟩
    conv=>whnf
    have e:=ha h
    (refine wkx ?_;refine ⟨?_,?_,?_⟩<;>(conv=>whnf)<;>repeat' first | exact wkc | (with_reducible refine And.intro ?_ ?_)<;>first | exact wks | refine wko ?_ | refine wki ?_ | refine wkb ?_ | (refine zan ?_;conv=>whnf) | (refine zah ?_;conv=>whnf) | (refine zag ?_;conv=>whnf) | conv=>whnf)
    all_goals first | exact e | rfl | trace_state
   ·refine ⟨1,⟨by omega,by omega⟩,?_⟩
    conv=>whnf
    have e:haveB m n 1=haveB m n 0:=if_neg h
    (refine wkx ?_;refine ⟨?_,?_,?_⟩<;>(conv=>whnf)<;>repeat' first | exact wkc | (with_reducible refine And.intro ?_ ?_)<;>first | exact wks | refine wko ?_ | refine wki ?_ | refine wkb ?_ | (refine zan ?_;conv=>whnf) | (refine zah ?_;conv=>whnf) | (refine zag ?_;conv=>whnf) | conv=>whnf)
    all_goals first | exact e.symm | rfl | trace_state
  ·have ha:=zez m n (k:=1) (by decide)
   conv=>whnf
   refine ⟨⟨by decide,by decide⟩,?_⟩
   conv=>whnf
   (refine tSp (fun h=>?_) (fun h=>?_)<;>conv=>whnf)
   ·((with_reducible refine And.intro (And.intro (by first | decide | omega) (by first | decide | omega)) ?_);conv=>whnf)
    refine ⟨2,⟨by omega,by omega⟩,?_⟩
    conv=>whnf
    have e:=ha h
    (refine wkx ?_;refine ⟨?_,?_,?_⟩<;>(conv=>whnf)<;>repeat' first | exact wkc | (with_reducible refine And.intro ?_ ?_)<;>first | exact wks | refine wko ?_ | refine wki ?_ | refine wkb ?_ | (refine zan ?_;conv=>whnf) | (refine zah ?_;conv=>whnf) | (refine zag ?_;conv=>whnf) | conv=>whnf)
    all_goals first | exact e | rfl | trace_state
   ·refine ⟨2,⟨by omega,by omega⟩,?_⟩
    conv=>whnf
    have e:haveB m n 2=haveB m n 1:=if_neg h
    (refine wkx ?_;refine ⟨?_,?_,?_⟩<;>(conv=>whnf)<;>repeat' first | exact wkc | (with_reducible refine And.intro ?_ ?_)<;>first | exact wks | refine wko ?_ | refine wki ?_ | refine wkb ?_ | (refine zan ?_;conv=>whnf) | (refine zah ?_;conv=>whnf) | (refine zag ?_;conv=>whnf) | conv=>whnf)
    all_goals first | exact e.symm | rfl | trace_state
  ·have ha:=zez m n (k:=2) (by decide)
   conv=>whnf
   refine ⟨⟨by decide,by decide⟩,?_⟩
   conv=>whnf
   (refine tSp (fun h=>?_) (fun h=>?_)<;>conv=>whnf)
   ·((with_reducible refine And.intro (And.intro (by first | decide | omega) (by first | decide | omega)) ?_);conv=>whnf)
    refine ⟨3,⟨by omega,by omega⟩,?_⟩
    conv=>whnf
    have e:=ha h
    (refine wkx ?_;refine ⟨?_,?_,?_⟩<;>(conv=>whnf)<;>repeat' first | exact wkc | (with_reducible refine And.intro ?_ ?_)<;>first | exact wks | refine wko ?_ | refine wki ?_ | refine wkb ?_ | (refine zan ?_;conv=>whnf) | (refine zah ?_;conv=>whnf) | (refine zag ?_;conv=>whnf) | conv=>whnf)
    all_goals first | exact e | rfl | trace_state
   ·refine ⟨3,⟨by omega,by omega⟩,?_⟩
    conv=>whnf
    have e:haveB m n 3=haveB m n 2:=if_neg h
    (refine wkx ?_;refine ⟨?_,?_,?_⟩<;>(conv=>whnf)<;>repeat' first | exact wkc | (with_reducible refine And.intro ?_ ?_)<;>first | exact wks | refine wko ?_ | refine wki ?_ | refine wkb ?_ | (refine zan ?_;conv=>whnf) | (refine zah ?_;conv=>whnf) | (refine zag ?_;conv=>whnf) | conv=>whnf)
    all_goals first | exact e.symm | rfl | trace_state
  ·have ha:=zez m n (k:=3) (by decide)
   conv=>whnf
   refine ⟨⟨by decide,by decide⟩,?_⟩
   conv=>whnf
   (refine tSp (fun h=>?_) (fun h=>?_)<;>conv=>whnf)
   ·((with_reducible refine And.intro (And.intro (by first | decide | omega) (by first | decide | omega)) ?_);conv=>whnf)
    refine ⟨4,⟨by omega,by omega⟩,?_⟩
    conv=>whnf
    have e:=ha h
    (refine wkx ?_;refine ⟨?_,?_,?_⟩<;>(conv=>whnf)<;>repeat' first | exact wkc | (with_reducible refine And.intro ?_ ?_)<;>first | exact wks | refine wko ?_ | refine wki ?_ | refine wkb ?_ | (refine zan ?_;conv=>whnf) | (refine zah ?_;conv=>whnf) | (refine zag ?_;conv=>whnf) | conv=>whnf)
    all_goals first | exact e | rfl | trace_state
   ·refine ⟨4,⟨by omega,by omega⟩,?_⟩
    conv=>whnf
    have e:haveB m n 4=haveB m n 3:=if_neg h
    (refine wkx ?_;refine ⟨?_,?_,?_⟩<;>(conv=>whnf)<;>repeat' first | exact wkc | (with_reducible refine And.intro ?_ ?_)<;>first | exact wks | refine wko ?_ | refine wki ?_ | refine wkb ?_ | (refine zan ?_;conv=>whnf) | (refine zah ?_;conv=>whnf) | (refine zag ?_;conv=>whnf) | conv=>whnf)
    all_goals first | exact e.symm | rfl | trace_state
  ·have ha:=zez m n (k:=4) (by decide)
   conv=>whnf
   refine ⟨⟨by decide,by decide⟩,?_⟩
   conv=>whnf
   (refine tSp (fun h=>?_) (fun h=>?_)<;>conv=>whnf)
   ·((with_reducible refine And.intro (And.intro (by first | decide | omega) (by first | decide | omega)) ?_);conv=>whnf)
    refine ⟨5,⟨by omega,by omega⟩,?_⟩
    conv=>whnf
    have e:=ha h
    (refine wkx ?_;refine ⟨?_,?_,?_⟩<;>(conv=>whnf)<;>repeat' first | exact wkc | (with_reducible refine And.intro ?_ ?_)<;>first | exact wks | refine wko ?_ | refine wki ?_ | refine wkb ?_ | (refine zan ?_;conv=>whnf) | (refine zah ?_;conv=>whnf) | (refine zag ?_;conv=>whnf) | conv=>whnf)
    all_goals first | exact e | rfl | trace_state
   ·refine ⟨5,⟨by omega,by omega⟩,?_⟩
    conv=>whnf
    have e:haveB m n 5=haveB m n 4:=if_neg h
    (refine wkx ?_;refine ⟨?_,?_,?_⟩<;>(conv=>whnf)<;>repeat' first | exact wkc | (with_reducible refine And.intro ?_ ?_)<;>first | exact wks | refine wko ?_ | refine wki ?_ | refine wkb ?_ | (refine zan ?_;conv=>whnf) | (refine zah ?_;conv=>whnf) | (refine zag ?_;conv=>whnf) | conv=>whnf)
    all_goals first | exact e.symm | rfl | trace_state
  ·have ha:=zez m n (k:=5) (by decide)
   conv=>whnf
   refine ⟨⟨by decide,by decide⟩,?_⟩
   conv=>whnf
   (refine tSp (fun h=>?_) (fun h=>?_)<;>conv=>whnf)
   ·((with_reducible refine And.intro (And.intro (by first | decide | omega) (by first | decide | omega)) ?_);conv=>whnf)
    refine ⟨6,⟨by omega,by omega⟩,?_⟩
    conv=>whnf
    have e:=ha h
    (refine wkx ?_;refine ⟨?_,?_,?_⟩<;>(conv=>whnf)<;>repeat' first | exact wkc | (with_reducible refine And.intro ?_ ?_)<;>first | exact wks | refine wko ?_ | refine wki ?_ | refine wkb ?_ | (refine zan ?_;conv=>whnf) | (refine zah ?_;conv=>whnf) | (refine zag ?_;conv=>whnf) | conv=>whnf)
    all_goals first | exact e | rfl | trace_state
   ·refine ⟨6,⟨by omega,by omega⟩,?_⟩
    conv=>whnf
    have e:haveB m n 6=haveB m n 5:=if_neg h
    (refine wkx ?_;refine ⟨?_,?_,?_⟩<;>(conv=>whnf)<;>repeat' first | exact wkc | (with_reducible refine And.intro ?_ ?_)<;>first | exact wks | refine wko ?_ | refine wki ?_ | refine wkb ?_ | (refine zan ?_;conv=>whnf) | (refine zah ?_;conv=>whnf) | (refine zag ?_;conv=>whnf) | conv=>whnf)
    all_goals first | exact e.symm | rfl | trace_state
  ·have ha:=zez m n (k:=6) (by decide)
   conv=>whnf
   refine ⟨⟨by decide,by decide⟩,?_⟩
   conv=>whnf
   (refine tSp (fun h=>?_) (fun h=>?_)<;>conv=>whnf)
   ·((with_reducible refine And.intro (And.intro (by first | decide | omega) (by first | decide | omega)) ?_);conv=>whnf)
    refine ⟨7,⟨by omega,by omega⟩,?_⟩
    conv=>whnf
    have e:=ha h
    (refine wkx ?_;refine ⟨?_,?_,?_⟩<;>(conv=>whnf)<;>repeat' first | exact wkc | (with_reducible refine And.intro ?_ ?_)<;>first | exact wks | refine wko ?_ | refine wki ?_ | refine wkb ?_ | (refine zan ?_;conv=>whnf) | (refine zah ?_;conv=>whnf) | (refine zag ?_;conv=>whnf) | conv=>whnf)
    all_goals first | exact e | rfl | trace_state
   ·refine ⟨7,⟨by omega,by omega⟩,?_⟩
    conv=>whnf
    have e:haveB m n 7=haveB m n 6:=if_neg h
    (refine wkx ?_;refine ⟨?_,?_,?_⟩<;>(conv=>whnf)<;>repeat' first | exact wkc | (with_reducible refine And.intro ?_ ?_)<;>first | exact wks | refine wko ?_ | refine wki ?_ | refine wkb ?_ | (refine zan ?_;conv=>whnf) | (refine zah ?_;conv=>whnf) | (refine zag ?_;conv=>whnf) | conv=>whnf)
    all_goals first | exact e.symm | rfl | trace_state
  ·have hnI:isI n:=by unfold isI;omega
   have kft:=zop a hm hb hs n hnI a.term
   have kq:=zg1 (force a (lastI a)).1 (haveB m n 7)
   conv=>whnf
   ((try (refine Exists.intro none ?_;conv=>whnf));(with_reducible refine zaa (kft) ?_);conv=>whnf)
   (refine tSp (fun h=>?_) (fun h=>?_)<;>conv=>whnf)
   ·have h2:=h
    ((try (refine Exists.intro none ?_;conv=>whnf));(with_reducible refine zaa (kq) ?_);conv=>whnf)
    (refine tSp (fun h=>?_) (fun h=>?_)<;>conv=>whnf)
    ·refine zab rfl ?_
     rw [← hd,down,if_pos (by omega),if_pos (by rw [← hnk];simp [hit,h2,h]),hnk]
    ·refine ⟨k,⟨⟨by omega,?_⟩,by omega⟩,?_⟩
     ·rw [← hd,down,if_pos (by omega),if_neg (by rw [← hnk];simp [hit,h2,h])]
     ·conv=>whnf
      (refine wkx ?_;refine ⟨?_,?_,?_⟩<;>(conv=>whnf)<;>repeat' first | exact wkc | (with_reducible refine And.intro ?_ ?_)<;>first | exact wks | refine wko ?_ | refine wki ?_ | refine wkb ?_ | (refine zan ?_;conv=>whnf) | (refine zah ?_;conv=>whnf) | (refine zag ?_;conv=>whnf) | conv=>whnf)
      rw [zal (by omega) (by omega)];omega
   ·refine ⟨k,⟨⟨by omega,?_⟩,by omega⟩,?_⟩
    ·rw [← hd,down,if_pos (by omega),if_neg (by rw [← hnk];simp [hit,h])]
    ·conv=>whnf
     (refine wkx ?_;refine ⟨?_,?_,?_⟩<;>(conv=>whnf)<;>repeat' first | exact wkc | (with_reducible refine And.intro ?_ ?_)<;>first | exact wks | refine wko ?_ | refine wki ?_ | refine wkb ?_ | (refine zan ?_;conv=>whnf) | (refine zah ?_;conv=>whnf) | (refine zag ?_;conv=>whnf) | conv=>whnf)
     rw [zal (by omega) (by omega)];omega
abbrev qR (r:Rft) (c:VCall):Rd:=⟨c,r.commit,farM (r.round+1),shl 1 r.id⟩
noncomputable abbrev askR (r:Rft) (c:VCall):Rft:={ r with reads:=r.reads++[qR r c] }
noncomputable abbrev ownB (r:Rft):Bool:=fits r.hard r.commit r.hard.term
noncomputable def askE (r:Rft) (c:VCall):Int:=if zdx r=0 then (if ownB r=true then (if callR c=0 then (if r.reads.length < 4 then 0 else 12) else callR c) else 13) else 11
theorem Rgt.comI {r:Rft} (h:Rgt r) (hm:r.hard.log.length < 4294967):isI r.commit:=by
 have hb:=(za9 h.hard).1.b
 have hc:=h.com
 rw [zbk hb.1 (by omega)] at hc
 unfold isI;omega
theorem askE_ok {r:Rft}{c:VCall} (he:askE r c=0):zdx r=0∧ownB r=true∧callR c=0∧r.reads.length < 4:=by
 unfold askE at he
 by_cases h1:zdx r=0
 ·rw [if_pos h1] at he
  by_cases h2:ownB r=true
  ·rw [if_pos h2] at he
   by_cases h3:callR c=0
   ·rw [if_pos h3] at he
    by_cases h4:r.reads.length < 4
    ·exact ⟨h1,h2,h3,h4⟩
    ·rw [if_neg h4] at he;omega
   ·rw [if_neg h3] at he;exact absurd he h3
  ·rw [if_neg h2] at he;omega
 ·rw [if_neg h1] at he;omega
abbrev radR (r:Rft) (x:Ent):Rft:={ r with hard:=logR r x,mtch:=r.mtch.put r.id.toNat (lastI (logR r x)) }
set_option maxHeartbeats 8000000 in
theorem c_rAdd (r : Rft) (hid : 0 ≤ r.id ∧ r.id < 7) (hm : r.hard.log.length ≤ 4294967) (x : Ent) :
    CtrE Tryz.prog 160 [.pt 1000000 0,.ag x.enc] [(1000000,r.enc)] [] (iv (lastI (logR r x))) [(1000000,(radR r x).enc)] []:=by
 have hmap:(logR r x).log.map Ent.enc=r.hard.log.map Ent.enc++[x.enc]:=by rw [List.map_append];rfl
 have hlen:(logR r x).log.length=r.hard.log.length+1:=by rw [List.length_append];rfl
 have kt:=zcu r.hard.log (by omega)
 have kl:=zb0 (logR r x) (zak (by omega))
 have b1:((r.hard.log.map Ent.enc).length+1) * 152≤140737488355328:=by rw [List.length_map];omega
 have b2:(r.hard.log.map Ent.enc).length+1≤maxLen:=zak (by rw [List.length_map];omega)
 unfold radR
 generalize hh:logR r x=H at *
 have e1:H.term=r.hard.term:=by rw [← hh]
 have e2:H.vote=r.hard.vote:=by rw [← hh]
 have e3:H.base=r.hard.base:=by rw [← hh]
 have e4:H.baseTerm=r.hard.baseTerm:=by rw [← hh]
 have e5:H.baseConf=r.hard.baseConf:=by rw [← hh]
 have e6:H.snap=r.hard.snap:=by rw [← hh]
 refine zbe mixed Tryz.func160 rfl (by kernel_rfl) (by kernel_rfl) ?_
 refine tSeq ?_
 conv=>whnf
 refine tCut (fun _:Unit=>True) (fun _=>[]) (fun _=>[(1000000,repV { r with hard:=H } (.sl 1 (H.snap.map encB)) (lgW { r with hard:=H } 2000) (.sl 13 (r.reads.map Rd.enc)) .bad |>.dropLast),(3,x.enc)]) (fun _=>[(2000,lgO { r with hard:=H })]) ?_ ?_
 ·conv=>whnf
  ((try (refine Exists.intro none ?_;conv=>whnf));(with_reducible refine zaa (kt) ?_);conv=>whnf)
  (refine Exists.intro _ (And.intro rfl (And.intro (by intro q hq;first | (cases hq;done) | (simp only [List.mem_cons,List.not_mem_nil,or_false] at hq;rcases hq with rfl | rfl<;>(simp only [List.length_cons,List.length_nil];omega)) | (simp only [List.mem_cons,List.not_mem_nil,or_false] at hq;subst hq;simp only [List.length_cons,List.length_nil];omega)) (And.intro (by intro i hi;simp only [List.length_cons,List.length_nil,Nat.lt_one_iff,Nat.zero_add] at hi;subst hi;rfl) ?_)));conv=>whnf)
  (refine And.intro rfl ?_;(conv=>whnf);refine And.intro (And.intro (And.intro (by kernel_rfl) (And.intro (Nat.le_refl _) (And.intro (b1) (And.intro (b2) (by intro r hr;rw [List.mem_singleton.1 hr];rfl))))) (And.intro (by decide) rfl)) ?_;conv=>whnf)
  refine ⟨(),[(2000,256)],trivial,?_⟩
  conv=>whnf
  (refine wkx ?_;refine ⟨?_,?_,?_⟩<;>(conv=>whnf)<;>repeat' first | exact wkc | (with_reducible refine And.intro ?_ ?_)<;>first | exact wks | refine wko ?_ | refine wki ?_ | refine wkb ?_ | (refine zan ?_;conv=>whnf) | (refine zah ?_;conv=>whnf) | (refine zag ?_;conv=>whnf) | conv=>whnf)
  all_goals first | rfl | (rw [e1];done) | (rw [e2];done) | (rw [e3];done) | (rw [e4];done) | (rw [e5];done) | (rw [e6];done) | exact .inl (by rw [e6]) | (rw [hmap];done) | (rw [hmap];exact List.length_append.symm) | (refine zaz (by kernel_rfl) ?_;rw [hmap,List.take_of_length_le (Nat.le_refl _)];done) | (refine zaz (by kernel_rfl) ?_;rw [hmap,List.take_of_length_le (Nat.le_refl _)];rfl) | trace_state
 rintro _ _
 refine pwS ?_
 conv=>whnf
 ((try (refine Exists.intro none ?_;conv=>whnf));refine tOwn0 ?_;conv=>whnf)
 ((try ((refine Exists.intro none ?_);(conv=>whnf)));first | (refine zai (kl) (by simp only [List.drop_zero,List.take_length]) ?_;conv=>whnf))
 refine ⟨⟨hid.1,hid.2⟩,?_⟩
 rcases zcm hid with e | e | e | e | e | e | e
 ·rw [e]
  conv=>whnf
  (refine zad 1000000 10 2000 _ _ rfl rfl rfl rfl ?_;refine zae [] [] ?_;(conv=>whnf);exact wkD)
 ·rw [e]
  conv=>whnf
  (refine zad 1000000 10 2000 _ _ rfl rfl rfl rfl ?_;refine zae [] [] ?_;(conv=>whnf);exact wkD)
 ·rw [e]
  conv=>whnf
  (refine zad 1000000 10 2000 _ _ rfl rfl rfl rfl ?_;refine zae [] [] ?_;(conv=>whnf);exact wkD)
 ·rw [e]
  conv=>whnf
  (refine zad 1000000 10 2000 _ _ rfl rfl rfl rfl ?_;refine zae [] [] ?_;(conv=>whnf);exact wkD)
 ·rw [e]
  conv=>whnf
  (refine zad 1000000 10 2000 _ _ rfl rfl rfl rfl ?_;refine zae [] [] ?_;(conv=>whnf);exact wkD)
 ·rw [e]
  conv=>whnf
  (refine zad 1000000 10 2000 _ _ rfl rfl rfl rfl ?_;refine zae [] [] ?_;(conv=>whnf);exact wkD)
 ·rw [e]
  conv=>whnf
  (refine zad 1000000 10 2000 _ _ rfl rfl rfl rfl ?_;refine zae [] [] ?_;(conv=>whnf);exact wkD)
theorem Fit.small {r:Rft} (h:Fit r):r.small:=⟨by have:=h.log;omega,by have:=h.base;unfold isI;omega,h.snap,by have:=h.reads;omega⟩
theorem zxl {r:Rft}{c:VCall} (he:propE r c=0):zdx r=0∧callR c=0∧r.hard.log.length < 64:=by
 unfold propE at he
 by_cases h1:zdx r=0
 ·rw [if_pos h1] at he
  by_cases h3:callR c=0
  ·rw [if_pos h3] at he
   by_cases h4:r.hard.log.length < 64
   ·exact ⟨h1,h3,h4⟩
   ·rw [if_neg h4] at he;omega
  ·rw [if_neg h3] at he;exact absurd he h3
 ·rw [if_neg h1] at he;omega
set_option maxHeartbeats 4000000 in
theorem zoa (r:Rft) (c:VCall) (hl0:r.hard.log.length < 4294967) (he:¬ propE r c=0):Ctr Tryz.prog 99 [.ag r.enc,.ag c.enc] (.tu [.ag rzv,iv 0,iv (propE r c)]) []:=by
 have ks:=zfs r (zak (by omega))
 have kc:=zji c
 unfold propE at he ⊢
 by_cases h1:zdx r=0
 ·rw [if_pos h1] at he ⊢
  rw [decide_eq_true h1] at ks
  by_cases h2:callR c=0
  ·rw [if_pos h2] at he ⊢
   rw [h2] at kc
   by_cases h3:r.hard.log.length < 64
   ·rw [if_pos h3] at he;exact absurd rfl he
   ·rw [if_neg h3]
    refine sBody Tryz.func99 ?_;conv=>whnf
    ((try (refine Exists.intro none ?_;conv=>whnf));(with_reducible refine zaa (ks) ?_);conv=>whnf)
    ((try (refine Exists.intro none ?_;conv=>whnf));(with_reducible refine zaa (kc) ?_);conv=>whnf)
    (refine tSp (fun h=>?_) (fun h=>?_)<;>conv=>whnf)
    ·exact zab rfl rfl
    ·simp only [List.length_map] at h
     omega
  ·rw [if_neg h2]
   generalize callR c=e at *
   refine sBody Tryz.func99 ?_;conv=>whnf
   ((try (refine Exists.intro none ?_;conv=>whnf));(with_reducible refine zaa (ks) ?_);conv=>whnf)
   ((try (refine Exists.intro none ?_;conv=>whnf));(with_reducible refine zaa (kc) ?_);conv=>whnf)
   (refine tSp (fun h=>?_) (fun h=>?_)<;>conv=>whnf)
   ·exact zab rfl rfl
   ·exact absurd (by first | exact h | (simpa using h)) h2
 ·rw [if_neg h1]
  rw [decide_eq_false h1] at ks
  refine sBody Tryz.func99 ?_;conv=>whnf
  ((try (refine Exists.intro none ?_;conv=>whnf));(with_reducible refine zaa (ks) ?_);conv=>whnf)
  exact zab rfl rfl
set_option maxHeartbeats 4000000 in
theorem zr9 (r:Rft) (c:VCall) (hl0:r.hard.log.length < 4294967) (hr:zcw r=true) (he:propE r c=0):Ctr Tryz.prog 99 [.ag r.enc,.ag c.enc] (.tu [.ag (addR r (ec r c)).enc,iv (lastI (logR r (ec r c))),iv 0]) []:=by
 have hg:=zh4 hr
 have hf:=hg.fit hl0
 have hb:=hf.base
 obtain ⟨h1,h2,h3⟩:=zxl he
 have ks:=zfs r (zak (by omega))
 have kc:=zji c
 have kt:=zao r hf.small
 have ka:=c_rAdd r hf.id (by omega) (ec r c)
 have hlen:(logR r (ec r c)).log.length=r.hard.log.length+1:=by rw [List.length_append];rfl
 have km:=zg9 (logR r (ec r c)) (zak (by omega)) hb.1 (by show r.hard.base+((logR r (ec r c)).log.length:Int) < _;omega) r.commit (r.mtch.put r.id.toNat (lastI (logR r (ec r c))))
 rw [decide_eq_true h1] at ks
 rw [h2] at kc
 unfold addR
 unfold radR at ka
 generalize hM:r.mtch.put r.id.toNat (lastI (logR r (ec r c)))=M at *
 generalize lastI (logR r (ec r c))=n at *
 generalize hH:logR r (ec r c)=H at *
 refine sBody Tryz.func99 ?_;conv=>whnf
 ((try (refine Exists.intro none ?_;conv=>whnf));(with_reducible refine zaa (ks) ?_);conv=>whnf)
 ((try (refine Exists.intro none ?_;conv=>whnf));(with_reducible refine zaa (kc) ?_);conv=>whnf)
 (refine tSp (fun h=>?_) (fun h=>?_)<;>conv=>whnf)
 ·simp only [List.length_map] at h
  omega
 clear h
 ((try (refine Exists.intro none ?_;conv=>whnf));(with_reducible refine zaa (kt) ?_);conv=>whnf)
 (refine tNew0 ?_;conv=>whnf)
 ((refine Exists.intro (some ([(1000000,2)],[],[])) ?_);(conv=>whnf);refine zax (ka) (by kernel_rfl) (by kernel_rfl) (by kernel_rfl) ?_;conv=>whnf)
 ((try ((refine Exists.intro none ?_);(conv=>whnf)));refine zai (km) (by kernel_rfl) ?_;conv=>whnf)
 exact zab rfl rfl
set_option maxHeartbeats 4000000 in
theorem zr3 (r:Rft) (c:VCall) (hl0:r.hard.log.length < 4294967) (hr:zcw r=true) (he:¬ askE r c=0):Ctr Tryz.prog 102 [.ag r.enc,.ag c.enc] (.tu [.ag rzv,iv (askE r c)]) []:=by
 have hg:=zh4 hr
 have hf:=hg.fit hl0
 have hb:=hf.base
 have kl:=zfs r (zak (by omega))
 have kw:=zuo r.hard (zak (by omega)) hb.1 (by omega) r.commit (hg.comI hl0)
 have ks:=zji c
 unfold askE at he ⊢
 by_cases h1:zdx r=0
 ·rw [if_pos h1] at he ⊢
  rw [decide_eq_true h1] at kl
  cases hw:ownB r with
  | false =>
   rw [show fits r.hard r.commit r.hard.term=false from hw] at kw
   rw [if_neg (by decide)]
   refine sBody Tryz.func102 ?_;conv=>whnf
   ((try (refine Exists.intro none ?_;conv=>whnf));(with_reducible refine zaa (kl) ?_);conv=>whnf)
   ((try (refine Exists.intro none ?_;conv=>whnf));(with_reducible refine zaa (kw) ?_);conv=>whnf)
   exact zab rfl rfl
  | true =>
   rw [show fits r.hard r.commit r.hard.term=true from hw] at kw
   rw [hw,if_pos rfl] at he
   rw [if_pos rfl]
   by_cases h2:callR c=0
   ·rw [if_pos h2] at he ⊢
    rw [h2] at ks
    by_cases h3:r.reads.length < 4
    ·rw [if_pos h3] at he;exact absurd rfl he
    ·rw [if_neg h3]
     refine sBody Tryz.func102 ?_;conv=>whnf
     ((try (refine Exists.intro none ?_;conv=>whnf));(with_reducible refine zaa (kl) ?_);conv=>whnf)
     ((try (refine Exists.intro none ?_;conv=>whnf));(with_reducible refine zaa (kw) ?_);conv=>whnf)
     ((try (refine Exists.intro none ?_;conv=>whnf));(with_reducible refine zaa (ks) ?_);conv=>whnf)
     (refine tSp (fun h=>?_) (fun h=>?_)<;>conv=>whnf)
     ·exact zab rfl rfl
     ·simp only [List.length_map] at h
      omega
   ·rw [if_neg h2]
    generalize callR c=e at *
    refine sBody Tryz.func102 ?_;conv=>whnf
    ((try (refine Exists.intro none ?_;conv=>whnf));(with_reducible refine zaa (kl) ?_);conv=>whnf)
    ((try (refine Exists.intro none ?_;conv=>whnf));(with_reducible refine zaa (kw) ?_);conv=>whnf)
    ((try (refine Exists.intro none ?_;conv=>whnf));(with_reducible refine zaa (ks) ?_);conv=>whnf)
    (refine tSp (fun h=>?_) (fun h=>?_)<;>conv=>whnf)
    ·exact zab rfl rfl
    ·exact absurd (by first | exact h | (simpa using h)) h2
 ·rw [if_neg h1]
  rw [decide_eq_false h1] at kl
  refine sBody Tryz.func102 ?_;conv=>whnf
  ((try (refine Exists.intro none ?_;conv=>whnf));(with_reducible refine zaa (kl) ?_);conv=>whnf)
  exact zab rfl rfl
set_option maxHeartbeats 4000000 in
theorem zw6 (r:Rft) (c:VCall) (hl0:r.hard.log.length < 4294967) (hr:zcw r=true) (he:askE r c=0):Ctr Tryz.prog 102 [.ag r.enc,.ag c.enc] (.tu [.ag (askR r c).enc,iv 0]) []:=by
 have hg:=zh4 hr
 have hf:=hg.fit hl0
 have hb:=hf.base
 have hid:=hf.id
 have hro:=hf.round
 have kl:=zfs r (zak (by omega))
 have kw:=zuo r.hard (zak (by omega)) hb.1 (by omega) r.commit (hg.comI hl0)
 have ks:=zji c
 have kt:=zkq r hf.snap (by omega) (by have:=hf.reads;omega)
 obtain ⟨h1,h2,h3,h4⟩:=askE_ok he
 rw [decide_eq_true h1] at kl
 rw [show fits r.hard r.commit r.hard.term=true from h2] at kw
 rw [h3] at ks
 have ew:IntKind.i64.wrap (r.round+1)=r.round+1:=zal (by omega) (by omega)
 have eu:IntKind.u64.wrap r.id=r.id:=zb4 (by omega) (by omega)
 have b1:((r.reads.map Rd.enc).length+1) * 128≤140737488355328:=by rw [List.length_map];omega
 have b2:(r.reads.map Rd.enc).length+1≤maxLen:=zak (by rw [List.length_map];omega)
 refine sBody Tryz.func102 ?_;conv=>whnf
 ((try (refine Exists.intro none ?_;conv=>whnf));(with_reducible refine zaa (kl) ?_);conv=>whnf)
 ((try (refine Exists.intro none ?_;conv=>whnf));(with_reducible refine zaa (kw) ?_);conv=>whnf)
 ((try (refine Exists.intro none ?_;conv=>whnf));(with_reducible refine zaa (ks) ?_);conv=>whnf)
 (refine tSp (fun h=>?_) (fun h=>?_)<;>conv=>whnf)
 ·simp only [List.length_map] at h
  omega
 clear h
 ((try (refine Exists.intro none ?_;conv=>whnf));(with_reducible refine zaa (kt) ?_);conv=>whnf)
 (refine Exists.intro _ (And.intro rfl (And.intro (by intro q hq;first | (cases hq;done) | (simp only [List.mem_cons,List.not_mem_nil,or_false] at hq;rcases hq with rfl | rfl<;>(simp only [List.length_cons,List.length_nil];omega)) | (simp only [List.mem_cons,List.not_mem_nil,or_false] at hq;subst hq;simp only [List.length_cons,List.length_nil];omega)) (And.intro (by intro i hi;rcases i with _ | _ | _ | i;rfl;rfl;rfl;exact absurd hi (by simp)) ?_)));conv=>whnf)
 refine ⟨⟨by decide,by rw [eu];exact hid.1⟩,?_⟩
 conv=>whnf
 (refine And.intro rfl ?_;(conv=>whnf);refine And.intro (And.intro (And.intro (by kernel_rfl) (And.intro (Nat.le_refl _) (And.intro (b1) (And.intro (b2) (by intro r hr;rw [List.mem_singleton.1 hr];rfl))))) (And.intro (by decide) rfl)) ?_;conv=>whnf)
 have erow:List.take (r.reads.map Rd.enc).length (r.reads.map Rd.enc)++[(⟨c,r.commit,farM (IntKind.i64.wrap (r.round+1)),shl 1 (IntKind.u64.wrap r.id)⟩:Rd).enc]=(askR r c).reads.map Rd.enc:=by
  rw [ew,eu,List.take_of_length_le (Nat.le_refl _),List.map_append];rfl
 refine zat [(480,false,1,r.hard.snap.map encB),(481,false,16,r.hard.log.map Ent.enc),(736,false,13,(askR r c).reads.map Rd.enc)] ?_ (zah ⟨zag ?_,zaj _ rfl,rfl⟩)
 ·intro q hq
  simp only [List.mem_cons,List.mem_nil_iff,or_false] at hq
  rcases hq with rfl | rfl | rfl
  ·rfl
  ·rfl
  ·refine Eq.trans ?_ (congrArg (fun l=>some (some (false,13,l))) erow)
   kernel_rfl
 conv=>whnf
 repeat' (first | exact rfl | ((with_reducible refine And.intro ?_ ?_)<;>(first | (with_reducible exact zaj _ rfl) | (refine zbw (b:=false) (List.Mem.head _) rfl) | (refine zbw (b:=false) (List.Mem.tail _ (List.Mem.head _)) rfl) | (refine zbw (b:=false) (List.Mem.tail _ (List.Mem.tail _ (List.Mem.head _))) rfl) | (conv=>whnf))))
 refine zbw (rn:=[]) (kb:=[]) (b:=false) (List.Mem.tail _ (List.Mem.tail _ (List.Mem.head _))) ?_
 show _=((r.reads++[qR r c]).map Rd.enc).length
 rw [List.map_append,List.length_append];rfl
end Go.Proofs
