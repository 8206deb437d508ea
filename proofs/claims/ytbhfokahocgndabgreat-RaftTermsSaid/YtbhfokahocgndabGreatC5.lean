import Derived.Test.YtbhfokahocgndabGreatC1
/- Plain facts: steps of configurations. -/
set_option linter.unusedSimpArgs false
set_option linter.unusedVariables false
namespace Go.Proofs
open Go.Pv
set_option maxRecDepth 100000
def one4 (a b c d:Bool):Bool:=!(a && b) && !(a && c) && !(b && c) && !(a && d) && !(b && d) && !(c && d)
def any4 (a b c d:Bool):Bool:=a || b || c || d
theorem Cok.one {c:Conf} (h:Cok c) (i:Nat):one4 (tb c.full i) (tb c.wit i) (tb c.learn i) (tb c.lwit i)=true:=by
 have h1:=h.fw i;have h2:=h.fl i;have h3:=h.wl i;have h4:=h.fx i;have h5:=h.wx i;have h6:=h.lx i
 simp [one4,h1,h2,h3,h4,h5,h6]
theorem Cok.of {c:Conf} (f:Bits7 c.full) (w:Bits7 c.wit) (l:Bits7 c.learn) (x:Bits7 c.lwit) (i0:Nat) (h0:tb c.full i0=true) (h:∀ i,one4 (tb c.full i) (tb c.wit i) (tb c.learn i) (tb c.lwit i)=true):Cok c:=by
 refine ⟨f,w,l,x,?_,?_,?_,?_,?_,?_,?_⟩
 ·intro e;rw [e,zet] at h0;cases h0
 all_goals (intro i;have:=h i;revert this;unfold one4;cases tb c.full i<;>cases tb c.wit i<;>cases tb c.learn i<;>cases tb c.lwit i<;>simp)
theorem zn9 {n:Nat} (h:n < 7):Bits7 (shl 1 n):=zlg (by
 rw [zgd n (by omega)]
 have:(2:Nat) ^ n < 2 ^ 7:=Nat.pow_lt_pow_right (by decide) h
 generalize (2:Nat) ^ n=m at this
 unfold isI;omega) fun i h7 _=>by rw [zga n i (by omega)];simp;omega
theorem tb_all (c:Conf) (i:Nat):tb (allB c) i=any4 (tb c.full i) (tb c.wit i) (tb c.learn i) (tb c.lwit i):=by
 unfold allB any4;rw [tb_or,tb_or,tb_or]
theorem ztq {c:Conf} (h:Cok c) {n:Nat} (hn:n < 7):zh6 c n=0:=by
 unfold zh6;rw [if_pos ((zeo c).2 h),if_pos (by simp [zap];omega)]
def free (c:Conf) (n:Nat):Prop:=tb c.full n=false∧tb c.wit n=false∧tb c.learn n=false∧tb c.lwit n=false
theorem zym {c:Conf}{n:Nat} (hn:n < 7):band (allB c) (shl 1 n)=0 ↔ free c n:=by
 rw [zip hn,tb_all];unfold any4 free
 cases tb c.full n<;>cases tb c.wit n<;>cases tb c.learn n<;>cases tb c.lwit n<;>simp
noncomputable abbrev addL (c:Conf) (n:Nat):Conf:=⟨c.full,c.wit,bor c.learn (shl 1 n),c.lwit⟩
noncomputable abbrev addX (c:Conf) (n:Nat):Conf:=⟨c.full,c.wit,c.learn,bor c.lwit (shl 1 n)⟩
noncomputable abbrev proL (c:Conf) (n:Nat):Conf:=⟨bor c.full (shl 1 n),c.wit,bandn c.learn (shl 1 n),c.lwit⟩
noncomputable abbrev proX (c:Conf) (n:Nat):Conf:=⟨c.full,bor c.wit (shl 1 n),c.learn,bandn c.lwit (shl 1 n)⟩
noncomputable abbrev dele (c:Conf) (n:Nat):Conf:=⟨bandn c.full (shl 1 n),bandn c.wit (shl 1 n),bandn c.learn (shl 1 n),bandn c.lwit (shl 1 n)⟩
theorem zlq (a b:Int) (i:Nat):tb (bandn a b) i=(tb a i && !tb b i):=by
 by_cases h:i < 64
 ·exact zu4 a b i h
 ·rw [show tb (bandn a b) i=false from BitVec.getLsbD_of_ge _ _ (by omega),show tb a i=false from BitVec.getLsbD_of_ge _ _ (by omega)];rfl
theorem Conf.ext' {a b:Conf} (h1:a.full=b.full) (h2:a.wit=b.wit) (h3:a.learn=b.learn) (h4:a.lwit=b.lwit):a=b:=by
 cases a;cases b;simp_all
theorem Cok.ext {a b:Conf} (ha:Cok a) (hb:Cok b) (h:∀ i,i < 7→tb a.full i=tb b.full i∧tb a.wit i=tb b.wit i∧tb a.learn i=tb b.learn i∧tb a.lwit i=tb b.lwit i):a=b :=
 Conf.ext' (ext7 ha.f hb.f fun i hi=>(h i hi).1) (ext7 ha.w hb.w fun i hi=>(h i hi).2.1) (ext7 ha.l hb.l fun i hi=>(h i hi).2.2.1) (ext7 ha.x hb.x fun i hi=>(h i hi).2.2.2)
theorem zq6 (c:Conf) {n:Nat} (hn:n < 7):kindR c n=if tb c.full n then sFull else if tb c.wit n then sWit else if tb c.learn n then zjd else if tb c.lwit n then sLwit else sE:=by
 unfold kindR
 rw [if_pos (by simp [zap];omega)]
 simp only [ne_eq,zip hn,Bool.not_eq_false]
theorem zi2 (a b:Conf):Ctr Tryz.prog 137 [.ag a.enc,.ag b.enc] (bv (decide (a=b))) []:=by
 refine sBody Tryz.func137 ?_;conv=>whnf
 repeat' (refine tSp (fun h=>?_) (fun h=>?_)<;>conv=>whnf)
 all_goals (refine zab rfl ?_)
 all_goals (refine congrArg (fun b:Bool=>bv b) ?_;symm)
 ·have e:a=b ↔ a.lwit=b.lwit:=⟨fun e=>by rw [e],fun e=>Conf.ext' (by assumption) (by assumption) (by assumption) e⟩
  rw [decide_eq_decide.2 e];rfl
 all_goals (rw [decide_eq_false];intro e;subst e;contradiction)
theorem eqOk23:EqOk Tryz.prog 23:=⟨by kernel_rfl,by kernel_rfl,by kernel_rfl,by kernel_rfl⟩
theorem eqConf (a b:Conf):zgc (Tryz.prog.fieldsOf 23).toList a.enc b.enc=some (decide (a=b)):=by
 have h:zgc (Tryz.prog.fieldsOf 23).toList a.enc b.enc=some (a.full == b.full && (a.wit == b.wit && (a.learn == b.learn && (a.lwit == b.lwit && true)))):=by kernel_rfl
 rw [h]
 congr 1
 rw [Bool.eq_iff_iff]
 simp only [Bool.and_eq_true,beq_iff_eq,decide_eq_true_eq,and_true]
 exact ⟨fun ⟨h1,h2,h3,h4⟩=>Conf.ext' h1 h2 h3 h4,fun e=>by subst e;exact ⟨rfl,rfl,rfl,rfl⟩⟩
def hitS (s:Conf×Int) (b:Conf):Bool:=s.2 == 0 && decide (s.1=b)
noncomputable def nearI (a b:Conf) (i:Int):Bool:=hitS (zv6 a i false) b || (hitS (zv6 a i true) b || (hitS (zqs a i) b || hitS (zvd a i) b))
noncomputable def nearR (a b:Conf):Bool:=confB a && (confB b && (decide (a=b) || (List.range 7).any fun i=>nearI a b i))
def kind4 (f w l x:Bool):ByteArray:=if f then sFull else if w then sWit else if l then zjd else if x then sLwit else sE
theorem zsf:∀ x:Fin 128,∀ n:Fin 7,x.val.testBit n.val=false→x.val ||| 2 ^ n.val=x.val+2 ^ n.val:=by decide +kernel
theorem zjt {x:Int}{n:Nat} (hx:Bits7 x) (hn:n < 7) (h:tb x n=false):x+shl 1 n=bor x (shl 1 n):=by
 obtain ⟨m,rfl⟩:=Int.eq_ofNat_of_zero_le hx.1
 have hm:m < 128:=by have:=hx.2;omega
 rw [zh9 _ _ (by omega)] at h
 have e:=zsf ⟨m,hm⟩ ⟨n,hn⟩ h
 simp only at e
 have h2:(2:Nat) ^ n < 2 ^ 7:=Nat.pow_lt_pow_right (by decide) hn
 have hs:=zgd n (by omega)
 have hb:Bits7 (bor (m:Int) (shl 1 n)):=zlv hx (zn9 hn)
 rw [hs] at *
 have hlt:m ||| 2 ^ n < 128:=Nat.or_lt_two_pow (n:=7) hm h2
 have e2:((m:Int)+((2 ^ n:Nat):Int))=((m ||| 2 ^ n:Nat):Int):=by rw [e];simp
 rw [e2]
 refine ext7 ⟨by omega,by omega⟩ hb fun i _=>?_
 rw [tb_or,zh9 _ _ (by omega),zh9 _ _ (by omega),zh9 _ _ (by omega),Nat.testBit_or]
theorem zli {x:Int}{n:Nat} (hx:Bits7 x) (hn:n < 7) (h:tb x n=true):x - shl 1 n=bandn x (shl 1 n):=by
 have hb:Bits7 (bandn x (shl 1 n)):=zky hx
 have h0:tb (bandn x (shl 1 n)) n=false:=by rw [zlq,zga n n (by omega)];simp
 have e:=zjt hb hn h0
 have e2:bor (bandn x (shl 1 n)) (shl 1 n)=x:=ext7 (zlv hb (zn9 hn)) hx fun i _=>by
  rw [tb_or,zlq,zga n i (by omega)]
  by_cases ei:n=i
  ·subst ei;simp [h]
  ·simp [ei]
 rw [e2] at e
 omega
theorem zwk {b:Int}{n:Nat} (hn:n < 7):hasB b n=tb b n:=zcv b n (by omega)
theorem kind_4 (c:Conf) {n:Nat} (hn:n < 7):kind c n=kind4 (tb c.full n) (tb c.wit n) (tb c.learn n) (tb c.lwit n):=by
 unfold kind kind4
 rw [if_pos (by simp [zap];omega)]
 simp only [zwk hn]
theorem shl_u {n:Nat} (hn:n < 7):shl 1 (IntKind.u64.wrap n)=shl 1 n:=by rw [zb4 (by omega) (by omega)]
theorem zwf {n:Nat} (hn:n < 7):0 < shl 1 n∧shl 1 n≤64:=by
 rw [zgd n (by omega)]
 have:(2:Nat) ^ n≤2 ^ 6:=Nat.pow_le_pow_right (by decide) (by omega)
 have h2:0 < (2:Nat) ^ n:=Nat.pow_pos (by decide)
 omega
def lastT (h:Hrd):Int:=match h.log.getLast? with
 | none=>h.baseTerm
 | some x=>x.term
def lastI (h:Hrd):Int:=if h.log.length=0 then h.base else w64 (h.base+h.log.length)
theorem zw5 {l:List Ent} (h:l.length ≠ 0) (hm:l.length≤maxLen):0≤w64 ((l.length:Int) - 1)∧(l.map Ent.enc)[(w64 ((l.length:Int) - 1)).toNat]?=some (l.getLast (by intro e;rw [e] at h;exact h rfl)).enc:=by
 have hm':l.length≤9223372036854775807:=Nat.le_trans hm (by decide)
 rw [show w64 ((l.length:Int) - 1)=((l.length - 1:Nat):Int) from by rw [show w64 ((l.length:Int) - 1)=(l.length:Int) - 1 from zal (by omega) (by omega)];omega]
 refine ⟨by omega,?_⟩
 rw [zbn (by omega),List.getLast_eq_getElem]
theorem zke {h:Hrd} (hl:h.log ≠ []):lastT h=(h.log.getLast hl).term:=by
 unfold lastT;first | rw [List.getLast?_eq_some_getLast hl] | rw [List.getLast?_eq_getLast hl] | rw [List.getLast?_eq_getLast_of_ne_nil hl]
theorem zd4 (a:Hrd) (hm:a.log.length≤maxLen):Ctr Tryz.prog 48 [.ag a.enc] (.tu [iv (lastI a),iv (lastT a)]) []:=by
 refine sBody Tryz.func48 ?_;conv=>whnf
 (refine tSp (fun h=>?_) (fun h=>?_)<;>conv=>whnf)
 ·have h0 : a.log = [] := by
    simp only [List.length_map] at *
    exact List.eq_nil_of_length_eq_zero (by omega)
  refine zab rfl ?_
  simp [lastI,lastT,h0]
 ·simp only [List.length_map] at *
  obtain ⟨h1,h2⟩:=zw5 (l:=a.log) (by omega) hm
  refine ⟨h1,_,h2,?_⟩
  conv=>whnf
  refine zab rfl ?_
  have hne:a.log ≠ []:=fun e=>by simp_all
  rw [zke hne,lastI,if_neg (by omega)]
theorem zb0 (a:Hrd) (hm:a.log.length≤maxLen):Ctr Tryz.prog 151 [.ag a.enc] (.tu [iv (lastI a),iv (lastT a)]) []:=by
 refine sBody Tryz.func151 ?_;conv=>whnf
 (refine tSp (fun h=>?_) (fun h=>?_)<;>conv=>whnf)
 ·have h0 : a.log = [] := by
    simp only [List.length_map] at *
    exact List.eq_nil_of_length_eq_zero (by omega)
  refine zab rfl ?_
  simp [lastI,lastT,h0]
 ·simp only [List.length_map] at *
  obtain ⟨h1,h2⟩:=zw5 (l:=a.log) (by omega) hm
  refine ⟨h1,_,h2,?_⟩
  conv=>whnf
  refine zab rfl ?_
  have hne:a.log ≠ []:=fun e=>by simp_all
  rw [zke hne,lastI,if_neg (by omega)]
def newer (h:Hrd) (i t:Int):Bool:=decide (lastT h < t) || (t == lastT h && decide (lastI h≤i))
theorem zv5 (h:Hrd) (hm:h.log.length≤maxLen) (i t:Int):Ctr Tryz.prog 186 [.ag h.enc,iv i,iv t] (bv (newer h i t)) []:=by
 refine sBody Tryz.func186 ?_;conv=>whnf
 ((try (refine Exists.intro none ?_;conv=>whnf));(with_reducible refine zaa (zd4 h hm) ?_);conv=>whnf)
 repeat' (refine tSp (fun h=>?_) (fun h=>?_)<;>conv=>whnf)
 all_goals (refine zab rfl ?_;simp [newer, *])
theorem zpy (h:Hrd) (hm:h.log.length≤maxLen) (i t:Int):Ctr Tryz.prog 159 [.ag h.enc,iv i,iv t] (bv (newer h i t)) []:=by
 refine sBody Tryz.func159 ?_;conv=>whnf
 ((try (refine Exists.intro none ?_;conv=>whnf));(with_reducible refine zaa (zb0 h hm) ?_);conv=>whnf)
 repeat' (refine tSp (fun h=>?_) (fun h=>?_)<;>conv=>whnf)
 all_goals (refine zab rfl ?_;simp [newer, *])
def asked (r:Rft) (m:Mg):Bool:=decide (r.hard.term < m.term) && (r.role != 3 && (decide (6≤r.quiet) && newer r.hard m.index m.logTerm))
theorem c_Asked (r:Rft) (hm:r.hard.log.length≤maxLen) (m:Mg):Ctr Tryz.prog 185 [.ag r.enc,.ag m.enc] (bv (asked r m)) []:=by
 refine sBody Tryz.func185 ?_;conv=>whnf
 repeat' (first | ((try (refine Exists.intro none ?_;conv=>whnf));(with_reducible refine zaa (zv5 r.hard hm _ _) ?_);conv=>whnf) | (refine tSp (fun h=>?_) (fun h=>?_)<;>conv=>whnf))
 all_goals (refine zab rfl ?_;simp [asked, *])
theorem zxz (r:Rft) (hm:r.hard.log.length≤maxLen) (m:Mg):Ctr Tryz.prog 91 [.ag r.enc,.ag m.enc] (bv (asked r m)) []:=by
 refine sBody Tryz.func91 ?_;conv=>whnf
 repeat' (first | ((try (refine Exists.intro none ?_;conv=>whnf));(with_reducible refine zaa (zpy r.hard hm _ _) ?_);conv=>whnf) | (refine tSp (fun h=>?_) (fun h=>?_)<;>conv=>whnf))
 all_goals (refine zab rfl ?_;simp [asked, *])
def voted (r:Rft) (m:Mg):Bool:=m.term == r.hard.term && ((r.hard.vote == -1 || r.hard.vote == m.frm) && newer r.hard m.index m.logTerm)
theorem zux (r:Rft) (hm:r.hard.log.length≤maxLen) (m:Mg):Ctr Tryz.prog 130 [.ag r.enc,.ag m.enc] (bv (voted r m)) []:=by
 refine sBody Tryz.func130 ?_;conv=>whnf
 repeat' (first | ((try (refine Exists.intro none ?_;conv=>whnf));(with_reducible refine zaa (zv5 r.hard hm _ _) ?_);conv=>whnf) | (refine tSp (fun h=>?_) (fun h=>?_)<;>conv=>whnf))
 all_goals (refine zab rfl ?_;simp [voted, *])
theorem zqe (r:Rft) (hm:r.hard.log.length≤maxLen) (m:Mg):Ctr Tryz.prog 93 [.ag r.enc,.ag m.enc] (bv (voted r m)) []:=by
 refine sBody Tryz.func93 ?_;conv=>whnf
 repeat' (first | ((try (refine Exists.intro none ?_;conv=>whnf));(with_reducible refine zaa (zpy r.hard hm _ _) ?_);conv=>whnf) | (refine tSp (fun h=>?_) (fun h=>?_)<;>conv=>whnf))
 all_goals (refine zab rfl ?_;simp [voted, *])
abbrev idx (h:Hrd) (k:Nat):Int:=w64 (w64 (h.base+k)+1)
def fwd (h:Hrd) (upto:Int):Nat→Conf×Int
 | 0=>(h.baseConf,h.base)
 | i+1=>match h.log[i]? with
  | some x=>if idx h i≤upto∧x.kind=2 then (x.conf,idx h i) else fwd h upto i
  | none=>fwd h upto i
def force (h:Hrd) (upto:Int):Conf×Int:=fwd h upto h.log.length
abbrev civ (x:Conf×Int):PV:=.tu [.ag x.1.enc,iv x.2]
theorem zty {h:Hrd}{upto:Int}{i:Nat} (hi:i < h.log.length) (h1:idx h i≤upto) (h2:(h.log[i]'hi).kind=2):fwd h upto (i+1)=((h.log[i]'hi).conf,idx h i):=by
 simp [fwd,hi,h1,h2]
theorem zil {h:Hrd}{upto:Int}{i:Nat} (hi:i < h.log.length) (h1:¬ (idx h i≤upto∧(h.log[i]'hi).kind=2)):fwd h upto (i+1)=fwd h upto i:=by
 simp only [fwd,List.getElem?_eq_getElem hi,h1,if_false]
theorem zi9 (a:Hrd) (hm:a.log.length≤maxLen) (upto:Int):Ctr Tryz.prog 152 [.ag a.enc,iv upto] (civ (force a upto)) []:=by
 have hm':a.log.length≤9223372036854775807:=Nat.le_trans hm (by decide)
 refine sBody Tryz.func152 ?_;conv=>whnf
 refine zlk mixed (by kernel_rfl) (fun i:Nat=>i≤a.log.length) (fun i=>[(8,iv i),(7,iv (fwd a upto i).2)]) (fun i=>[(2,a.enc),(4,cz.enc),(6,(fwd a upto i).1.enc)]) [] (fun i=>a.log.length - i) 0 (Nat.zero_le _) ?_ ?_
 ·conv=>whnf
  exact wkD
 ·intro i hi
  conv=>whnf
  (refine tSp (fun h=>?_) (fun h=>?_)<;>conv=>whnf)
  ·simp only [List.length_map] at h
   have hlt:i < a.log.length:=by omega
   (refine tSp (fun h=>?_) (fun h=>?_)<;>conv=>whnf)
   ·refine ⟨by omega,_,zbn hlt,?_⟩
    conv=>whnf
    rename_i h0
    (refine tSp (fun h=>?_) (fun h=>?_)<;>conv=>whnf)
    ·refine ⟨by omega,_,zbn hlt,?_⟩
     conv=>whnf
     rename_i h1
     refine ⟨i+1,⟨by omega,by omega⟩,?_⟩
     conv=>whnf
     have e:=zty hlt h1 h
     (refine wkx ?_;refine ⟨?_,?_,?_⟩<;>(conv=>whnf)<;>repeat' first | exact wkc | (with_reducible refine And.intro ?_ ?_)<;>first | exact wks | refine wko ?_ | refine wki ?_ | refine wkb ?_ | (refine zan ?_;conv=>whnf) | (refine zah ?_;conv=>whnf) | (refine zag ?_;conv=>whnf) | conv=>whnf)
     all_goals first | exact w1 (by omega) | (rw [e])
    ·rename_i h1
     refine ⟨i+1,⟨by omega,by omega⟩,?_⟩
     conv=>whnf
     have e:=zil (upto:=upto) hlt (fun x=>h x.2)
     (refine wkx ?_;refine ⟨?_,?_,?_⟩<;>(conv=>whnf)<;>repeat' first | exact wkc | (with_reducible refine And.intro ?_ ?_)<;>first | exact wks | refine wko ?_ | refine wki ?_ | refine wkb ?_ | (refine zan ?_;conv=>whnf) | (refine zah ?_;conv=>whnf) | (refine zag ?_;conv=>whnf) | conv=>whnf)
     all_goals first | exact w1 (by omega) | (rw [e])
   ·rename_i h0
    refine ⟨i+1,⟨by omega,by omega⟩,?_⟩
    conv=>whnf
    have e:=zil hlt (fun x=>h x.1)
    (refine wkx ?_;refine ⟨?_,?_,?_⟩<;>(conv=>whnf)<;>repeat' first | exact wkc | (with_reducible refine And.intro ?_ ?_)<;>first | exact wks | refine wko ?_ | refine wki ?_ | refine wkb ?_ | (refine zan ?_;conv=>whnf) | (refine zah ?_;conv=>whnf) | (refine zag ?_;conv=>whnf) | conv=>whnf)
    all_goals first | exact w1 (by omega) | (rw [e])
  ·simp only [List.length_map] at h
   have:i=a.log.length:=by omega
   subst this
   exact zab rfl rfl
theorem zpr (a:Hrd) (hm:a.log.length≤maxLen) (upto:Int):Ctr Tryz.prog 115 [.ag a.enc,iv upto] (civ (force a upto)) []:=by
 have hm':a.log.length≤9223372036854775807:=Nat.le_trans hm (by decide)
 refine sBody Tryz.func115 ?_;conv=>whnf
 refine zbv mixed (by kernel_rfl) (fun i:Nat=>i≤a.log.length∧fwd a upto i=force a upto) (fun i=>[(6,iv ((i:Int) - 1))]) [] (fun i=>i) a.log.length ⟨Nat.le_refl _,rfl⟩ ?_ ?_
 ·conv=>whnf
  (refine wkx ?_;refine ⟨?_,?_,?_⟩<;>(conv=>whnf)<;>repeat' first | exact wkc | (with_reducible refine And.intro ?_ ?_)<;>first | exact wks | refine wko ?_ | refine wki ?_ | refine wkb ?_ | (refine zan ?_;conv=>whnf) | (refine zah ?_;conv=>whnf) | (refine zag ?_;conv=>whnf) | conv=>whnf)
  simp only [List.length_map];exact zal (by omega) (by omega)
 ·rintro i ⟨hi,hf⟩
  conv=>whnf
  (refine tSp (fun h=>?_) (fun h=>?_)<;>conv=>whnf)
  ·obtain ⟨k,rfl⟩:∃ k,i=k+1:=⟨i - 1,by omega⟩
   have ek:(((k+1:Nat):Int) - 1)=(k:Int):=by omega
   rw [ek]
   have hlt:k < a.log.length:=by omega
   refine ⟨by omega,_,zbn hlt,?_⟩
   conv=>whnf
   (refine tSp (fun h=>?_) (fun h=>?_)<;>conv=>whnf)
   ·rename_i h0
    (refine tSp (fun h=>?_) (fun h=>?_)<;>conv=>whnf)
    ·refine ⟨by omega,_,zbn hlt,?_⟩
     conv=>whnf
     rename_i h1
     refine zab rfl ?_
     rw [← hf,zty hlt h h1]
    ·rename_i h1
     refine ⟨k,⟨⟨by omega,?_⟩,by omega⟩,?_⟩
     ·rw [← hf,zil hlt (fun x=>h x.1)]
     ·conv=>whnf
      (refine wkx ?_;refine ⟨?_,?_,?_⟩<;>(conv=>whnf)<;>repeat' first | exact wkc | (with_reducible refine And.intro ?_ ?_)<;>first | exact wks | refine wko ?_ | refine wki ?_ | refine wkb ?_ | (refine zan ?_;conv=>whnf) | (refine zah ?_;conv=>whnf) | (refine zag ?_;conv=>whnf) | conv=>whnf)
      exact zal (by omega) (by omega)
   ·rename_i h0
    refine ⟨k,⟨⟨by omega,?_⟩,by omega⟩,?_⟩
    ·rw [← hf,zil hlt (fun x=>h x.2)]
    ·conv=>whnf
     (refine wkx ?_;refine ⟨?_,?_,?_⟩<;>(conv=>whnf)<;>repeat' first | exact wkc | (with_reducible refine And.intro ?_ ?_)<;>first | exact wks | refine wko ?_ | refine wki ?_ | refine wkb ?_ | (refine zan ?_;conv=>whnf) | (refine zah ?_;conv=>whnf) | (refine zag ?_;conv=>whnf) | conv=>whnf)
     exact zal (by omega) (by omega)
  ·have:i=0:=by omega
   subst this
   refine zab rfl ?_
   rw [← hf];rfl
theorem zem (r:Rft) (hm:r.hard.log.length≤maxLen):Ctr Tryz.prog 111 [.ag r.enc] (.ag (force r.hard (lastI r.hard)).1.enc) []:=by
 refine sBody Tryz.func111 ?_;conv=>whnf
 ((try (refine Exists.intro none ?_;conv=>whnf));(with_reducible refine zaa (zd4 r.hard hm) ?_);conv=>whnf)
 ((try (refine Exists.intro none ?_;conv=>whnf));(with_reducible refine zaa (zpr r.hard hm _) ?_);conv=>whnf)
 exact zab rfl rfl
theorem zb7 (r:Rft) (hm:r.hard.log.length≤maxLen):Ctr Tryz.prog 76 [.ag r.enc] (.ag (force r.hard (lastI r.hard)).1.enc) []:=by
 refine sBody Tryz.func76 ?_;conv=>whnf
 ((try (refine Exists.intro none ?_;conv=>whnf));(with_reducible refine zaa (zb0 r.hard hm) ?_);conv=>whnf)
 ((try (refine Exists.intro none ?_;conv=>whnf));(with_reducible refine zaa (zi9 r.hard hm _) ?_);conv=>whnf)
 exact zab rfl rfl
abbrev zac (r:Rft):Conf:=(force r.hard (lastI r.hard)).1
theorem zk4 (r:Rft) (hm:r.hard.log.length≤maxLen):Ctr Tryz.prog 123 [.ag r.enc] (bv (zbb (zac r) r.votes)) []:=by
 refine sBody Tryz.func123 ?_;conv=>whnf
 ((try (refine Exists.intro none ?_;conv=>whnf));(with_reducible refine zaa (zem r hm) ?_);conv=>whnf)
 ((try (refine Exists.intro none ?_;conv=>whnf));(with_reducible refine zaa (zlt (zac r) _) ?_);conv=>whnf)
 exact zab rfl rfl
theorem zjw (r:Rft) (hm:r.hard.log.length≤maxLen):Ctr Tryz.prog 79 [.ag r.enc] (bv (zbb (zac r) r.votes)) []:=by
 refine sBody Tryz.func79 ?_;conv=>whnf
 ((try (refine Exists.intro none ?_;conv=>whnf));(with_reducible refine zaa (zb7 r hm) ?_);conv=>whnf)
 ((try (refine Exists.intro none ?_;conv=>whnf));(with_reducible refine zaa (zg1 (zac r) _) ?_);conv=>whnf)
 exact zab rfl rfl
theorem zlu (r:Rft) (hm:r.hard.log.length≤maxLen):Ctr Tryz.prog 117 [.ag r.enc] (bv (bitB (bor (zac r).full (zac r).wit) r.id)) []:=by
 refine sBody Tryz.func117 ?_;conv=>whnf
 ((try (refine Exists.intro none ?_;conv=>whnf));(with_reducible refine zaa (zem r hm) ?_);conv=>whnf)
 ((try (refine Exists.intro none ?_;conv=>whnf));(with_reducible refine zaa (zle (zac r)) ?_);conv=>whnf)
 ((try (refine Exists.intro none ?_;conv=>whnf));(with_reducible refine zaa (c_bit _ _) ?_);conv=>whnf)
 exact zab rfl rfl
theorem zin (r:Rft) (hm:r.hard.log.length≤maxLen):Ctr Tryz.prog 78 [.ag r.enc] (bv (bitB (bor (zac r).full (zac r).wit) r.id)) []:=by
 refine sBody Tryz.func78 ?_;conv=>whnf
 ((try (refine Exists.intro none ?_;conv=>whnf));(with_reducible refine zaa (zcc _) ?_);conv=>whnf)
 (refine tSp (fun h=>?_) (fun h=>?_)<;>conv=>whnf)
 ·((try (refine Exists.intro none ?_;conv=>whnf));(with_reducible refine zaa (zb7 r hm) ?_);conv=>whnf)
  ((try (refine Exists.intro none ?_;conv=>whnf));(with_reducible refine zaa (zi4 (zac r)) ?_);conv=>whnf)
  ((try (refine Exists.intro none ?_;conv=>whnf));(with_reducible refine zaa (c_Has _ _) ?_);conv=>whnf)
  refine zab rfl ?_
  rw [zhw h]
 ·refine zab rfl ?_
  rw [zl0 h]
theorem zio (c:Conf) (i:Int):Ctr Tryz.prog 75 [.ag c.enc,iv i] (iv (delay c i)) []:=by
 refine sBody Tryz.func75 ?_;conv=>whnf
 ((try (refine Exists.intro none ?_;conv=>whnf));(with_reducible refine zaa (zl8 c i) ?_);conv=>whnf)
 repeat' (refine tSp (fun h=>?_) (fun h=>?_)<;>conv=>whnf)
 all_goals (refine zab rfl ?_;have hf:=zny c i;have hw:=zxu c i;rw [Bool.eq_iff_iff,beq_iff_eq] at hf hw;simp_all [delay])
abbrev bz:ByteArray:=⟨#[]⟩
abbrev vz:VVal:=⟨0,0,bz⟩
abbrev kz:VCall:=⟨0,0,⟨0,bz,vz,vz⟩⟩
abbrev ez:Ent:=⟨0,0,kz,cz⟩
def entAt (h:Hrd) (i:Int):Option Ent:=if h.base < i∧i - h.base≤h.log.length then h.log[(i - h.base - 1).toNat]? else none
theorem zd2 {h:Hrd}{i:Int} (hh:¬ (h.base < i∧i - h.base≤h.log.length)):entAt h i=none:=by
 unfold entAt;rw [if_neg hh]
theorem zen {h:Hrd}{i:Int} (h1:h.base < i) (h2:i - h.base≤h.log.length):entAt h i=some (h.log[(i - h.base - 1).toNat]'(by omega)):=by
 unfold entAt;rw [if_pos ⟨h1,h2⟩,List.getElem?_eq_getElem]
theorem zvv {α:Type}{f:α→List PV}{l:List α}{n:Int}{k:Nat} (hn:n=k) (h:k < l.length):0≤n∧(l.map f)[n.toNat]?=some (f (l[k]'h)):=by
 subst hn;exact ⟨by omega,zbn h⟩
theorem zxc (a:Hrd) (hm:a.log.length≤maxLen) (hb:isI a.base) (i:Int) (hi:isI i):Ctr Tryz.prog 141 [.ag a.enc,iv i] (.tu [.ag ((entAt a i).getD ez).enc,bv (entAt a i).isSome]) []:=by
 have hm':a.log.length≤9223372036854775807:=Nat.le_trans hm (by decide)
 unfold isI at hb hi
 refine sBody Tryz.func141 ?_;conv=>whnf
 (refine tSp (fun h=>?_) (fun h=>?_)<;>conv=>whnf)
 ·refine zab rfl ?_
  rw [zd2 (by omega)];rfl
 have h0:=h
 (refine tSp (fun h=>?_) (fun h=>?_)<;>conv=>whnf)
 ·refine zab rfl ?_
  simp only [List.length_map] at h
  rw [zd2]
  ·rfl
  ·rw [zmn] at h;split at h<;>omega
 have h1:=h
 (refine tSp (fun h=>?_) (fun h=>?_)<;>conv=>whnf)
 ·refine zab rfl ?_
  simp only [List.length_map] at h h1
  rw [zd2]
  ·rfl
  ·rw [zmn] at h;split at h<;>omega
 ·simp only [List.length_map] at h h1
  have e:IntKind.i64.wrap (i - a.base)=i - a.base:=by
   rw [zmn] at *;split at h<;>split<;>omega
  rw [e] at h h1
  have e2:IntKind.i64.wrap (IntKind.i64.wrap (i - a.base) - 1)=((i - a.base - 1).toNat:Int):=by
   rw [e,zal (by omega) (by omega)];omega
  obtain ⟨r1,r2⟩:=zvv (f:=Ent.enc) (l:=a.log) e2 (by omega)
  refine ⟨r1,_,r2,?_⟩
  conv=>whnf
  refine zab rfl ?_
  rw [zen (by omega) (by omega)];rfl
def zbh (h:Hrd) (i:Int):Int:=if i=h.base then h.baseTerm else match entAt h i with
 | some x=>x.term
 | none=>-1
theorem znp (a:Hrd) (hm:a.log.length≤maxLen) (hb:isI a.base) (i:Int) (hi:isI i):Ctr Tryz.prog 204 [.ag a.enc,iv i] (iv (zbh a i)) []:=by
 refine sBody Tryz.func204 ?_;conv=>whnf
 (refine tSp (fun h=>?_) (fun h=>?_)<;>conv=>whnf)
 ·exact zab rfl (by rw [zbh,if_pos h])
 have h0:=h
 ((try (refine Exists.intro none ?_;conv=>whnf));(with_reducible refine zaa (zxc a hm hb i hi) ?_);conv=>whnf)
 cases he:entAt a i with
 | none =>
  conv=>whnf
  exact zab rfl (by rw [zbh,if_neg h0,he])
 | some x =>
  conv=>whnf
  exact zab rfl (by rw [zbh,if_neg h0,he];rfl)
def fits (h:Hrd) (i t:Int):Bool:=t != -1 && zbh h i == t
theorem zwx (a:Hrd) (hm:a.log.length≤maxLen) (hb:isI a.base) (i:Int) (hi:isI i) (t:Int):Ctr Tryz.prog 203 [.ag a.enc,iv i,iv t] (bv (fits a i t)) []:=by
 refine sBody Tryz.func203 ?_;conv=>whnf
 (refine tSp (fun h=>?_) (fun h=>?_)<;>conv=>whnf)
 ·((try (refine Exists.intro none ?_;conv=>whnf));(with_reducible refine zaa (znp a hm hb i hi) ?_);conv=>whnf)
  exact zab rfl (by simp [fits,h])
 ·exact zab rfl (by simp [fits,h])
theorem c_rAt (a:Hrd) (hm:a.log.length≤maxLen) (hb:0≤a.base) (hs:a.base+a.log.length < 9223372036854775808) (i:Int) (hi:isI i):Ctr Tryz.prog 54 [.ag a.enc,iv i] (.tu [.ag ((entAt a i).getD ez).enc,bv (entAt a i).isSome]) []:=by
 have hm':a.log.length≤9223372036854775807:=Nat.le_trans hm (by decide)
 unfold isI at hi
 refine sBody Tryz.func54 ?_;conv=>whnf
 (refine tSp (fun h=>?_) (fun h=>?_)<;>conv=>whnf)
 ·refine zab rfl ?_
  rw [zd2 (by omega)];rfl
 have h0:=h
 (refine tSp (fun h=>?_) (fun h=>?_)<;>conv=>whnf)
 ·refine zab rfl ?_
  simp only [List.length_map] at h
  rw [zal (by omega) (by omega)] at h
  rw [zd2 (by omega)];rfl
 ·simp only [List.length_map] at h
  rw [zal (by omega) (by omega)] at h
  have e2:IntKind.i64.wrap (IntKind.i64.wrap (i - a.base) - 1)=((i - a.base - 1).toNat:Int):=by
   rw [zal (n:=i - a.base) (by omega) (by omega),zal (by omega) (by omega)];omega
  obtain ⟨r1,r2⟩:=zvv (f:=Ent.enc) (l:=a.log) e2 (by omega)
  refine ⟨r1,_,r2,?_⟩
  conv=>whnf
  refine zab rfl ?_
  rw [zen (by omega) (by omega)];rfl
theorem zjs (a:Hrd) (hm:a.log.length≤maxLen) (hb:0≤a.base) (hs:a.base+a.log.length < 9223372036854775808) (i:Int) (hi:isI i):Ctr Tryz.prog 58 [.ag a.enc,iv i] (iv (zbh a i)) []:=by
 refine sBody Tryz.func58 ?_;conv=>whnf
 (refine tSp (fun h=>?_) (fun h=>?_)<;>conv=>whnf)
 ·exact zab rfl (by rw [zbh,if_pos h])
 have h0:=h
 ((try (refine Exists.intro none ?_;conv=>whnf));(with_reducible refine zaa (c_rAt a hm hb hs i hi) ?_);conv=>whnf)
 cases he:entAt a i with
 | none =>
  conv=>whnf
  exact zab rfl (by rw [zbh,if_neg h0,he])
 | some x =>
  conv=>whnf
  exact zab rfl (by rw [zbh,if_neg h0,he];rfl)
def Arr.at (m:Arr):Nat→Int
 | 0=>m.a0
 | 1=>m.a1
 | 2=>m.a2
 | 3=>m.a3
 | 4=>m.a4
 | 5=>m.a5
 | 6=>m.a6
 | _=>0
noncomputable def haveB (m:Arr) (n:Int):Nat→Int
 | 0=>0
 | k+1=>if n≤m.at k then bor (haveB m n k) (shl 1 k) else haveB m n k
def down (p:Int→Bool) (base commit:Int):Nat→Int
 | 0=>commit
 | f+1=>if commit < base+f then (if p (base+f) then base+f else down p base commit f) else commit
noncomputable def hit (h:Hrd) (m:Arr) (n:Int):Bool:=fits h n h.term && zbb (force h (lastI h)).1 (haveB m n 7)
noncomputable def zdh (h:Hrd) (commit:Int) (m:Arr):Int:=down (hit h m) h.base commit (h.log.length+1)
theorem zq9 {h:Hrd} (hb:0≤h.base) (hs:h.base+h.log.length < 9223372036854775808):lastI h=h.base+h.log.length:=by
 unfold lastI
 split
 ·omega
 ·exact zal (by omega) (by omega)
set_option maxHeartbeats 2000000 in
theorem zrb (a:Hrd) (hm:a.log.length≤maxLen) (hb:0≤a.base) (hs:a.base+a.log.length < 9223372036854775808) (commit:Int) (m:Arr):Ctr Tryz.prog 192 [.ag a.enc,iv commit,.ag m.enc] (iv (zdh a commit m)) []:=by
 have hbI:isI a.base:=by unfold isI;omega
 refine sBody Tryz.func192 ?_;conv=>whnf
 ((try (refine Exists.intro none ?_;conv=>whnf));(with_reducible refine zaa (zd4 a hm) ?_);conv=>whnf)
 ((try (refine Exists.intro none ?_;conv=>whnf));(with_reducible refine zaa (zpr a hm _) ?_);conv=>whnf)
 refine zbv mixed (by kernel_rfl) (fun f:Nat=>f≤a.log.length+1∧down (hit a m) a.base commit f=zdh a commit m) (fun f=>[(11,iv (a.base+f - 1))]) [] (fun f=>f) (a.log.length+1) ⟨Nat.le_refl _,rfl⟩ ?_ ?_
 ·conv=>whnf
  (refine wkx ?_;refine ⟨?_,?_,?_⟩<;>(conv=>whnf)<;>repeat' first | exact wkc | (with_reducible refine And.intro ?_ ?_)<;>first | exact wks | refine wko ?_ | refine wki ?_ | refine wkb ?_ | (refine zan ?_;conv=>whnf) | (refine zah ?_;conv=>whnf) | (refine zag ?_;conv=>whnf) | conv=>whnf)
  rw [zq9 hb hs];omega
 rintro f ⟨hf,hd⟩
 generalize hn:a.base+(f:Int) - 1=n
 conv=>whnf
 (refine tSp (fun h=>?_) (fun h=>?_)<;>conv=>whnf)
 case refine_2 =>
  refine zab rfl ?_
  rw [← hd]
  cases f with
  | zero=>rfl
  | succ k=>rw [down,if_neg (by omega)]
 have h1:=h
 (refine tSp (fun h=>?_) (fun h=>?_)<;>conv=>whnf)
 case refine_2 =>
  refine zab rfl ?_
  rw [← hd]
  cases f with
  | zero=>rfl
  | succ k=>omega
 obtain ⟨k,rfl⟩:∃ k,f=k+1:=⟨f - 1,by omega⟩
 have hnk:n=a.base+k:=by omega
 refine zbv mixed (by kernel_rfl) (fun k:Nat=>k≤7) (fun k=>[(39,iv k),(12,iv (haveB m n k))]) [] (fun k=>7 - k) 0 (by decide) ?_ ?_
 ·conv=>whnf
  exact wkD
 ·intro k hk
  rcases (by omega:k=0∨k=1∨k=2∨k=3∨k=4∨k=5∨k=6∨k=7) with rfl | rfl | rfl | rfl | rfl | rfl | rfl | rfl
  ·conv=>whnf
   refine ⟨⟨by decide,by decide⟩,?_⟩
   conv=>whnf
   (refine tSp (fun h=>?_) (fun h=>?_)<;>conv=>whnf)
   ·((with_reducible refine And.intro (And.intro (by first | decide | omega) (by first | decide | omega)) ?_);conv=>whnf)
    refine ⟨1,⟨by omega,by omega⟩,?_⟩
    conv=>whnf
    have e:haveB m n 1=bor (haveB m n 0) (shl 1 0):=if_pos h
    (refine wkx ?_;refine ⟨?_,?_,?_⟩<;>(conv=>whnf)<;>repeat' first | exact wkc | (with_reducible refine And.intro ?_ ?_)<;>first | exact wks | refine wko ?_ | refine wki ?_ | refine wkb ?_ | (refine zan ?_;conv=>whnf) | (refine zah ?_;conv=>whnf) | (refine zag ?_;conv=>whnf) | conv=>whnf)
    all_goals first | exact e.symm | rfl
   ·refine ⟨1,⟨by omega,by omega⟩,?_⟩
    conv=>whnf
    have e:haveB m n 1=haveB m n 0:=if_neg h
    (refine wkx ?_;refine ⟨?_,?_,?_⟩<;>(conv=>whnf)<;>repeat' first | exact wkc | (with_reducible refine And.intro ?_ ?_)<;>first | exact wks | refine wko ?_ | refine wki ?_ | refine wkb ?_ | (refine zan ?_;conv=>whnf) | (refine zah ?_;conv=>whnf) | (refine zag ?_;conv=>whnf) | conv=>whnf)
    all_goals first | exact e.symm | rfl
  ·conv=>whnf
   refine ⟨⟨by decide,by decide⟩,?_⟩
   conv=>whnf
   (refine tSp (fun h=>?_) (fun h=>?_)<;>conv=>whnf)
   ·((with_reducible refine And.intro (And.intro (by first | decide | omega) (by first | decide | omega)) ?_);conv=>whnf)
    refine ⟨2,⟨by omega,by omega⟩,?_⟩
    conv=>whnf
    have e:haveB m n 2=bor (haveB m n 1) (shl 1 1):=if_pos h
    (refine wkx ?_;refine ⟨?_,?_,?_⟩<;>(conv=>whnf)<;>repeat' first | exact wkc | (with_reducible refine And.intro ?_ ?_)<;>first | exact wks | refine wko ?_ | refine wki ?_ | refine wkb ?_ | (refine zan ?_;conv=>whnf) | (refine zah ?_;conv=>whnf) | (refine zag ?_;conv=>whnf) | conv=>whnf)
    all_goals first | exact e.symm | rfl
   ·refine ⟨2,⟨by omega,by omega⟩,?_⟩
    conv=>whnf
    have e:haveB m n 2=haveB m n 1:=if_neg h
    (refine wkx ?_;refine ⟨?_,?_,?_⟩<;>(conv=>whnf)<;>repeat' first | exact wkc | (with_reducible refine And.intro ?_ ?_)<;>first | exact wks | refine wko ?_ | refine wki ?_ | refine wkb ?_ | (refine zan ?_;conv=>whnf) | (refine zah ?_;conv=>whnf) | (refine zag ?_;conv=>whnf) | conv=>whnf)
    all_goals first | exact e.symm | rfl
  ·conv=>whnf
   refine ⟨⟨by decide,by decide⟩,?_⟩
   conv=>whnf
   (refine tSp (fun h=>?_) (fun h=>?_)<;>conv=>whnf)
   ·((with_reducible refine And.intro (And.intro (by first | decide | omega) (by first | decide | omega)) ?_);conv=>whnf)
    refine ⟨3,⟨by omega,by omega⟩,?_⟩
    conv=>whnf
    have e:haveB m n 3=bor (haveB m n 2) (shl 1 2):=if_pos h
    (refine wkx ?_;refine ⟨?_,?_,?_⟩<;>(conv=>whnf)<;>repeat' first | exact wkc | (with_reducible refine And.intro ?_ ?_)<;>first | exact wks | refine wko ?_ | refine wki ?_ | refine wkb ?_ | (refine zan ?_;conv=>whnf) | (refine zah ?_;conv=>whnf) | (refine zag ?_;conv=>whnf) | conv=>whnf)
    all_goals first | exact e.symm | rfl
   ·refine ⟨3,⟨by omega,by omega⟩,?_⟩
    conv=>whnf
    have e:haveB m n 3=haveB m n 2:=if_neg h
    (refine wkx ?_;refine ⟨?_,?_,?_⟩<;>(conv=>whnf)<;>repeat' first | exact wkc | (with_reducible refine And.intro ?_ ?_)<;>first | exact wks | refine wko ?_ | refine wki ?_ | refine wkb ?_ | (refine zan ?_;conv=>whnf) | (refine zah ?_;conv=>whnf) | (refine zag ?_;conv=>whnf) | conv=>whnf)
    all_goals first | exact e.symm | rfl
  ·conv=>whnf
   refine ⟨⟨by decide,by decide⟩,?_⟩
   conv=>whnf
   (refine tSp (fun h=>?_) (fun h=>?_)<;>conv=>whnf)
   ·((with_reducible refine And.intro (And.intro (by first | decide | omega) (by first | decide | omega)) ?_);conv=>whnf)
    refine ⟨4,⟨by omega,by omega⟩,?_⟩
    conv=>whnf
    have e:haveB m n 4=bor (haveB m n 3) (shl 1 3):=if_pos h
    (refine wkx ?_;refine ⟨?_,?_,?_⟩<;>(conv=>whnf)<;>repeat' first | exact wkc | (with_reducible refine And.intro ?_ ?_)<;>first | exact wks | refine wko ?_ | refine wki ?_ | refine wkb ?_ | (refine zan ?_;conv=>whnf) | (refine zah ?_;conv=>whnf) | (refine zag ?_;conv=>whnf) | conv=>whnf)
    all_goals first | exact e.symm | rfl
   ·refine ⟨4,⟨by omega,by omega⟩,?_⟩
    conv=>whnf
    have e:haveB m n 4=haveB m n 3:=if_neg h
    (refine wkx ?_;refine ⟨?_,?_,?_⟩<;>(conv=>whnf)<;>repeat' first | exact wkc | (with_reducible refine And.intro ?_ ?_)<;>first | exact wks | refine wko ?_ | refine wki ?_ | refine wkb ?_ | (refine zan ?_;conv=>whnf) | (refine zah ?_;conv=>whnf) | (refine zag ?_;conv=>whnf) | conv=>whnf)
    all_goals first | exact e.symm | rfl
  ·conv=>whnf
   refine ⟨⟨by decide,by decide⟩,?_⟩
   conv=>whnf
   (refine tSp (fun h=>?_) (fun h=>?_)<;>conv=>whnf)
   ·((with_reducible refine And.intro (And.intro (by first | decide | omega) (by first | decide | omega)) ?_);conv=>whnf)
    refine ⟨5,⟨by omega,by omega⟩,?_⟩
    conv=>whnf
    have e:haveB m n 5=bor (haveB m n 4) (shl 1 4):=if_pos h
    (refine wkx ?_;refine ⟨?_,?_,?_⟩<;>(conv=>whnf)<;>repeat' first | exact wkc | (with_reducible refine And.intro ?_ ?_)<;>first | exact wks | refine wko ?_ | refine wki ?_ | refine wkb ?_ | (refine zan ?_;conv=>whnf) | (refine zah ?_;conv=>whnf) | (refine zag ?_;conv=>whnf) | conv=>whnf)
    all_goals first | exact e.symm | rfl
   ·refine ⟨5,⟨by omega,by omega⟩,?_⟩
    conv=>whnf
    have e:haveB m n 5=haveB m n 4:=if_neg h
    (refine wkx ?_;refine ⟨?_,?_,?_⟩<;>(conv=>whnf)<;>repeat' first | exact wkc | (with_reducible refine And.intro ?_ ?_)<;>first | exact wks | refine wko ?_ | refine wki ?_ | refine wkb ?_ | (refine zan ?_;conv=>whnf) | (refine zah ?_;conv=>whnf) | (refine zag ?_;conv=>whnf) | conv=>whnf)
    all_goals first | exact e.symm | rfl
  ·conv=>whnf
   refine ⟨⟨by decide,by decide⟩,?_⟩
   conv=>whnf
   (refine tSp (fun h=>?_) (fun h=>?_)<;>conv=>whnf)
   ·((with_reducible refine And.intro (And.intro (by first | decide | omega) (by first | decide | omega)) ?_);conv=>whnf)
    refine ⟨6,⟨by omega,by omega⟩,?_⟩
    conv=>whnf
    have e:haveB m n 6=bor (haveB m n 5) (shl 1 5):=if_pos h
    (refine wkx ?_;refine ⟨?_,?_,?_⟩<;>(conv=>whnf)<;>repeat' first | exact wkc | (with_reducible refine And.intro ?_ ?_)<;>first | exact wks | refine wko ?_ | refine wki ?_ | refine wkb ?_ | (refine zan ?_;conv=>whnf) | (refine zah ?_;conv=>whnf) | (refine zag ?_;conv=>whnf) | conv=>whnf)
    all_goals first | exact e.symm | rfl
   ·refine ⟨6,⟨by omega,by omega⟩,?_⟩
    conv=>whnf
    have e:haveB m n 6=haveB m n 5:=if_neg h
    (refine wkx ?_;refine ⟨?_,?_,?_⟩<;>(conv=>whnf)<;>repeat' first | exact wkc | (with_reducible refine And.intro ?_ ?_)<;>first | exact wks | refine wko ?_ | refine wki ?_ | refine wkb ?_ | (refine zan ?_;conv=>whnf) | (refine zah ?_;conv=>whnf) | (refine zag ?_;conv=>whnf) | conv=>whnf)
    all_goals first | exact e.symm | rfl
  ·conv=>whnf
   refine ⟨⟨by decide,by decide⟩,?_⟩
   conv=>whnf
   (refine tSp (fun h=>?_) (fun h=>?_)<;>conv=>whnf)
   ·((with_reducible refine And.intro (And.intro (by first | decide | omega) (by first | decide | omega)) ?_);conv=>whnf)
    refine ⟨7,⟨by omega,by omega⟩,?_⟩
    conv=>whnf
    have e:haveB m n 7=bor (haveB m n 6) (shl 1 6):=if_pos h
    (refine wkx ?_;refine ⟨?_,?_,?_⟩<;>(conv=>whnf)<;>repeat' first | exact wkc | (with_reducible refine And.intro ?_ ?_)<;>first | exact wks | refine wko ?_ | refine wki ?_ | refine wkb ?_ | (refine zan ?_;conv=>whnf) | (refine zah ?_;conv=>whnf) | (refine zag ?_;conv=>whnf) | conv=>whnf)
    all_goals first | exact e.symm | rfl
   ·refine ⟨7,⟨by omega,by omega⟩,?_⟩
    conv=>whnf
    have e:haveB m n 7=haveB m n 6:=if_neg h
    (refine wkx ?_;refine ⟨?_,?_,?_⟩<;>(conv=>whnf)<;>repeat' first | exact wkc | (with_reducible refine And.intro ?_ ?_)<;>first | exact wks | refine wko ?_ | refine wki ?_ | refine wkb ?_ | (refine zan ?_;conv=>whnf) | (refine zah ?_;conv=>whnf) | (refine zag ?_;conv=>whnf) | conv=>whnf)
    all_goals first | exact e.symm | rfl
  ·conv=>whnf
   have hnI:isI n:=by unfold isI;omega
   ((try (refine Exists.intro none ?_;conv=>whnf));(with_reducible refine zaa (zwx a hm hbI n hnI _) ?_);conv=>whnf)
   (refine tSp (fun h=>?_) (fun h=>?_)<;>conv=>whnf)
   ·have h2:=h
    ((try (refine Exists.intro none ?_;conv=>whnf));(with_reducible refine zaa (zlt (force a (lastI a)).1 _) ?_);conv=>whnf)
    (refine tSp (fun h=>?_) (fun h=>?_)<;>conv=>whnf)
    ·refine zab rfl ?_
     rw [← hd,down,if_pos (by omega),if_pos (by rw [← hnk];simp [hit,h2,h]),hnk]
    ·refine ⟨k,⟨⟨by omega,?_⟩,by omega⟩,?_⟩
     ·rw [← hd,down,if_pos (by omega),if_neg (by rw [← hnk];simp [hit,h2,h])]
     ·conv=>whnf
      (refine wkx ?_;refine ⟨?_,?_,?_⟩<;>(conv=>whnf)<;>repeat' first | exact wkc | (with_reducible refine And.intro ?_ ?_)<;>first | exact wks | refine wko ?_ | refine wki ?_ | refine wkb ?_ | (refine zan ?_;conv=>whnf) | (refine zah ?_;conv=>whnf) | (refine zag ?_;conv=>whnf) | conv=>whnf)
      rw [zal (by omega) (by omega)];omega
   ·refine ⟨k,⟨⟨by omega,?_⟩,by omega⟩,?_⟩
    ·rw [← hd,down,if_pos (by omega),if_neg (by rw [← hnk];simp [hit,h])]
    ·conv=>whnf
     (refine wkx ?_;refine ⟨?_,?_,?_⟩<;>(conv=>whnf)<;>repeat' first | exact wkc | (with_reducible refine And.intro ?_ ?_)<;>first | exact wks | refine wko ?_ | refine wki ?_ | refine wkb ?_ | (refine zan ?_;conv=>whnf) | (refine zah ?_;conv=>whnf) | (refine zag ?_;conv=>whnf) | conv=>whnf)
     rw [zal (by omega) (by omega)];omega
theorem zqa (c:Conf):Ctr Tryz.prog 31 [.ag c.enc] (.ag [iv 0,iv (-1),iv 0,iv 0,iv c.full,iv c.wit,iv c.learn,iv c.lwit,.nl,.nl]) []:=by
 refine sBody Tryz.func31 ?_;conv=>whnf
 exact zab rfl rfl
abbrev et (t:Int):Ent:=⟨t,0,kz,cz⟩
theorem zl6 {p:Int→Bool}{base commit:Int}:∀ f,commit≤down p base commit f
 | 0=>Int.le_refl _
 | f+1=>by
  unfold down
  split
  ·split
   ·omega
   ·exact zl6 f
  ·exact Int.le_refl _
theorem znb {p:Int→Bool}{base commit:Int}:∀ f,down p base commit f=commit∨(commit < down p base commit f∧base≤down p base commit f∧down p base commit f < base+f∧p (down p base commit f)=true)
 | 0=>.inl rfl
 | f+1=>by
  unfold down
  split
  ·split
   ·rename_i h1 h2
    exact .inr ⟨h1,by omega,by omega,h2⟩
   ·rcases znb (p:=p) (base:=base) (commit:=commit) f with h | ⟨h1,h2,h3,h4⟩
    ·exact .inl h
    ·exact .inr ⟨h1,h2,by omega,h4⟩
  ·exact .inl rfl
end Go.Proofs
