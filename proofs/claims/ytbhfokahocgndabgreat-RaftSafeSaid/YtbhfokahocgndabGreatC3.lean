import Derived.Test.YtbhfokahocgndabGreatPvQ3
import Derived.Test.YtbhfokahocgndabGreatC1
/- Contracts of functions: steps of configurations (the program's). -/
set_option linter.unusedSimpArgs false
set_option linter.unusedVariables false
set_option maxHeartbeats 2000000
namespace Go.Proofs
open Go.Pv
set_option maxRecDepth 100000
theorem c_node (i:Int):Ctr Tryz.prog 180 [iv i] (bv (zav i 0 6)) []:=by
 refine sBody Tryz.func180 ?_;conv=>whnf
 repeat' (first | (refine tS ?_ ?_<;>intro h) | fail)
 all_goals (refine zaa rfl (congrArg (fun b:Bool=>bv b) ?_);simp only [zav])
 ·rw [decide_eq_true h,Bool.true_and];exact decide_eq_decide.2 (by omega)
 ·rw [decide_eq_false (by omega)];rfl
noncomputable def zeh (c:Conf) (i:Int):Int:=if confB c then (if zav i 0 6 then 0 else 1) else 14
theorem zr6 (c:Conf) (i:Int):Ctr Tryz.prog 195 [.ag c.enc,iv i] (iv (zeh c i)) []:=by
 refine sBody Tryz.func195 ?_;conv=>whnf
 refine tC (zhl c) ?_
 cases hc:confB c
 ·simp only [Bool.false_eq_true,if_false]
  conv=>whnf
  exact zaa rfl (by simp [zeh,hc])
 ·simp only [if_true]
  refine tC (c_node _) ?_
  refine tS ?_ ?_<;>intro h
  ·exact zaa rfl (by simp [zeh,hc,h])
  ·exact zaa rfl (by simp [zeh,hc,h])
abbrev cz:Conf:=⟨0,0,0,0⟩
noncomputable def zcx (c:Conf):Conf×Int:=if confB c then (c,0) else (cz,14)
abbrev cev (x:Conf×Int):PV:=.tu [.ag x.1.enc,iv x.2]
theorem zgn (c:Conf):Ctr Tryz.prog 196 [.ag c.enc] (cev (zcx c)) []:=by
 refine sBody Tryz.func196 ?_;conv=>whnf
 refine tC (zhl c) ?_
 cases hc:confB c
 ·simp only [Bool.false_eq_true,if_false]
  conv=>whnf
  exact zaa rfl (by simp [zcx,hc])
 ·simp only [if_true]
  conv=>whnf
  exact zaa rfl (by simp [zcx,hc])
noncomputable def allB (c:Conf):Int:=bor (bor (bor c.full c.wit) c.learn) c.lwit
noncomputable def ze8 (c:Conf) (i:Int) (wit:Bool):Conf×Int :=
 if zeh c i=0 then
  if band (allB c) (shl 1 i)=0 then (if wit then zcx ⟨c.full,c.wit,c.learn,bor c.lwit (shl 1 i)⟩ else zcx ⟨c.full,c.wit,bor c.learn (shl 1 i),c.lwit⟩) else (cz,14)
 else (cz,zeh c i)
theorem zk0 {c:Conf}{i:Int} (h:zeh c i=0):confB c=true∧0≤i∧i < 7:=by
 unfold zeh at h
 cases hc:confB c<;>simp [hc] at h
 simp [zav] at h;exact ⟨rfl,by omega⟩
theorem z1o (c:Conf) (i:Int) (wit:Bool):Ctr Tryz.prog 143 [.ag c.enc,iv i,bv wit] (cev (ze8 c i wit)) []:=by
 refine sBody Tryz.func143 ?_;conv=>whnf
 refine tC (zr6 c _) ?_
 refine tS ?_ ?_<;>intro h
 ·exact zaa rfl (by simp [ze8,allB,band,bor,bandn,shl, *])
 ·have hw:=zk0 h
  refine tK2 ?_
  refine tC (c_All c) ?_
  refine tS ?_ ?_<;>intro h
  ·exact zaa rfl (by simp [ze8,allB,band,bor,bandn,shl, *])
  ·refine tS ?_ ?_<;>intro h
   ·refine tC (zgn ⟨c.full,c.wit,c.learn,bor c.lwit (shl 1 i)⟩) ?_
    exact zaa rfl (by simp [ze8,allB,band,bor,bandn,shl, *])
   ·refine tC (zgn ⟨c.full,c.wit,bor c.learn (shl 1 i),c.lwit⟩) ?_
    exact zaa rfl (by simp [ze8,allB,band,bor,bandn,shl, *])
noncomputable def zd4 (c:Conf) (i:Int):Conf×Int :=
 if zeh c i=0 then
  if band c.learn (shl 1 i)=0 then (if band c.lwit (shl 1 i)=0 then (cz,14) else zcx ⟨c.full,bor c.wit (shl 1 i),c.learn,bandn c.lwit (shl 1 i)⟩)
  else zcx ⟨bor c.full (shl 1 i),c.wit,bandn c.learn (shl 1 i),c.lwit⟩
 else (cz,zeh c i)
theorem z0w (c:Conf) (i:Int):Ctr Tryz.prog 146 [.ag c.enc,iv i] (cev (zd4 c i)) []:=by
 refine sBody Tryz.func146 ?_;conv=>whnf
 refine tC (zr6 c _) ?_
 refine tS ?_ ?_<;>intro h
 ·exact zaa rfl (by simp [zd4,allB,band,bor,bandn,shl, *])
 ·have hw:=zk0 h
  refine tK2 ?_
  refine tS ?_ ?_<;>intro h
  ·refine tC (zgn ⟨bor c.full (shl 1 i),c.wit,bandn c.learn (shl 1 i),c.lwit⟩) ?_
   exact zaa rfl (by simp [zd4,allB,band,bor,bandn,shl, *])
  ·refine tS ?_ ?_<;>intro h
   ·refine tC (zgn ⟨c.full,bor c.wit (shl 1 i),c.learn,bandn c.lwit (shl 1 i)⟩) ?_
    exact zaa rfl (by simp [zd4,allB,band,bor,bandn,shl, *])
   ·exact zaa rfl (by simp [zd4,allB,band,bor,bandn,shl, *])
noncomputable def zfq (c:Conf) (i:Int):Conf×Int :=
 if zeh c i=0 then
  if band (allB c) (shl 1 i)=0 then (cz,14) else zcx ⟨bandn c.full (shl 1 i),bandn c.wit (shl 1 i),bandn c.learn (shl 1 i),bandn c.lwit (shl 1 i)⟩
 else (cz,zeh c i)
theorem z33 (c:Conf) (i:Int):Ctr Tryz.prog 148 [.ag c.enc,iv i] (cev (zfq c i)) []:=by
 refine sBody Tryz.func148 ?_;conv=>whnf
 refine tC (zr6 c _) ?_
 refine tS ?_ ?_<;>intro h
 ·exact zaa rfl (by simp [zfq,allB,band,bor,bandn,shl, *])
 ·have hw:=zk0 h
  refine tK2 ?_
  refine tC (c_All c) ?_
  refine tS ?_ ?_<;>intro h
  ·exact zaa rfl (by simp [zfq,allB,band,bor,bandn,shl, *])
  ·refine tC (zgn ⟨bandn c.full (shl 1 i),bandn c.wit (shl 1 i),bandn c.learn (shl 1 i),bandn c.lwit (shl 1 i)⟩) ?_
   exact zaa rfl (by simp [zfq,allB,band,bor,bandn,shl, *])
noncomputable def kindR (c:Conf) (i:Int):ByteArray :=
 if zav i 0 6 then (if band c.full (shl 1 i) ≠ 0 then sFull else if band c.wit (shl 1 i) ≠ 0 then sWit else if band c.learn (shl 1 i) ≠ 0 then zko else if band c.lwit (shl 1 i) ≠ 0 then sLwit else sE) else sE
theorem z0f (c:Conf) (i:Int):Ctr Tryz.prog 120 [.ag c.enc,iv i] (sv (kindR c i)) []:=by
 refine sBody Tryz.func120 ?_;conv=>whnf
 refine tC (c_node _) ?_
 refine tS ?_ ?_<;>intro h
 ·exact zaa rfl (by simp [kindR,h,sE])
 ·have hn:=h
  simp [zav] at hn
  refine tK2 ?_
  repeat' (first | (refine tS ?_ ?_<;>intro h) | fail)
  all_goals exact zaa rfl (by simp [kindR,band,shl,sFull,sWit,zko,sLwit,sE, *])
theorem zj7 {x:Int}{n:Nat} (hn:n < 7):band x (shl 1 n)=0 ↔ tb x n=false:=by
 rw [and0]
 constructor
 ·intro h;have:=h n;rw [ze1 n n (by omega)] at this;simpa using this
 ·intro h j
  rw [ze1 n j (by omega)]
  by_cases e:n=j
  ·subst e;rw [h];rfl
  ·simp [e]
theorem zzz {x y:Int} (h:∀ i,i < 7→tb x i=tb y i):count x=count y:=by
 simp only [count,cnt,h 0 (by decide),h 1 (by decide),h 2 (by decide),h 3 (by decide),h 4 (by decide),h 5 (by decide),h 6 (by decide)]
theorem zlt {x y z:Int}:∀ n,(∀ i,i < n→nb (tb x i)+nb (tb y i)≤nb (tb z i))→cnt x n+cnt y n≤cnt z n
 | 0,_=>by simp [cnt]
 | n+1,h=>by
  have:=zlt (x:=x) (y:=y) (z:=z) n fun i hi=>h i (by omega)
  have:=h n (by omega)
  simp only [cnt];omega
theorem zzi {x:Int}:∀ n i,i < n→tb x i=true→0 < cnt x n
 | 0,i,h,_=>by omega
 | n+1,i,h,hb=>by
  simp only [cnt]
  by_cases e:i=n
  ·subst e;rw [hb];have:=zpf x i;simp;omega
  ·have:=zzi n i (by omega) hb
   rcases zg0 (tb x n) with e | e<;>omega
noncomputable abbrev zdm (c:Conf):Int:=bor c.full c.wit
theorem Cok.some {c:Conf} (h:Cok c):∃ i,i < 7∧tb c.full i=true:=by
 apply Classical.byContradiction
 intro hn
 apply h.ne
 refine ext7 h.f (by unfold Bits7;omega) fun i hi=>?_
 rw [ze9]
 cases hb:tb c.full i
 ·rfl
 ·exact absurd ⟨i,hi,hb⟩ hn
theorem Cok.pos {c:Conf} (h:Cok c):0 < count (zdm c):=by
 obtain ⟨i,hi,hb⟩:=h.some
 exact zzi 7 i hi (by rw [tb_or,hb];rfl)
theorem zna {c:Conf}{b:Int}:zak c b=true ↔ count (zdm c) < 2 * count (band (zdm c) b):=by simp [zak]
theorem zsg {c:Conf}{a b:Int} (ha:zak c a=true) (hb:zak c b=true):∃ i,i < 7∧tb (zdm c) i=true∧tb a i=true∧tb b i=true:=by
 apply Classical.byContradiction
 intro hn
 rw [zna] at ha hb
 have:=zlt (x:=band (zdm c) a) (y:=band (zdm c) b) (z:=zdm c) 7 (by
  intro i hi
  rw [zdr,zdr]
  have:¬ (tb (zdm c) i=true∧tb a i=true∧tb b i=true):=fun h=>hn ⟨i,hi,h⟩
  revert this
  cases tb (zdm c) i<;>cases tb a i<;>cases tb b i<;>simp)
 unfold count at *
 omega
def one4 (a b c d:Bool):Bool:=!(a && b) && !(a && c) && !(b && c) && !(a && d) && !(b && d) && !(c && d)
def any4 (a b c d:Bool):Bool:=a || b || c || d
theorem Cok.one {c:Conf} (h:Cok c) (i:Nat):one4 (tb c.full i) (tb c.wit i) (tb c.learn i) (tb c.lwit i)=true:=by
 have h1:=h.fw i;have h2:=h.fl i;have h3:=h.wl i;have h4:=h.fx i;have h5:=h.wx i;have h6:=h.lx i
 simp [one4,h1,h2,h3,h4,h5,h6]
theorem Cok.of {c:Conf} (f:Bits7 c.full) (w:Bits7 c.wit) (l:Bits7 c.learn) (x:Bits7 c.lwit) (i0:Nat) (h0:tb c.full i0=true) (h:∀ i,one4 (tb c.full i) (tb c.wit i) (tb c.learn i) (tb c.lwit i)=true):Cok c:=by
 refine ⟨f,w,l,x,?_,?_,?_,?_,?_,?_,?_⟩
 ·intro e;rw [e,ze9] at h0;cases h0
 all_goals (intro i;have:=h i;revert this;unfold one4;cases tb c.full i<;>cases tb c.wit i<;>cases tb c.learn i<;>cases tb c.lwit i<;>simp)
theorem zpo {n:Nat} (h:n < 7):Bits7 (shl 1 n):=zoo (by
 rw [zhp n (by omega)]
 have:(2:Nat) ^ n < 2 ^ 7:=Nat.pow_lt_pow_right (by decide) h
 generalize (2:Nat) ^ n=m at this
 unfold isI;omega) fun i h7 _=>by rw [ze1 n i (by omega)];simp;omega
theorem tb_all (c:Conf) (i:Nat):tb (allB c) i=any4 (tb c.full i) (tb c.wit i) (tb c.learn i) (tb c.lwit i):=by
 unfold allB any4;rw [tb_or,tb_or,tb_or]
theorem z0m {c:Conf} (h:Cok c) {n:Nat} (hn:n < 7):zeh c n=0:=by
 unfold zeh;rw [if_pos ((zci c).2 h),if_pos (by simp [zav];omega)]
def free (c:Conf) (n:Nat):Prop:=tb c.full n=false∧tb c.wit n=false∧tb c.learn n=false∧tb c.lwit n=false
theorem z2y {c:Conf}{n:Nat} (hn:n < 7):band (allB c) (shl 1 n)=0 ↔ free c n:=by
 rw [zj7 hn,tb_all];unfold any4 free
 cases tb c.full n<;>cases tb c.wit n<;>cases tb c.learn n<;>cases tb c.lwit n<;>simp
noncomputable abbrev addL (c:Conf) (n:Nat):Conf:=⟨c.full,c.wit,bor c.learn (shl 1 n),c.lwit⟩
noncomputable abbrev addX (c:Conf) (n:Nat):Conf:=⟨c.full,c.wit,c.learn,bor c.lwit (shl 1 n)⟩
noncomputable abbrev proL (c:Conf) (n:Nat):Conf:=⟨bor c.full (shl 1 n),c.wit,bandn c.learn (shl 1 n),c.lwit⟩
noncomputable abbrev proX (c:Conf) (n:Nat):Conf:=⟨c.full,bor c.wit (shl 1 n),c.learn,bandn c.lwit (shl 1 n)⟩
noncomputable abbrev dele (c:Conf) (n:Nat):Conf:=⟨bandn c.full (shl 1 n),bandn c.wit (shl 1 n),bandn c.learn (shl 1 n),bandn c.lwit (shl 1 n)⟩
theorem zgw (a b:Int) (i:Nat):tb (bandn a b) i=(tb a i && !tb b i):=by
 by_cases h:i < 64
 ·exact zsa a b i h
 ·rw [show tb (bandn a b) i=false from BitVec.getLsbD_of_ge _ _ (by omega),show tb a i=false from BitVec.getLsbD_of_ge _ _ (by omega)];rfl
theorem Conf.ext' {a b:Conf} (h1:a.full=b.full) (h2:a.wit=b.wit) (h3:a.learn=b.learn) (h4:a.lwit=b.lwit):a=b:=by
 cases a;cases b;simp_all
theorem Cok.ext {a b:Conf} (ha:Cok a) (hb:Cok b) (h:∀ i,i < 7→tb a.full i=tb b.full i∧tb a.wit i=tb b.wit i∧tb a.learn i=tb b.learn i∧tb a.lwit i=tb b.lwit i):a=b :=
 Conf.ext' (ext7 ha.f hb.f fun i hi=>(h i hi).1) (ext7 ha.w hb.w fun i hi=>(h i hi).2.1) (ext7 ha.l hb.l fun i hi=>(h i hi).2.2.1) (ext7 ha.x hb.x fun i hi=>(h i hi).2.2.2)
theorem nat_of {i:Int} (h:0≤i∧i < 7):∃ n:Nat,i=n∧n < 7:=⟨i.toNat,by omega,by omega⟩
theorem zuw (c:Conf) {n:Nat} (hn:n < 7):kindR c n=if tb c.full n then sFull else if tb c.wit n then sWit else if tb c.learn n then zko else if tb c.lwit n then sLwit else sE:=by
 unfold kindR
 rw [if_pos (by simp [zav];omega)]
 simp only [ne_eq,zj7 hn,Bool.not_eq_false]
theorem zi4 (a b:Conf):Ctr Tryz.prog 137 [.ag a.enc,.ag b.enc] (bv (decide (a=b))) []:=by
 refine sBody Tryz.func137 ?_;conv=>whnf
 repeat' (first | (refine tS ?_ ?_<;>intro h) | fail)
 all_goals (refine zaa rfl ?_)
 all_goals (refine congrArg (fun b:Bool=>bv b) ?_;symm)
 ·have e:a=b ↔ a.lwit=b.lwit:=⟨fun e=>by rw [e],fun e=>Conf.ext' (by assumption) (by assumption) (by assumption) e⟩
  rw [decide_eq_decide.2 e];rfl
 all_goals (rw [decide_eq_false];intro e;subst e;contradiction)
theorem c_Near1 (a:Conf) (i:Int):Ctr Tryz.prog 142 [.ep a.enc,.ep [iv i]] (cev (ze8 a i false)) []:=by
 refine sBody Tryz.func142 ?_;conv=>whnf
 refine tC (z1o a i false) ?_
 exact zaa rfl rfl
theorem c_Near2 (a:Conf) (i:Int):Ctr Tryz.prog 144 [.ep a.enc,.ep [iv i]] (cev (ze8 a i true)) []:=by
 refine sBody Tryz.func144 ?_;conv=>whnf
 refine tC (z1o a i true) ?_
 exact zaa rfl rfl
theorem c_Near3 (a:Conf) (i:Int):Ctr Tryz.prog 145 [.ep a.enc,.ep [iv i]] (cev (zd4 a i)) []:=by
 refine sBody Tryz.func145 ?_;conv=>whnf
 refine tC (z0w a i) ?_
 exact zaa rfl rfl
theorem c_Near4 (a:Conf) (i:Int):Ctr Tryz.prog 147 [.ep a.enc,.ep [iv i]] (cev (zfq a i)) []:=by
 refine sBody Tryz.func147 ?_;conv=>whnf
 refine tC (z33 a i) ?_
 exact zaa rfl rfl
theorem zig:EqOk Tryz.prog 23:=⟨by kernel_rfl,by kernel_rfl,by kernel_rfl,by kernel_rfl⟩
theorem zh5 (a b:Conf):zhe (Tryz.prog.fieldsOf 23).toList a.enc b.enc=some (decide (a=b)):=by
 have h:zhe (Tryz.prog.fieldsOf 23).toList a.enc b.enc=some (a.full == b.full && (a.wit == b.wit && (a.learn == b.learn && (a.lwit == b.lwit && true)))):=by kernel_rfl
 rw [h]
 congr 1
 rw [Bool.eq_iff_iff]
 simp only [Bool.and_eq_true,beq_iff_eq,decide_eq_true_eq,and_true]
 exact ⟨fun ⟨h1,h2,h3,h4⟩=>Conf.ext' h1 h2 h3 h4,fun e=>by subst e;exact ⟨rfl,rfl,rfl,rfl⟩⟩
def hitS (s:Conf×Int) (b:Conf):Bool:=s.2 == 0 && decide (s.1=b)
noncomputable def stp (a:Conf) (i:Int) (k:Nat):Conf×Int:=match k with
 | 0=>ze8 a i false
 | 1=>ze8 a i true
 | 2=>zd4 a i
 | _=>zfq a i
noncomputable def nearI (a b:Conf) (i:Int):Bool:=hitS (ze8 a i false) b || (hitS (ze8 a i true) b || (hitS (zd4 a i) b || hitS (zfq a i) b))
noncomputable def nearR (a b:Conf):Bool:=confB a && (confB b && (decide (a=b) || (List.range 7).any fun i=>nearI a b i))
theorem c_Near (a b:Conf):Ctr Tryz.prog 72 [.ag a.enc,.ag b.enc] (bv (nearR a b)) []:=by
 refine sBody Tryz.func72 ?_;conv=>whnf
 refine tC (zhl a) ?_
 cases ha:confB a
 ·simp only [Bool.false_eq_true,if_false]
  conv=>whnf
  exact zaa rfl (by simp [nearR,ha])
 simp only [if_true]
 refine tC (zhl b) ?_
 cases hb:confB b
 ·simp only [Bool.false_eq_true,if_false]
  conv=>whnf
  exact zaa rfl (by simp [nearR,hb])
 simp only [if_true]
 conv=>whnf
 refine ⟨zig,_,zh5 a b,?_⟩
 refine tS ?_ ?_<;>intro h
 ·exact zaa rfl (by simp [nearR,ha,hb,h])
 have hne:=h
 have yes:∀ i:Nat,i < 7→nearI a b i=true→nearR a b=true:=by
  intro i hi h
  simp only [nearR,ha,hb,Bool.true_and,Bool.or_eq_true,List.any_eq_true]
  exact .inr ⟨i,List.mem_range.2 hi,h⟩
 refine zh4 mixed (by kernel_rfl) (fun i:Nat=>i≤7∧∀ j:Nat,j < i→nearI a b j=false) (fun i=>[(21,iv i)]) (fun _=>[(2,a.enc),(3,b.enc)]) [] (fun i=>7 - i) 0 ⟨by decide,fun j h=>absurd h (Nat.not_lt_zero _)⟩ ?_ ?_
 ·exact wkE
 rintro i ⟨hi,hp⟩
 refine tS ?_ ?_<;>intro h
 ·refine zh4 mixed (by kernel_rfl) (fun k:Nat=>k≤4∧∀ j:Nat,j < k→hitS (stp a i j) b=false) (fun k=>[(30,iv k)]) (fun _=>[(2,a.enc),(3,b.enc),(5,[iv i])]) [] (fun k=>4 - k) 0 ⟨by decide,fun j h=>absurd h (Nat.not_lt_zero _)⟩ ?_ ?_
  ·exact wkE
  rintro k ⟨hk,hq⟩
  rcases (by omega:k=0∨k=1∨k=2∨k=3∨k=4) with rfl | rfl | rfl | rfl | rfl
  ·conv=>whnf
   refine tR ?_
   refine tC (c_Near1 a i) ?_
   refine tS ?_ ?_<;>intro h
   ·have h1:=h
    refine ⟨zig,_,zh5 _ b,?_⟩
    refine tS ?_ ?_<;>intro h
    ·refine zaa rfl ?_
     rw [yes i (by omega) (by simp [nearI,hitS,h1,h])]
    ·refine ⟨1,⟨⟨by omega,?_⟩,by omega⟩,?_⟩
     ·intro j hj
      by_cases e:j=0
      ·subst e;simp [hitS,stp,h]
      ·exact hq j (by omega)
     ·exact wkE
   ·refine ⟨1,⟨⟨by omega,?_⟩,by omega⟩,?_⟩
    ·intro j hj
     by_cases e:j=0
     ·subst e;simp [hitS,stp,h]
     ·exact hq j (by omega)
    ·exact wkE
  ·conv=>whnf
   refine tR ?_
   refine tC (c_Near2 a i) ?_
   refine tS ?_ ?_<;>intro h
   ·have h1:=h
    refine ⟨zig,_,zh5 _ b,?_⟩
    refine tS ?_ ?_<;>intro h
    ·refine zaa rfl ?_
     rw [yes i (by omega) (by simp [nearI,hitS,h1,h])]
    ·refine ⟨2,⟨⟨by omega,?_⟩,by omega⟩,?_⟩
     ·intro j hj
      by_cases e:j=1
      ·subst e;simp [hitS,stp,h]
      ·exact hq j (by omega)
     ·exact wkE
   ·refine ⟨2,⟨⟨by omega,?_⟩,by omega⟩,?_⟩
    ·intro j hj
     by_cases e:j=1
     ·subst e;simp [hitS,stp,h]
     ·exact hq j (by omega)
    ·exact wkE
  ·conv=>whnf
   refine tR ?_
   refine tC (c_Near3 a i) ?_
   refine tS ?_ ?_<;>intro h
   ·have h1:=h
    refine ⟨zig,_,zh5 _ b,?_⟩
    refine tS ?_ ?_<;>intro h
    ·refine zaa rfl ?_
     rw [yes i (by omega) (by simp [nearI,hitS,h1,h])]
    ·refine ⟨3,⟨⟨by omega,?_⟩,by omega⟩,?_⟩
     ·intro j hj
      by_cases e:j=2
      ·subst e;simp [hitS,stp,h]
      ·exact hq j (by omega)
     ·exact wkE
   ·refine ⟨3,⟨⟨by omega,?_⟩,by omega⟩,?_⟩
    ·intro j hj
     by_cases e:j=2
     ·subst e;simp [hitS,stp,h]
     ·exact hq j (by omega)
    ·exact wkE
  ·conv=>whnf
   refine tR ?_
   refine tC (c_Near4 a i) ?_
   refine tS ?_ ?_<;>intro h
   ·have h1:=h
    refine ⟨zig,_,zh5 _ b,?_⟩
    refine tS ?_ ?_<;>intro h
    ·refine zaa rfl ?_
     rw [yes i (by omega) (by simp [nearI,hitS,h1,h])]
    ·refine ⟨4,⟨⟨by omega,?_⟩,by omega⟩,?_⟩
     ·intro j hj
      by_cases e:j=3
      ·subst e;simp [hitS,stp,h]
      ·exact hq j (by omega)
     ·exact wkE
   ·refine ⟨4,⟨⟨by omega,?_⟩,by omega⟩,?_⟩
    ·intro j hj
     by_cases e:j=3
     ·subst e;simp [hitS,stp,h]
     ·exact hq j (by omega)
    ·exact wkE
  ·conv=>whnf
   refine ⟨i+1,⟨⟨by omega,?_⟩,by omega⟩,?_⟩
   ·intro j hj
    by_cases e:j=i
    ·subst e
     have q0:=hq 0 (by decide)
     have q1:=hq 1 (by decide)
     have q2:=hq 2 (by decide)
     have q3:=hq 3 (by decide)
     simp only [stp] at q0 q1 q2 q3
     simp [nearI,q0,q1,q2,q3]
    ·exact hp j (by omega)
   ·(refine tWK ?_;and_intros<;>try exact ⟨⟩)
    rw [zaf (by omega) (by omega)];rfl
 ·refine zaa rfl ?_
  have:i=7:=by omega
  subst this
  have e:((List.range 7).any fun i=>nearI a b i)=false:=by
   rw [List.any_eq_false]
   intro j hj
   simp [hp j (List.mem_range.1 hj)]
  simp [nearR,hne,e]
def but (a b:Conf) (n:Nat):Prop:=∀ j,j ≠ n→tb b.full j=tb a.full j∧tb b.wit j=tb a.wit j∧tb b.learn j=tb a.learn j∧tb b.lwit j=tb a.lwit j
theorem zru {x c:Conf} (h:hitS (zcx x) c=true):Cok x∧x=c:=by
 unfold hitS zcx at h
 split at h
 ·rename_i hc
  simp at h
  exact ⟨(zci x).1 hc,h⟩
 ·simp at h
theorem tb_sh {n j:Nat} (hn:n < 7) (h:j ≠ n):tb (shl 1 n) j=false:=by
 rw [ze1 n j (by omega)];simp;omega
theorem zjy {a b:Conf}{i:Int}{k:Nat} (h:hitS (stp a i k) b=true):∃ n:Nat,i=n∧n < 7∧Cok a∧Cok b∧but a b n:=by
 have hw:∀ e:Int,e ≠ 0→hitS (cz,e) b=true→False:=by
  intro e he hh;simp [hitS] at hh;exact he hh.1
 have fin:∀ (x:Conf) (n:Nat),n < 7→zeh a n=0→hitS (zcx x) b=true→but a x n→∃ m:Nat,(n:Int)=m∧m < 7∧Cok a∧Cok b∧but a b m:=by
  intro x n hn hw0 hh hb
  obtain ⟨h1,rfl⟩:=zru hh
  exact ⟨n,rfl,hn,(zci a).1 (zk0 hw0).1,h1,hb⟩
 have start:zeh a i=0→∃ n:Nat,i=n∧n < 7:=fun h0=>nat_of (zk0 h0).2
 unfold stp at h
 split at h
 ·unfold ze8 at h
  split at h
  ·rename_i h0
   obtain ⟨n,rfl,hn⟩:=start h0
   split at h
   ·simp only [Bool.false_eq_true,if_false] at h
    exact fin _ n hn h0 h fun j hj=>by simp [tb_or,tb_sh hn hj]
   ·exact (hw 14 (by decide) h).elim
  ·rename_i h0;exact (hw _ h0 h).elim
 ·unfold ze8 at h
  split at h
  ·rename_i h0
   obtain ⟨n,rfl,hn⟩:=start h0
   split at h
   ·simp only [if_true] at h
    exact fin _ n hn h0 h fun j hj=>by simp [tb_or,tb_sh hn hj]
   ·exact (hw 14 (by decide) h).elim
  ·rename_i h0;exact (hw _ h0 h).elim
 ·unfold zd4 at h
  split at h
  ·rename_i h0
   obtain ⟨n,rfl,hn⟩:=start h0
   split at h
   ·split at h
    ·exact (hw 14 (by decide) h).elim
    ·exact fin _ n hn h0 h fun j hj=>by simp [tb_or,zgw,tb_sh hn hj]
   ·exact fin _ n hn h0 h fun j hj=>by simp [tb_or,zgw,tb_sh hn hj]
  ·rename_i h0;exact (hw _ h0 h).elim
 ·unfold zfq at h
  split at h
  ·rename_i h0
   obtain ⟨n,rfl,hn⟩:=start h0
   split at h
   ·exact (hw 14 (by decide) h).elim
   ·exact fin _ n hn h0 h fun j hj=>by simp [zgw,tb_sh hn hj]
  ·rename_i h0;exact (hw _ h0 h).elim
theorem z37 {a b:Conf} (h:nearR a b=true):Cok a∧Cok b∧∃ n:Nat,n < 7∧but a b n:=by
 simp only [nearR,Bool.and_eq_true,Bool.or_eq_true,decide_eq_true_eq,List.any_eq_true] at h
 obtain ⟨ha,hb,h | ⟨i,_,h⟩⟩:=h
 ·subst h
  exact ⟨(zci a).1 ha,(zci a).1 hb,0,by decide,fun j _=>⟨rfl,rfl,rfl,rfl⟩⟩
 ·refine ⟨(zci a).1 ha,(zci b).1 hb,?_⟩
  simp only [nearI,Bool.or_eq_true] at h
  rcases h with h | h | h | h
  ·obtain ⟨n,_,h1,_,_,h2⟩:=zjy (k:=0) h;exact ⟨n,h1,h2⟩
  ·obtain ⟨n,_,h1,_,_,h2⟩:=zjy (k:=1) h;exact ⟨n,h1,h2⟩
  ·obtain ⟨n,_,h1,_,_,h2⟩:=zjy (k:=2) h;exact ⟨n,h1,h2⟩
  ·obtain ⟨n,_,h1,_,_,h2⟩:=zjy (k:=3) h;exact ⟨n,h1,h2⟩
theorem zp7 {u v:Int}{n:Nat} (h:∀ j,j ≠ n→tb u j=tb v j):∀ m,2 * cnt (bor u v) m≤cnt u m+cnt v m+nb (decide (n < m))
 | 0=>by simp [cnt]
 | m+1=>by
  have ih:=zp7 h m
  simp only [cnt]
  rw [tb_or]
  by_cases e:m=n
  ·subst e
   rw [show decide (m < m)=false by simp] at ih
   rw [show decide (m < m+1)=true by simp]
   simp only [nb_false,nb_true] at *
   rcases zg0 (tb u m) with e1 | e1<;>rcases zg0 (tb v m) with e2 | e2<;>cases hu:tb u m<;>cases hv:tb v m<;>simp [hu,hv] at *<;>omega
  ·rw [h m e]
   have:nb (decide (n < m))=nb (decide (n < m+1)):=by
    congr 1;exact decide_eq_decide.2 (by omega)
   rw [← this]
   cases tb v m<;>simp<;>omega
theorem zpv {a b:Conf}{x y:Int} (h:nearR a b=true) (hx:zak a x=true) (hy:zak b y=true):∃ i,i < 7∧tb x i=true∧tb y i=true:=by
 apply Classical.byContradiction
 intro hn
 obtain ⟨_,_,n,hn7,hb⟩:=z37 h
 rw [zna] at hx hy
 have hv:∀ j,j ≠ n→tb (zdm a) j=tb (zdm b) j:=fun j hj=>by
  obtain ⟨h1,h2,_,_⟩:=hb j hj
  rw [tb_or,tb_or,h1,h2]
 have h1:=zlt (x:=band (zdm a) x) (y:=band (zdm b) y) (z:=bor (zdm a) (zdm b)) 7 (by
  intro i hi
  rw [zdr,zdr,tb_or (zdm a) (zdm b)]
  have:¬ (tb x i=true∧tb y i=true):=fun h=>hn ⟨i,hi,h⟩
  revert this
  cases tb (zdm a) i<;>cases tb (zdm b) i<;>cases tb x i<;>cases tb y i<;>simp)
 have h2:=zp7 hv 7
 rcases zg0 (decide (n < 7)) with e | e<;>rw [e] at h2<;>unfold count at *<;>omega
def kind4 (f w l x:Bool):ByteArray:=if f then sFull else if w then sWit else if l then zko else if x then sLwit else sE
theorem zvz:∀ x:Fin 128,∀ n:Fin 7,x.val.testBit n.val=false→x.val ||| 2 ^ n.val=x.val+2 ^ n.val:=by decide +kernel
theorem zk7 {x:Int}{n:Nat} (hx:Bits7 x) (hn:n < 7) (h:tb x n=false):x+shl 1 n=bor x (shl 1 n):=by
 obtain ⟨m,rfl⟩:=Int.eq_ofNat_of_zero_le hx.1
 have hm:m < 128:=by have:=hx.2;omega
 rw [zjl _ _ (by omega)] at h
 have e:=zvz ⟨m,hm⟩ ⟨n,hn⟩ h
 simp only at e
 have h2:(2:Nat) ^ n < 2 ^ 7:=Nat.pow_lt_pow_right (by decide) hn
 have hs:=zhp n (by omega)
 have hb:Bits7 (bor (m:Int) (shl 1 n)):=zow hx (zpo hn)
 rw [hs] at *
 have hlt:m ||| 2 ^ n < 128:=Nat.or_lt_two_pow (n:=7) hm h2
 have e2:((m:Int)+((2 ^ n:Nat):Int))=((m ||| 2 ^ n:Nat):Int):=by rw [e];simp
 rw [e2]
 refine ext7 ⟨by omega,by omega⟩ hb fun i _=>?_
 rw [tb_or,zjl _ _ (by omega),zjl _ _ (by omega),zjl _ _ (by omega),Nat.testBit_or]
theorem zoh {x:Int}{n:Nat} (hx:Bits7 x) (hn:n < 7) (h:tb x n=true):x - shl 1 n=bandn x (shl 1 n):=by
 have hb:Bits7 (bandn x (shl 1 n)):=zmw hx
 have h0:tb (bandn x (shl 1 n)) n=false:=by rw [zgw,ze1 n n (by omega)];simp
 have e:=zk7 hb hn h0
 have e2:bor (bandn x (shl 1 n)) (shl 1 n)=x:=ext7 (zow hb (zpo hn)) hx fun i _=>by
  rw [tb_or,zgw,ze1 n i (by omega)]
  by_cases ei:n=i
  ·subst ei;simp [h]
  ·simp [ei]
 rw [e2] at e
 omega
theorem zyg {b:Int}{n:Nat} (hn:n < 7):hasB b n=tb b n:=zcz b n (by omega)
theorem kind_4 (c:Conf) {n:Nat} (hn:n < 7):kind c n=kind4 (tb c.full n) (tb c.wit n) (tb c.learn n) (tb c.lwit n):=by
 unfold kind kind4
 rw [if_pos (by simp [zav];omega)]
 simp only [zyg hn]
theorem shl_u {n:Nat} (hn:n < 7):shl 1 (IntKind.u64.wrap n)=shl 1 n:=by rw [zbz (by omega) (by omega)]
theorem zyl {n:Nat} (hn:n < 7):0 < shl 1 n∧shl 1 n≤64:=by
 rw [zhp n (by omega)]
 have:(2:Nat) ^ n≤2 ^ 6:=Nat.pow_le_pow_right (by decide) (by omega)
 have h2:0 < (2:Nat) ^ n:=Nat.pow_pos (by decide)
 omega
def cfL (c:Conf):List Ent→Conf
 | []=>c
 | x :: l=>cfL (if x.kind=2 then x.conf else c) l
theorem zht:∀ (c:Conf) (a b:List Ent),cfL c (a++b)=cfL (cfL c a) b
 | _,[],_=>rfl
 | c,x :: a,b=>zht (if x.kind=2 then x.conf else c) a b
theorem ztg:∀ (c:Conf) (l:List Ent),(∀ x ∈ l,¬ x.kind=2)→cfL c l=c
 | _,[],_=>rfl
 | c,x :: l,h=>by
  have:=ztg c l fun y hy=>h y (List.mem_cons_of_mem _ hy)
  unfold cfL
  rw [if_neg (h x (List.mem_cons_self ..))];exact this
theorem za0 {α:Type}{A B:List α}{n:Nat} (h:A.take n=B.take n) {m:Nat} (hm:m≤n):A.take m=B.take m:=by
 have:=congrArg (List.take m) h
 rwa [List.take_take,List.take_take,Nat.min_eq_left hm] at this
theorem zcf {α:Type}{A B:List α}{n:Nat} (h:A.take n=B.take n) {i:Nat} (hi:i < n):A[i]?=B[i]?:=by
 have:(A.take n)[i]?=(B.take n)[i]?:=congrArg (fun l=>l[i]?) h
 rwa [List.getElem?_take_of_lt hi,List.getElem?_take_of_lt hi] at this
theorem zej {α:Type}{A B:List α}{n:Nat} (h:A.take n=B.take n) (hn:n≤B.length):n≤A.length:=by
 have:=congrArg List.length h
 rw [List.length_take,List.length_take] at this
 omega
theorem zb3 {α:Type}{A:List α}{i:Nat}{x:α} (h:A[i]?=some x):i < A.length:=by
 obtain ⟨h,_⟩:=List.getElem?_eq_some_iff.1 h
 exact h
theorem zeu {α:Type}{A:List α}{i:Nat}{x:α} (h:A[i]?=some x):x ∈ A:=List.mem_of_getElem? h
theorem zdj {α:Type}{A:List α}{i:Nat} (h:i < A.length):∃ x,A[i]?=some x:=⟨_,List.getElem?_eq_getElem h⟩
theorem znp {α:Type}{A:List α}{p:Nat}{x:α} (h:x ∈ A.drop p):∃ i,p≤i∧A[i]?=some x:=by
 obtain ⟨i,hi⟩:=List.mem_iff_getElem?.1 h
 rw [List.getElem?_drop] at hi
 exact ⟨p+i,by omega,hi⟩
theorem mem_mid {α:Type}{A:List α}{p a:Nat}{x:α} (h:x ∈ (A.take a).drop p):∃ i,p≤i∧i < a∧A[i]?=some x:=by
 obtain ⟨i,hp,hi⟩:=znp h
 have:=zb3 hi
 rw [List.length_take] at this
 rw [List.getElem?_take_of_lt (by omega)] at hi
 exact ⟨i,hp,by omega,hi⟩
theorem lcp:∀ (A B:List Ent),∃ p,p≤A.length∧p≤B.length∧A.take p=B.take p∧∀ q,q≤A.length→A.take q=B.take q→q≤p
 | [],B=>⟨0,Nat.le_refl _,Nat.zero_le _,rfl,fun q h _=>h⟩
 | a :: A,[]=>⟨0,Nat.zero_le _,Nat.le_refl _,rfl,fun q h e=>by
  cases q with
  | zero=>exact Nat.le_refl _
  | succ q=>simp at e⟩
 | a :: A,b :: B=>by
  by_cases h:a=b
  ·obtain ⟨p,h1,h2,h3,h4⟩:=lcp A B
   refine ⟨p+1,Nat.succ_le_succ h1,Nat.succ_le_succ h2,by rw [List.take_succ_cons,List.take_succ_cons,h,h3],fun q hq e=>?_⟩
   cases q with
   | zero=>exact Nat.zero_le _
   | succ q =>
    rw [List.take_succ_cons,List.take_succ_cons] at e
    exact Nat.succ_le_succ (h4 q (Nat.le_of_succ_le_succ hq) (List.cons.inj e).2)
  ·refine ⟨0,Nat.zero_le _,Nat.zero_le _,rfl,fun q hq e=>?_⟩
   cases q with
   | zero=>exact Nat.le_refl _
   | succ q =>
    rw [List.take_succ_cons,List.take_succ_cons] at e
    exact absurd (List.cons.inj e).1 h
def OneC (L:List Ent) (p:Nat):Prop:=∀ a b x y,p≤a→a < b→L[a]?=some x→x.kind=2→L[b]?=some y→y.kind=2→False
theorem zzl (c : Conf) (L : List Ent) (p : Nat) (h : OneC L p) :
    cfL c L=cfL c (L.take p)∨∃ a x,p≤a∧L[a]?=some x∧x.kind=2∧cfL c L=x.conf∧cfL c (L.take a)=cfL c (L.take p):=by
 by_cases hx:∃ a x,p≤a∧L[a]?=some x∧x.kind=2
 ·obtain ⟨a,x,hp,ha,hk⟩:=hx
  refine .inr ⟨a,x,hp,ha,hk,?_,?_⟩
  ·have hl:=zb3 ha
   have e:L=L.take a++(x :: L.drop (a+1)):=by
    have e2:L[a]'hl=x:=by rw [List.getElem?_eq_getElem hl] at ha;exact Option.some.inj ha
    rw [← e2,← List.drop_eq_getElem_cons hl,List.take_append_drop]
   have hn:∀ y ∈ L.drop (a+1),¬ y.kind=2:=fun y hy hk2=>by
    obtain ⟨b,hb,hy2⟩:=znp hy
    exact h a b x y hp (by omega) ha hk hy2 hk2
   rw [e,zht]
   show cfL (if x.kind=2 then x.conf else _) _=_
   rw [if_pos hk,ztg _ _ hn]
  ·have e : L.take a = L.take p ++ (L.take a).drop p := by
     have e2:=(List.take_append_drop p (L.take a)).symm
     rwa [List.take_take,Nat.min_eq_left hp] at e2
   rw [e,zht]
   refine ztg _ _ fun y hy hk2=>?_
   obtain ⟨b,hb,hba,hy2⟩:=mem_mid hy
   exact h b a y x hb hba hy2 hk2 ha hk
 ·refine .inl ?_
  have e:L=L.take p++L.drop p:=(List.take_append_drop p L).symm
  have e2:cfL c L=cfL (cfL c (L.take p)) (L.drop p):=by rw [← zht,← e]
  rw [e2]
  refine ztg _ _ fun y hy hk2=>?_
  obtain ⟨b,hb,hy2⟩:=znp hy
  exact hx ⟨b,y,hb,hy2,hk2⟩
structure Hist where
 c0:Conf
 LL:Int→List Ent
 Cm:Int→Nat→Nat→Int→Prop
 VD:Nat→Int→Nat→List Ent→Prop
 AK:Nat→Int→Nat→Prop
def LM (H:Hist) (L:List Ent):Prop:=∀ n x,L[n]?=some x→L.take (n+1)=(H.LL x.term).take (n+1)
def za1 (L:List Ent):Int:=match L.getLast? with
 | some x=>x.term
 | none=>0
theorem zkz {L:List Ent}{x:Ent} (h:L[L.length - 1]?=some x):za1 L=x.term:=by
 unfold za1
 rw [List.getLast?_eq_getElem?,h]
structure Cand (H:Hist) (T:Int) (c:Nat) (D:List Ent) (Q:Int):Prop where
 self:H.VD c T c D
 lm:LM H D
 lt:∀ x ∈ D,x.term < T
 pos:1≤T
 q:zak (cfL H.c0 D) Q=true
 vd:∀ v,v < 7→tb Q v=true→H.VD v T c D
def Cov (_:Hist) (D:List Ent) (t:Int) (n:Nat):Prop:=t < za1 D∨(za1 D=t∧n≤D.length)
def zjf (H:Hist) (T:Int) (D:List Ent) (Q:Int):Prop:=∀ v t n x,v < 7→tb Q v=true→H.AK v t n→t < T→1≤n→(H.LL t)[n - 1]?=some x→x.term=t→Cov H D t n∨∃ T',t < T'∧T' < T∧H.LL T' ≠ []∧¬ (H.LL T').take n=(H.LL t).take n
def StrC (H:Hist) (T:Int) (D:List Ent) (Q:Int):Prop:=∀ v t n k W x,v < 7→tb Q v=true→H.Cm t n k W→H.AK v t n→t < T→1≤n→(H.LL t)[n - 1]?=some x→x.term=t→Cov H D t n∨∃ T',t < T'∧T' < T∧H.LL T' ≠ []∧¬ (H.LL T').take n=(H.LL t).take n
theorem zjf.c {H:Hist}{T:Int}{D:List Ent}{Q:Int} (h:zjf H T D Q):StrC H T D Q:=fun v t n _ _ x h1 h2 _ h3 h4 h5 h6 h7=>h v t n x h1 h2 h3 h4 h5 h6 h7
structure Static (H:Hist):Prop where
 llm:∀ t,LM H (H.LL t)
 lle:∀ t x,x ∈ H.LL t→x.term≤t
 led:∀ t,H.LL t ≠ []→∃ c D Q,Cand H t c D Q∧zjf H t D Q∧(H.LL t).take D.length=D∧∀ n x,D.length≤n→(H.LL t)[n]?=some x→x.term=t
 akl:∀ v t n,H.AK v t n→n≤(H.LL t).length
 vi:∀ v T c D t n x,H.VD v T c D→H.AK v t n→t < T→1≤n→(H.LL t)[n - 1]?=some x→x.term=t→Cov H D t n∨∃ T',t < T'∧T'≤T∧H.LL T' ≠ []∧¬ (H.LL T').take n=(H.LL t).take n
 vu:∀ v T c D c' D',H.VD v T c D→H.VD v T c' D'→c=c'∧D=D'
 cm:∀ t n k W,H.Cm t n k W→1≤n∧n≤k∧k≤(H.LL t).length∧(∃ x,(H.LL t)[n - 1]?=some x∧x.term=t)∧zak (cfL H.c0 ((H.LL t).take k)) W=true∧∀ v,v < 7→tb W v=true→H.AK v t n
 own:∀ T a x,(H.LL T)[a]?=some x→x.kind=2→x.term=T→∃ n k W,H.Cm T n k W∧k≤a
 old:∀ T a x b y,(H.LL T)[a]?=some x→x.kind=2→x.term=T→b < a→(H.LL T)[b]?=some y→y.kind=2→∃ t n k W,H.Cm t n k W∧t≤T∧b+1≤n∧(H.LL t).take (b+1)=(H.LL T).take (b+1)∧(t=T→k≤a)
 nr:∀ T a x,(H.LL T)[a]?=some x→x.kind=2→x.term=T→nearR (cfL H.c0 ((H.LL T).take a)) x.conf=true
theorem LM.get {H:Hist}{L:List Ent} (h:LM H L) {n:Nat}{x:Ent} (hx:L[n]?=some x) {m:Nat} (hm:m≤n):(H.LL x.term)[m]?=L[m]?:=(zcf (h n x hx) (by omega)).symm
theorem LM.led {H:Hist}{L:List Ent} (h:LM H L) {n:Nat}{x:Ent} (hx:L[n]?=some x):H.LL x.term ≠ []:=by
 intro e
 have:=h.get hx (Nat.le_refl n)
 rw [e,hx] at this
 simp at this
theorem LM.mono {H:Hist} (S:Static H) {L:List Ent} (h:LM H L) {n m:Nat}{x y:Ent} (hx:L[n]?=some x) (hy:L[m]?=some y) (hm:m≤n):y.term≤x.term:=by
 have:=h.get hx hm
 rw [hy] at this
 exact S.lle _ _ (zeu this)
theorem Static.pos {H:Hist} (S:Static H) {t:Int} (h:H.LL t ≠ []):1≤t:=by
 obtain ⟨c,D,Q,hc,_⟩:=S.led t h
 exact hc.pos
theorem LM.near {H:Hist} (S:Static H) {L:List Ent} (h:LM H L) {a:Nat}{x:Ent} (hx:L[a]?=some x) (hk:x.kind=2):nearR (cfL H.c0 (L.take a)) x.conf=true:=by
 have e:=h a x hx
 have e2:=h.get hx (Nat.le_refl a)
 have:=S.nr _ a x (e2.trans hx) hk rfl
 rwa [← za0 e (Nat.le_succ a)] at this
theorem LM.last {H:Hist}{L:List Ent} (h:LM H L) (hn:1≤L.length):∃ x,L[L.length - 1]?=some x∧za1 L=x.term∧(H.LL x.term).take L.length=L:=by
 obtain ⟨x,hx⟩:=zdj (A:=L) (i:=L.length - 1) (by omega)
 refine ⟨x,hx,zkz hx,?_⟩
 have:=h _ x hx
 rw [show L.length - 1+1=L.length by omega,List.take_length] at this
 exact this.symm
theorem LM.mem {H:Hist} (S:Static H) {L:List Ent} (h:LM H L) {n:Nat}{x:Ent} (hx:L[n]?=some x):x.term≤za1 L:=by
 have hl:=zb3 hx
 obtain ⟨y,hy,e,_⟩:=h.last (by omega)
 rw [e]
 exact h.mono S hy hx (by omega)
theorem z0a {H : Hist} (S : Static H) {A B : List Ent} {p : Nat} (hA : LM H A) (hB : LM H B) (e : A.take p = B.take p) (oA : OneC A p) (oB : OneC B p)
    (no:∀ a b x y,p≤a→p≤b→A[a]?=some x→x.kind=2→B[b]?=some y→y.kind=2→False) {Q W:Int} (hQ:zak (cfL H.c0 A) Q=true) (hW:zak (cfL H.c0 B) W=true) :
    ∃ i,i < 7∧tb Q i=true∧tb W i=true:=by
 rcases zzl H.c0 A p oA with eA | ⟨a,x,hp,ha,hk,eA,eA2⟩
 ·rcases zzl H.c0 B p oB with eB | ⟨b,y,hp2,hb,hk2,eB,eB2⟩
  ·rw [eA,e] at hQ
   rw [eB] at hW
   obtain ⟨i,hi,h4,h5,h6⟩:=zsg hQ hW
   exact ⟨i,hi,by first | exact h4 | exact h5 | exact h6,by first | exact h5 | exact h6 | exact h4⟩
  ·have hn:=hB.near S hb hk2
   rw [eB2,← e,← eA] at hn
   rw [eB] at hW
   exact zpv hn hQ hW
 ·rcases zzl H.c0 B p oB with eB | ⟨b,y,hp2,hb,hk2,eB,eB2⟩
  ·have hn:=hA.near S ha hk
   rw [eA2,e,← eB] at hn
   rw [eA] at hQ
   obtain ⟨i,hi,h1,h2⟩:=zpv hn hW hQ
   exact ⟨i,hi,h2,h1⟩
  ·exact (no a b x y hp hp2 ha hk hb hk2).elim
def Keeps (H:Hist) (T:Int) (D:List Ent):Prop:=∀ t n k W,H.Cm t n k W→t < T→D.take n=(H.LL t).take n
theorem zqj {H:Hist} (S:Static H) {T:Int} (h:H.LL T ≠ []) (ih:∀ c D Q,Cand H T c D Q→StrC H T D Q→Keeps H T D):Keeps H T (H.LL T):=by
 obtain ⟨c,D,Q,hc,hst,hD,_⟩:=S.led T h
 intro t n k W hcm ht
 have hk:=ih c D Q hc hst.c t n k W hcm ht
 have hn:=(S.cm t n k W hcm)
 have:n≤D.length:=zej hk (by omega)
 rw [← hk,← hD,List.take_take,Nat.min_eq_left this]
theorem zml {H : Hist} (S : Static H) {T : Int} {c : Nat} {D : List Ent} {Q : Int} (hc : Cand H T c D Q) (hst : StrC H T D Q) (ih : ∀ T', T' < T → H.LL T' ≠ [] → Keeps H T' (H.LL T'))
    {t:Int}{n k:Nat}{W:Int} (hcm:H.Cm t n k W) (ht:t < T) (in1:∀ t' n' k' W',H.Cm t' n' k' W'→t' < t∨(t'=t∧k' < k)→D.take n'=(H.LL t').take n'):D.take n=(H.LL t).take n:=by
 apply Classical.byContradiction
 intro hbad
 obtain ⟨hn1,hnk,hkl,⟨xn,hxn,hxt⟩,hq,hak⟩:=S.cm t n k W hcm
 have hledt:H.LL t ≠ []:=by intro e;rw [e] at hkl;simp at hkl;omega
 have hDm:=hc.lm
 -- the last term of D is at most t
 have hs:∀ (i:Nat) (x:Ent),D[i]?=some x→x.term≤t:=by
  intro i x hx
  have hl:=zb3 hx
  obtain ⟨y,hy,e,hy2⟩:=hDm.last (by omega)
  have hxy:=hDm.mono S hy hx (by omega)
  apply Classical.byContradiction
  intro hgt
  have hyt:t < y.term:=by omega
  have hyT:=hc.lt y (zeu hy)
  have hk:=ih y.term hyT (hDm.led hy) t n k W hcm hyt
  by_cases hnD:n≤D.length
  ·apply hbad
   rw [← hk,← hy2,List.take_take,Nat.min_eq_left hnD]
  ·have h1:=zcf hk (i:=D.length - 1) (by omega)
   rw [hDm.get hy (Nat.le_refl _),hy] at h1
   have:=S.lle t y (zeu h1.symm)
   omega
 obtain ⟨p,hpD,hpL,hpe,hpm⟩:=lcp D (H.LL t)
 have hpn:p < n:=by
  apply Classical.byContradiction
  intro h
  exact hbad (za0 hpe (by omega))
 have hmax:∀ q,p < q→q≤(H.LL t).length→¬ D.take q=(H.LL t).take q:=fun q hq hql e=>by
  have:=hpm q (zej e hql) e
  omega
 have hdiff:∀ q,p < q→q≤D.length→¬ D.take q=(H.LL t).take q:=fun q hq hql e=>by
  have:=hpm q hql e
  omega
 -- one configuration at most on D's side
 have o1:OneC D p:=by
  intro a b x y hpa hab ha hka hb hkb
  have ey:=hDm b y hb
  have hby:=hDm.get hb (Nat.le_refl b)
  have hax:=hDm.get hb (Nat.le_of_lt hab)
  obtain ⟨t2,n2,k2,W2,hc2,ht2,hb2,e2,_⟩:=S.old y.term b y a x (hby.trans hb) hkb rfl hab (hax.trans ha) hka
  have hyt:=hs b y hb
  have h2:=S.cm t2 n2 k2 W2 hc2
  have hkey:D.take (a+1)=(H.LL t2).take (a+1):=(za0 ey (by omega)).trans e2.symm
  rcases (by omega:t2 < t∨t2=t) with h | h
  ·have h3:=ih t ht hledt t2 n2 k2 W2 hc2 h
   exact hdiff (a+1) (by omega) (by have:=zb3 ha;omega) (hkey.trans (za0 h3 hb2).symm)
  ·rw [h] at hkey
   exact hdiff (a+1) (by omega) (by have:=zb3 ha;omega) hkey
 have hLm:=S.llm t
 -- one at most on the leader's side,up to k
 have get_k:∀ {i:Nat}{x:Ent},((H.LL t).take k)[i]?=some x→i < k∧(H.LL t)[i]?=some x:=fun {i x} h=>by
  have hl:=zb3 h
  rw [List.length_take] at hl
  rw [List.getElem?_take_of_lt (by omega)] at h
  exact ⟨by omega,h⟩
 have o2:OneC ((H.LL t).take k) p:=by
  intro a b x y hpa hab ha hka hb hkb
  obtain ⟨_,ha⟩:=get_k ha
  obtain ⟨hbk,hb⟩:=get_k hb
  have ey:=hLm b y hb
  have hby:=hLm.get hb (Nat.le_refl b)
  have hax:=hLm.get hb (Nat.le_of_lt hab)
  have hyt:y.term≤t:=S.lle t y (zeu hb)
  obtain ⟨t2,n2,k2,W2,hc2,ht2,hb2,e2,hk2⟩:=S.old y.term b y a x (hby.trans hb) hkb rfl hab (hax.trans ha) hka
  have hkey:(H.LL t).take (a+1)=(H.LL t2).take (a+1):=(za0 ey (by omega)).trans e2.symm
  have h3:=in1 t2 n2 k2 W2 hc2 (by
   rcases (by omega:t2 < t∨t2=t) with h | h
   ·exact .inl h
   ·refine .inr ⟨h,?_⟩
    have:=hk2 (by omega)
    omega)
  exact hmax (a+1) (by omega) (by have:=zb3 ha;omega) ((za0 h3 hb2).trans hkey.symm)
 -- not on both
 have o3:∀ a b x y,p≤a→p≤b→D[a]?=some x→x.kind=2→((H.LL t).take k)[b]?=some y→y.kind=2→False:=by
  intro a b x y hpa hpb ha hka hb hkb
  obtain ⟨hbk,hb⟩:=get_k hb
  have ex:=hDm a x ha
  have hax:=hDm.get ha (Nat.le_refl a)
  have ey:=hLm b y hb
  have hby:=hLm.get hb (Nat.le_refl b)
  have hxt2:=hs a x ha
  have hyt:y.term≤t:=S.lle t y (zeu hb)
  have hla:=zb3 ha
  have hlb:=zb3 hb
  rcases (by omega:x.term=y.term∨x.term < y.term∨y.term < x.term) with h | h | h
  ·rw [h] at ex
   exact hmax (p+1) (by omega) (by omega) ((za0 ex (by omega)).trans (za0 ey (by omega)).symm)
  ·obtain ⟨n2,k2,W2,hc2,hk2⟩:=S.own y.term b y (hby.trans hb) hkb rfl
   obtain ⟨q1,q2,q3,⟨z,hz,hzt⟩,_⟩:=S.cm _ _ _ _ hc2
   have hz2:(H.LL t)[n2 - 1]?=some z:=by rw [← hz];exact (hLm.get hb (by omega)).symm
   by_cases hnp:n2≤p
   ·have hzD:D[n2 - 1]?=some z:=by rw [← hz2];exact zcf hpe (by omega)
    have:=hDm.mono S ha hzD (by omega)
    omega
   ·have h3 := in1 y.term n2 k2 W2 hc2 (by
      rcases (by omega:y.term < t∨y.term=t) with h | h
      ·exact .inl h
      ·exact .inr ⟨h,by omega⟩)
    exact hmax (p+1) (by omega) (by omega) ((za0 h3 (by omega)).trans (za0 ey (by omega)).symm)
  ·obtain ⟨n2,k2,W2,hc2,hk2⟩:=S.own x.term a x (hax.trans ha) hka rfl
   obtain ⟨q1,q2,q3,⟨z,hz,hzt⟩,_⟩:=S.cm _ _ _ _ hc2
   have hz2:D[n2 - 1]?=some z:=by rw [← hz];exact (hDm.get ha (by omega)).symm
   have hin:(H.LL t).take n2=(H.LL x.term).take n2:=by
    rcases (by omega:x.term < t∨x.term=t) with h | h
    ·exact ih t ht hledt x.term n2 k2 W2 hc2 h
    ·rw [h]
   by_cases hnp:n2≤p
   ·have hzL:(H.LL t)[n2 - 1]?=some z:=by rw [← hz2];exact (zcf hpe (by omega)).symm
    have:=hLm.mono S hb hzL (by omega)
    omega
   ·exact hmax (p+1) (by omega) (by omega) ((za0 ex (by omega)).trans (za0 hin (by omega)).symm)
 have hLk:LM H ((H.LL t).take k):=by
  intro i x hx
  obtain ⟨hik,hx⟩:=get_k hx
  rw [List.take_take,Nat.min_eq_left (by omega)]
  exact hLm i x hx
 obtain ⟨v,hv,hvQ,hvW⟩:=z0a S hDm hLk (by rw [List.take_take,Nat.min_eq_left (by omega)];exact hpe) o1 o2 o3 hc.q hq
 rcases hst v t n k W xn hv hvQ hcm (hak v hv hvW) ht hn1 hxn hxt with (h | h) | ⟨T',h1,h2,h3,h4⟩
 ·have hDl : 1 ≤ D.length := by
    cases hD:D with
    | nil=>rw [hD] at h;have:=S.pos hledt;unfold za1 at h;simp at h;omega
    | cons a l=>simp
  obtain ⟨y,hy,e,_⟩:=hDm.last hDl
  have:=hs _ y hy
  omega
 ·obtain ⟨y,hy,e,hy2⟩:=hDm.last (by omega)
  have e2:y.term=t:=by omega
  rw [e2] at hy2
  apply hbad
  rw [← hy2,List.take_take,Nat.min_eq_left h.2]
 ·exact h4 (ih T' h2 h3 t n k W hcm h1)
theorem zsu {H:Hist} (S:Static H) {T:Int}{c:Nat}{D:List Ent}{Q:Int} (hc:Cand H T c D Q) (hst:StrC H T D Q) (ih:∀ T',T' < T→H.LL T' ≠ []→Keeps H T' (H.LL T')):Keeps H T D:=by
 have key:∀ N K:Nat,∀ t n k W,H.Cm t n k W→t < T→t.toNat < N∨(t.toNat=N∧k < K)→D.take n=(H.LL t).take n:=by
  intro N
  induction N with
  | zero =>
   intro K
   induction K with
   | zero=>intro t n k W _ _ h;omega
   | succ K ihK =>
    intro t n k W hcm ht h
    refine zml S hc hst ih hcm ht fun t' n' k' W' hc' h'=>?_
    have hp:=S.cm _ _ _ _ hcm
    have h1:1≤t:=S.pos (by intro e;rw [e] at hp;simp at hp;try omega)
    omega
  | succ N ihN =>
   intro K
   induction K with
   | zero =>
    intro t n k W hcm ht h
    exact ihN (k+1) t n k W hcm ht (by omega)
   | succ K ihK =>
    intro t n k W hcm ht h
    refine zml S hc hst ih hcm ht fun t' n' k' W' hc' h'=>?_
    have hp:=S.cm _ _ _ _ hcm
    have hp':=S.cm _ _ _ _ hc'
    have h1:1≤t:=S.pos (by intro e;rw [e] at hp;simp at hp;try omega)
    have h1':1≤t':=S.pos (by intro e;rw [e] at hp';simp at hp';try omega)
    rcases h' with h' | ⟨rfl,h'⟩
    ·exact ihN (k'+1) t' n' k' W' hc' (by omega) (by omega)
    ·exact ihK t' n' k' W' hc' (by omega) (by omega)
 intro t n k W hcm ht
 exact key t.toNat (k+1) t n k W hcm ht (.inr ⟨rfl,by omega⟩)
theorem zk9 {H:Hist} (S:Static H):∀ N:Nat,∀ T:Int,T.toNat < N→∀ c D Q,Cand H T c D Q→StrC H T D Q→Keeps H T D
 | 0,_,h=>by omega
 | N+1,T,h=>fun c D Q hc hst=>zsu S hc hst fun T' hT' hl=>zqj S hl (zk9 S N T' (by have:=S.pos hl;have:=hc.pos;omega))
theorem ztp {H:Hist} (S:Static H) {T:Int} (h:H.LL T ≠ []):Keeps H T (H.LL T):=zqj S h (zk9 S (T.toNat+1) T (by omega))
theorem keeps {H:Hist} (S:Static H) {T:Int}{c:Nat}{D:List Ent}{Q:Int} (hc:Cand H T c D Q):Keeps H T D:=by
 refine zk9 S (T.toNat+1) T (by omega) c D Q hc fun v t n k W x hv hQ hcm hak ht hn hx hxt=>?_
 rcases S.vi v T c D t n x (hc.vd v hv hQ) hak ht hn hx hxt with h | ⟨T',h1,h2,h3,h4⟩
 ·exact .inl h
 ·rcases (by omega:T' < T∨T'=T) with h | h
  ·exact .inr ⟨T',h1,h,h3,h4⟩
  ·subst h
   exact absurd (ztp S h3 t n k W hcm ht) h4
theorem zof {H:Hist} (S:Static H) {T:Int}{c c':Nat}{D D':List Ent}{Q Q':Int} (h:Cand H T c D Q) (h':Cand H T c' D' Q'):c=c'∧D=D':=by
 have K:=keeps S h
 have K':=keeps S h'
 obtain ⟨p,hpD,hpL,hpe,hpm⟩:=lcp D D'
 have hno:∀ q,p < q→q≤D.length→¬ D.take q=D'.take q:=fun q hq hql e=>by
  have:=hpm q hql e
  omega
 have o1:OneC D p:=by
  intro a b x y hpa hab ha hka hb hkb
  obtain ⟨t2,n2,k2,W2,hc2,ht2,hb2,e2,_⟩:=S.old y.term b y a x ((h.lm.get hb (Nat.le_refl b)).trans hb) hkb rfl hab ((h.lm.get hb (Nat.le_of_lt hab)).trans ha) hka
  have hyT:=h.lt y (zeu hb)
  have k1:=za0 (K _ _ _ _ hc2 (by omega)) hb2
  have k2:=za0 (K' _ _ _ _ hc2 (by omega)) hb2
  exact hno (a+1) (by omega) (by have:=zb3 ha;omega) (k1.trans k2.symm)
 have o2:OneC D' p:=by
  intro a b x y hpa hab ha hka hb hkb
  obtain ⟨t2,n2,k2,W2,hc2,ht2,hb2,e2,_⟩:=S.old y.term b y a x ((h'.lm.get hb (Nat.le_refl b)).trans hb) hkb rfl hab ((h'.lm.get hb (Nat.le_of_lt hab)).trans ha) hka
  have hyT:=h'.lt y (zeu hb)
  have k1:=za0 (K _ _ _ _ hc2 (by omega)) hb2
  have k2:=za0 (K' _ _ _ _ hc2 (by omega)) hb2
  have hl:=(S.cm _ _ _ _ hc2)
  exact hno (a+1) (by omega) (zej k1 (by omega)) (k1.trans k2.symm)
 have o3:∀ a b x y,p≤a→p≤b→D[a]?=some x→x.kind=2→D'[b]?=some y→y.kind=2→False:=by
  intro a b x y hpa hpb ha hka hb hkb
  have hxT:=h.lt x (zeu ha)
  have hyT:=h'.lt y (zeu hb)
  have ex:=h.lm a x ha
  have ey:=h'.lm b y hb
  have hla:=zb3 ha
  have hlb:=zb3 hb
  rcases (by omega:x.term=y.term∨x.term < y.term∨y.term < x.term) with e | e | e
  ·rw [e] at ex
   exact hno (p+1) (by omega) (by omega) ((za0 ex (by omega)).trans (za0 ey (by omega)).symm)
  ·obtain ⟨n2,k2,W2,hc2,hk2⟩:=S.own y.term b y ((h'.lm.get hb (Nat.le_refl b)).trans hb) hkb rfl
   obtain ⟨q1,q2,q3,⟨z,hz,hzt⟩,_⟩:=S.cm _ _ _ _ hc2
   have k1:=K _ _ _ _ hc2 hyT
   have k2:=K' _ _ _ _ hc2 hyT
   by_cases hnp:n2≤p
   ·have hzD:D[n2 - 1]?=some z:=(zcf k1 (by omega)).trans hz
    have:=h.lm.mono S ha hzD (by omega)
    omega
   ·exact hno (p+1) (by omega) (by omega) (za0 (k1.trans k2.symm) (by omega))
  ·obtain ⟨n2,k2,W2,hc2,hk2⟩:=S.own x.term a x ((h.lm.get ha (Nat.le_refl a)).trans ha) hka rfl
   obtain ⟨q1,q2,q3,⟨z,hz,hzt⟩,_⟩:=S.cm _ _ _ _ hc2
   have k1:=K _ _ _ _ hc2 hxT
   have k2:=K' _ _ _ _ hc2 hxT
   by_cases hnp:n2≤p
   ·have hzD:D'[n2 - 1]?=some z:=(zcf k2 (by omega)).trans hz
    have:=h'.lm.mono S hb hzD (by omega)
    omega
   ·exact hno (p+1) (by omega) (by omega) (za0 (k1.trans k2.symm) (by omega))
 obtain ⟨v,hv,hvQ,hvW⟩:=z0a S h.lm h'.lm hpe o1 o2 o3 h.q h'.q
 exact S.vu v T c D c' D' (h.vd v hv hvQ) (h'.vd v hv hvW)
end Go.Proofs
