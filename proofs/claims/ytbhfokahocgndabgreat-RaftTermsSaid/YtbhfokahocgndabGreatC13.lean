import Derived.Test.YtbhfokahocgndabGreatC1
import Derived.Test.YtbhfokahocgndabGreatC5
/- Contracts of functions: what is compared with itself is the same. -/
set_option linter.unusedSimpArgs false
set_option linter.unusedVariables false
namespace Go.Proofs
open Go.Pv
set_option maxRecDepth 100000
theorem ze2 (x:Nat):Ctr Tryz.prog 214 [.sc (.float .f64 x)] (.sc (.int .u64 x)) []:=by
 refine zk1 (e:=Go.Extern.MathFloatBits.float64bits) Tryz.func214 (by kernel_rfl) (by kernel_rfl) (by kernel_rfl) (by kernel_rfl) ?_
 intro w M vs hv
 simp only [RVL,RV] at hv
 obtain ⟨c,r,rfl,rfl,rfl⟩:=hv
 rfl
theorem s_Float (x:Nat):Ctr Tryz.prog 223 [.sc (.float .f64 x),.sc (.float .f64 x)] (bv true) []:=by
 refine sBody Tryz.func223 ?_;conv=>whnf
 repeat' (first | ((first | refine tYesA ?_ | refine tNoA ?_ | refine tSp (fun h=>?_) (fun h=>?_))<;>conv=>whnf) | ((try (refine Exists.intro none ?_;conv=>whnf));(with_reducible refine zaa (ze2 x) ?_);conv=>whnf))
 all_goals (refine zab rfl ?_)
 all_goals first | rfl | simp_all
theorem zur (x:VVal):Ctr Tryz.prog 213 [.ag x.enc,.ag x.enc] (bv true) []:=by
 refine sBody Tryz.func213 ?_;conv=>whnf
 repeat' (first | ((first | (with_reducible refine zcs rfl ?_) | (with_reducible refine zcq rfl ?_) | (with_reducible refine zcy (beq_self_eq_true _) ?_) | (with_reducible refine zcz (bne_self_eq_false _) ?_));conv=>whnf) | ((try (refine Exists.intro none ?_;conv=>whnf));(with_reducible refine zaa (s_Float x.num) ?_);conv=>whnf))
 exact zab rfl (by simp)
theorem s_Cmd (x:VCmd):Ctr Tryz.prog 193 [.ag x.enc,.ag x.enc] (bv true) []:=by
 refine sBody Tryz.func193 ?_;conv=>whnf
 repeat' (first | ((first | (with_reducible refine zcs rfl ?_) | (with_reducible refine zcq rfl ?_) | (with_reducible refine zcy (beq_self_eq_true _) ?_) | (with_reducible refine zcz (bne_self_eq_false _) ?_));conv=>whnf) | ((try ((refine Exists.intro none ?_);(conv=>whnf)));first | ((with_reducible refine zaa (zur x.old) ?_);conv=>whnf) | ((with_reducible refine zaa (zur x.val) ?_);conv=>whnf)))
 exact zab rfl (by simp)
theorem s_Call (x:VCall):Ctr Tryz.prog 136 [.ag x.enc,.ag x.enc] (bv true) []:=by
 refine sBody Tryz.func136 ?_;conv=>whnf
 repeat' (first | ((first | (with_reducible refine zcs rfl ?_) | (with_reducible refine zcq rfl ?_) | (with_reducible refine zcy (beq_self_eq_true _) ?_) | (with_reducible refine zcz (bne_self_eq_false _) ?_));conv=>whnf) | ((try (refine Exists.intro none ?_;conv=>whnf));(with_reducible refine zaa (s_Cmd x.cmd) ?_);conv=>whnf))
 exact zab rfl (by simp)
theorem s_Conf (a:Conf):Ctr Tryz.prog 137 [.ag a.enc,.ag a.enc] (bv true) []:=by
 refine sBody Tryz.func137 ?_;conv=>whnf
 repeat' ((first | (with_reducible refine zcs rfl ?_) | (with_reducible refine zcq rfl ?_) | (with_reducible refine zcy (beq_self_eq_true _) ?_) | (with_reducible refine zcz (bne_self_eq_false _) ?_));conv=>whnf)
 exact zab rfl (by simp)
theorem s_Entry (x:Ent):Ctr Tryz.prog 55 [.ag x.enc,.ag x.enc] (bv true) []:=by
 refine sBody Tryz.func55 ?_;conv=>whnf
 repeat' (first | ((first | (with_reducible refine zcs rfl ?_) | (with_reducible refine zcq rfl ?_) | (with_reducible refine zcy (beq_self_eq_true _) ?_) | (with_reducible refine zcz (bne_self_eq_false _) ?_));conv=>whnf) | ((try ((refine Exists.intro none ?_);(conv=>whnf)));first | ((with_reducible refine zaa (s_Call x.call) ?_);conv=>whnf) | ((with_reducible refine zaa (s_Conf x.conf) ?_);conv=>whnf)))
 exact zab rfl (by simp)
theorem zpc (x:Arr):Ctr Tryz.prog 83 [.ag x.enc,.ag x.enc] (bv true) []:=by
 refine sBody Tryz.func83 ?_;conv=>whnf
 refine zcd mixed (by kernel_rfl) 8 ?_
 conv=>whnf
 repeat' (first | ((first | (with_reducible refine zcs rfl ?_) | (with_reducible refine zcq rfl ?_) | (with_reducible refine zcy (beq_self_eq_true _) ?_) | (with_reducible refine zcz (bne_self_eq_false _) ?_));conv=>whnf) | ((with_reducible refine And.intro (And.intro (by first | decide | omega) (by first | decide | omega)) ?_);conv=>whnf))
 exact zab rfl rfl
theorem zxd (l:List Ent) (hm:l.length≤maxLen):Ctr Tryz.prog 158 [.sl 16 (l.map Ent.enc),.sl 16 (l.map Ent.enc)] (bv true) []:=by
 have hm':l.length≤9223372036854775807:=Nat.le_trans hm (by decide)
 refine sBody Tryz.func158 ?_;conv=>whnf
 ((first | (with_reducible refine zcs rfl ?_) | (with_reducible refine zcq rfl ?_) | (with_reducible refine zcy (beq_self_eq_true _) ?_) | (with_reducible refine zcz (bne_self_eq_false _) ?_));conv=>whnf)
 refine zbv mixed (by kernel_rfl) (fun i:Nat=>i≤l.length) (fun i=>[(5,iv i)]) [] (fun i=>l.length - i) 0 (Nat.zero_le _) ?_ ?_
 ·conv=>whnf
  exact wkD
 intro i hi
 conv=>whnf
 (refine tSp (fun h=>?_) (fun h=>?_)<;>conv=>whnf)
 ·simp only [List.length_map] at h
  have hlt:i < l.length:=by omega
  refine ⟨by omega,_,zbn hlt,?_⟩
  conv=>whnf
  refine ⟨by omega,_,zbn hlt,?_⟩
  conv=>whnf
  ((try (refine Exists.intro none ?_;conv=>whnf));(with_reducible refine zaa (s_Entry (l[i]'hlt)) ?_);conv=>whnf)
  refine ⟨i+1,⟨by omega,by omega⟩,?_⟩
  conv=>whnf
  (refine wkx ?_;refine ⟨?_,?_,?_⟩<;>(conv=>whnf)<;>repeat' first | exact wkc | (with_reducible refine And.intro ?_ ?_)<;>first | exact wks | refine wko ?_ | refine wki ?_ | refine wkb ?_ | (refine zan ?_;conv=>whnf) | (refine zah ?_;conv=>whnf) | (refine zag ?_;conv=>whnf) | conv=>whnf)
  exact w1 (by omega)
 ·exact zab rfl rfl
theorem s_Bytes (l:List Int) (hm:l.length≤maxLen):Ctr Tryz.prog 157 [.sl 1 (l.map encB),.sl 1 (l.map encB)] (bv true) []:=by
 have hm':l.length≤9223372036854775807:=Nat.le_trans hm (by decide)
 refine sBody Tryz.func157 ?_;conv=>whnf
 ((first | (with_reducible refine zcs rfl ?_) | (with_reducible refine zcq rfl ?_) | (with_reducible refine zcy (beq_self_eq_true _) ?_) | (with_reducible refine zcz (bne_self_eq_false _) ?_));conv=>whnf)
 refine zbv mixed (by kernel_rfl) (fun i:Nat=>i≤l.length) (fun i=>[(5,iv i)]) [] (fun i=>l.length - i) 0 (Nat.zero_le _) ?_ ?_
 ·conv=>whnf
  exact wkD
 intro i hi
 conv=>whnf
 (refine tSp (fun h=>?_) (fun h=>?_)<;>conv=>whnf)
 ·simp only [List.length_map] at h
  have hlt:i < l.length:=by omega
  refine ⟨by omega,_,zbn hlt,?_⟩
  conv=>whnf
  refine ⟨by omega,_,zbn hlt,?_⟩
  conv=>whnf
  ((first | (with_reducible refine zcs rfl ?_) | (with_reducible refine zcq rfl ?_) | (with_reducible refine zcy (beq_self_eq_true _) ?_) | (with_reducible refine zcz (bne_self_eq_false _) ?_));conv=>whnf)
  refine ⟨i+1,⟨by omega,by omega⟩,?_⟩
  conv=>whnf
  (refine wkx ?_;refine ⟨?_,?_,?_⟩<;>(conv=>whnf)<;>repeat' first | exact wkc | (with_reducible refine And.intro ?_ ?_)<;>first | exact wks | refine wko ?_ | refine wki ?_ | refine wkb ?_ | (refine zan ?_;conv=>whnf) | (refine zah ?_;conv=>whnf) | (refine zag ?_;conv=>whnf) | conv=>whnf)
  exact w1 (by omega)
 ·exact zab rfl rfl
theorem small {n b:Nat} (h:n≤4294967296) (hb:b.ble 1024=true):n * b≤140737488355328:=by
 have h1:b≤1024:=Nat.le_of_ble_eq_true hb
 exact Nat.le_trans (Nat.mul_le_mul h h1) (by decide)
theorem zak {n:Nat} (h:n≤4294967296):n≤maxLen:=Nat.le_trans h (by decide)
theorem zqb (l:List Int) (h:l.length≤4294967296):Ctr Tryz.prog 149 [.sl 1 (l.map encB)] (.ow 0 0 (l.map encB).length) [(1,l.map encB)]:=by
 have h':(l.map encB).length≤4294967296:=by simpa using h
 refine sBody Tryz.func149 ?_;conv=>whnf
 refine ⟨rfl,?_⟩
 conv=>whnf
 refine ⟨⟨⟨small h' (by kernel_rfl),zak h'⟩,rfl⟩,?_⟩
 conv=>whnf
 exact zbd [(0,96)] rfl ⟨rfl,True.intro⟩ (zbj rfl rfl rfl)
theorem zcu (l:List Ent) (h:l.length≤4294967296):Ctr Tryz.prog 150 [.sl 16 (l.map Ent.enc)] (.ow 0 0 (l.map Ent.enc).length) [(16,l.map Ent.enc)]:=by
 have h':(l.map Ent.enc).length≤4294967296:=by simpa using h
 refine sBody Tryz.func150 ?_;conv=>whnf
 refine ⟨rfl,?_⟩
 conv=>whnf
 refine ⟨⟨⟨small h' (by kernel_rfl),zak h'⟩,rfl⟩,?_⟩
 conv=>whnf
 exact zbd [(0,96)] rfl ⟨rfl,True.intro⟩ (zbj rfl rfl rfl)
theorem zpf (l:List Rd) (h:l.length≤4294967296):Ctr Tryz.prog 200 [.sl 13 (l.map Rd.enc)] (.ow 0 0 (l.map Rd.enc).length) [(13,l.map Rd.enc)]:=by
 have h':(l.map Rd.enc).length≤4294967296:=by simpa using h
 refine sBody Tryz.func200 ?_;conv=>whnf
 refine ⟨rfl,?_⟩
 conv=>whnf
 refine ⟨⟨⟨small h' (by kernel_rfl),zak h'⟩,rfl⟩,?_⟩
 conv=>whnf
 exact zbd [(0,96)] rfl ⟨rfl,True.intro⟩ (zbj rfl rfl rfl)
abbrev Hrd.own (x:Hrd) (k:Nat):List PV:=[iv x.term,iv x.vote,iv x.base,iv x.baseTerm,iv x.baseConf.full,iv x.baseConf.wit,iv x.baseConf.learn,iv x.baseConf.lwit,.ow k 0 (x.snap.map encB).length,.ow (k+1) 0 (x.log.map Ent.enc).length]
abbrev Hrd.obs (x:Hrd):List (Nat×List (List PV)):=[(1,x.snap.map encB),(16,x.log.map Ent.enc)]
theorem zla (a:Hrd) (h1:a.snap.length≤4294967296) (h2:a.log.length≤4294967296):Ctr Tryz.prog 74 [.ag a.enc] (.ag (a.own 0)) a.obs:=by
 refine sBody Tryz.func74 ?_;conv=>whnf
 ((try (refine Exists.intro none ?_;conv=>whnf));(with_reducible refine zaa (zqb a.snap h1) ?_);conv=>whnf)
 refine ⟨_,rfl,(by intro q hq;cases hq),(by intro i hi;rfl),?_⟩
 conv=>whnf
 ((try (refine Exists.intro none ?_;conv=>whnf));(with_reducible refine zaa (zcu a.log h2) ?_);conv=>whnf)
 refine ⟨_,rfl,(by intro q hq;cases hq),?_,?_⟩
 ·intro i hi
  have:i=0:=by simpa using hi
  subst this;rfl
 conv=>whnf
 refine zbd [(0,112),(1,176)] rfl ⟨rfl,rfl,True.intro⟩ (zag ?_)
 conv=>whnf
 repeat' (first | exact rfl | ((with_reducible refine And.intro ?_ ?_)<;>(first | (with_reducible exact zaj _ rfl) | exact zbj rfl rfl rfl | (conv=>whnf))))
abbrev Rft.own (x:Rft) (k:Nat):List PV:=[iv x.id]++x.hard.own k++[iv x.commit,iv x.role,iv x.lead,iv x.wait,iv x.quiet,iv x.votes,iv x.round]++x.next.enc++x.mtch.enc++x.silent.enc++[.ow (k+2) 0 (x.reads.map Rd.enc).length]
abbrev Rft.obs (x:Rft):List (Nat×List (List PV)):=[(1,x.hard.snap.map encB),(16,x.hard.log.map Ent.enc),(13,x.reads.map Rd.enc)]
set_option maxHeartbeats 1000000 in
theorem zkq (r:Rft) (h1:r.hard.snap.length≤4294967296) (h2:r.hard.log.length≤4294967296) (h3:r.reads.length≤4294967296):Ctr Tryz.prog 32 [.ag r.enc] (.ag (r.own 0)) r.obs:=by
 have h':(r.reads.map Rd.enc).length≤4294967296:=by simpa using h3
 refine sBody Tryz.func32 ?_;conv=>whnf
 ((try (refine Exists.intro none ?_;conv=>whnf));(with_reducible refine zaa (zla r.hard h1 h2) ?_);conv=>whnf)
 refine ⟨_,rfl,(by intro q hq;cases hq),(by intro i hi;rfl),?_⟩
 conv=>whnf
 refine ⟨rfl,?_⟩
 conv=>whnf
 refine ⟨⟨⟨small h' (by kernel_rfl),zak h'⟩,rfl⟩,?_⟩
 conv=>whnf
 refine zbd [(0,112),(1,113),(2,224)] rfl ⟨rfl,rfl,rfl,True.intro⟩ (zag ?_)
 conv=>whnf
 repeat' (first | exact rfl | ((with_reducible refine And.intro ?_ ?_)<;>(first | (with_reducible exact zaj _ rfl) | exact zbj rfl rfl rfl | (conv=>whnf))))
theorem s_Reads (l:List Rd) (hm:l.length≤maxLen):Ctr Tryz.prog 84 [.sl 13 (l.map Rd.enc),.sl 13 (l.map Rd.enc)] (bv true) []:=by
 have hm':l.length≤9223372036854775807:=Nat.le_trans hm (by decide)
 refine sBody Tryz.func84 ?_;conv=>whnf
 ((first | (with_reducible refine zcs rfl ?_) | (with_reducible refine zcq rfl ?_) | (with_reducible refine zcy (beq_self_eq_true _) ?_) | (with_reducible refine zcz (bne_self_eq_false _) ?_));conv=>whnf)
 refine zbv mixed (by kernel_rfl) (fun i:Nat=>i≤l.length) (fun i=>[(5,iv i)]) [] (fun i=>l.length - i) 0 (Nat.zero_le _) ?_ ?_
 ·conv=>whnf
  exact wkD
 intro i hi
 conv=>whnf
 (refine tSp (fun h=>?_) (fun h=>?_)<;>conv=>whnf)
 ·simp only [List.length_map] at h
  have hlt:i < l.length:=by omega
  repeat' (first | ((with_reducible refine And.intro (by omega) (Exists.intro _ (And.intro (zbn hlt) ?_)));conv=>whnf) | ((try (refine Exists.intro none ?_;conv=>whnf));(with_reducible refine zaa (s_Call (l[i]'hlt).call) ?_);conv=>whnf) | ((first | (with_reducible refine zcs rfl ?_) | (with_reducible refine zcq rfl ?_) | (with_reducible refine zcy (beq_self_eq_true _) ?_) | (with_reducible refine zcz (bne_self_eq_false _) ?_));conv=>whnf))
  refine ⟨i+1,⟨by omega,by omega⟩,?_⟩
  conv=>whnf
  (refine wkx ?_;refine ⟨?_,?_,?_⟩<;>(conv=>whnf)<;>repeat' first | exact wkc | (with_reducible refine And.intro ?_ ?_)<;>first | exact wks | refine wko ?_ | refine wki ?_ | refine wkb ?_ | (refine zan ?_;conv=>whnf) | (refine zah ?_;conv=>whnf) | (refine zag ?_;conv=>whnf) | conv=>whnf)
  exact w1 (by omega)
 ·exact zab rfl rfl
theorem s_Hard (a:Hrd) (h1:a.snap.length≤maxLen) (h2:a.log.length≤maxLen):Ctr Tryz.prog 82 [.ag a.enc,.ag a.enc] (bv true) []:=by
 refine sBody Tryz.func82 ?_;conv=>whnf
 repeat' (first | ((first | (with_reducible refine zcs rfl ?_) | (with_reducible refine zcq rfl ?_) | (with_reducible refine zcy (beq_self_eq_true _) ?_) | (with_reducible refine zcz (bne_self_eq_false _) ?_));conv=>whnf) | ((try ((refine Exists.intro none ?_);(conv=>whnf)));first | ((with_reducible refine zaa (s_Conf a.baseConf) ?_);conv=>whnf) | ((with_reducible refine zaa (s_Bytes a.snap h1) ?_);conv=>whnf) | ((with_reducible refine zaa (zxd a.log h2) ?_);conv=>whnf)))
 exact zab rfl rfl
set_option maxHeartbeats 1000000 in
theorem zgb (r:Rft) (h1:r.hard.snap.length≤maxLen) (h2:r.hard.log.length≤maxLen) (h3:r.reads.length≤maxLen):Ctr Tryz.prog 34 [.ag r.enc,.ag r.enc] (bv true) []:=by
 refine sBody Tryz.func34 ?_;conv=>whnf
 repeat' (first | ((first | (with_reducible refine zcs rfl ?_) | (with_reducible refine zcq rfl ?_) | (with_reducible refine zcy (beq_self_eq_true _) ?_) | (with_reducible refine zcz (bne_self_eq_false _) ?_));conv=>whnf) | ((try ((refine Exists.intro none ?_);(conv=>whnf)));first | ((with_reducible refine zaa (s_Hard r.hard h1 h2) ?_);conv=>whnf) | ((with_reducible refine zaa (zpc r.next) ?_);conv=>whnf) | ((with_reducible refine zaa (zpc r.mtch) ?_);conv=>whnf) | ((with_reducible refine zaa (zpc r.silent) ?_);conv=>whnf) | ((with_reducible refine zaa (s_Reads r.reads h3) ?_);conv=>whnf)))
 exact zab rfl rfl
theorem zia (l:List Rd) (h:l.length≤4294967296):Ctr Tryz.prog 110 [.sl 13 (l.map Rd.enc)] (.ow 0 0 (l.map Rd.enc).length) [(13,l.map Rd.enc)]:=by
 have h':(l.map Rd.enc).length≤4294967296:=by simpa using h
 refine sBody Tryz.func110 ?_;conv=>whnf
 refine ⟨fun e=>?_,?_⟩<;>conv=>whnf
 ·have:l=[]:=by simpa using e
  subst this
  exact zfr 13
 ·refine ⟨rfl,?_⟩
  conv=>whnf
  refine ⟨⟨⟨small h' (by kernel_rfl),zak h'⟩,rfl⟩,?_⟩
  conv=>whnf
  exact zbd [(0,112)] rfl ⟨rfl,True.intro⟩ (zbj rfl rfl rfl)
theorem zc2 (l:List Ent) (h:l.length≤4294967296):Ctr Tryz.prog 70 [.sl 16 (l.map Ent.enc)] (.ow 0 0 (l.map Ent.enc).length) [(16,l.map Ent.enc)]:=by
 have h':(l.map Ent.enc).length≤4294967296:=by simpa using h
 refine sBody Tryz.func70 ?_;conv=>whnf
 refine ⟨fun e=>?_,?_⟩<;>conv=>whnf
 ·have:l=[]:=by simpa using e
  subst this
  exact zfr 16
 ·refine ⟨rfl,?_⟩
  conv=>whnf
  refine ⟨⟨⟨small h' (by kernel_rfl),zak h'⟩,rfl⟩,?_⟩
  conv=>whnf
  exact zbd [(0,112)] rfl ⟨rfl,True.intro⟩ (zbj rfl rfl rfl)
theorem zdq (l:List Int) (h:l.length≤4294967296):Ctr Tryz.prog 109 [.sl 1 (l.map encB)] (.ow 0 0 (l.map encB).length) [(1,l.map encB)]:=by
 have h':(l.map encB).length≤4294967296:=by simpa using h
 refine sBody Tryz.func109 ?_;conv=>whnf
 refine ⟨fun e=>?_,?_⟩<;>conv=>whnf
 ·have:l=[]:=by simpa using e
  subst this
  exact zfr 1
 ·refine ⟨rfl,?_⟩
  conv=>whnf
  refine ⟨⟨⟨small h' (by kernel_rfl),zak h'⟩,rfl⟩,?_⟩
  conv=>whnf
  exact zbd [(0,112)] rfl ⟨rfl,True.intro⟩ (zbj rfl rfl rfl)
noncomputable def ack1 (frm round:Int) (x:Rd):Rd:=if x.round≤round∧0≤frm∧frm < 7 then { x with acks:=bor x.acks (shl 1 frm) } else x
noncomputable def ackL (l:List Rd) (frm round:Int) (i:Nat):List Rd:=(l.take i).map (ack1 frm round)++l.drop i
theorem zrc (l:List Rd) (frm round:Int) (i:Nat):(ackL l frm round i).length=l.length:=by
 simp [ackL];omega
theorem zml (l:List Rd) (frm round:Int) {i:Nat} (h:i < l.length):((ackL l frm round i).map Rd.enc)[i]?=some (l[i]'h).enc:=by
 unfold ackL
 rw [List.getElem?_map,List.getElem?_append_right (by simp;omega)]
 simp [Nat.min_eq_left (Nat.le_of_lt h),h]
theorem zgx (l:List Rd) (frm round:Int) {i:Nat} (h:i < l.length):ackL l frm round (i+1)=(ackL l frm round i).set i (ack1 frm round (l[i]'h)):=by
 unfold ackL
 rw [List.take_succ_eq_append_getElem h,List.map_append,List.append_assoc,List.set_append_right i (ack1 frm round (l[i]'h)) (by simp;omega)]
 rw [List.drop_eq_getElem_cons h]
 simp only [List.length_map,List.length_take,Nat.min_eq_left (Nat.le_of_lt h),Nat.sub_self,List.set_cons_zero,List.map_cons,List.map_nil,List.cons_append,List.nil_append]
theorem zri (l:List Rd) (frm round:Int):ackL l frm round l.length=l.map (ack1 frm round):=by simp [ackL]
theorem c_Ack (l:List Rd) (hl:l.length≤4294967296) (frm round:Int):Ctr Tryz.prog 191 [.sl 13 (l.map Rd.enc),iv frm,iv round] (.ow 0 0 ((l.map (ack1 frm round)).map Rd.enc).length) [(13,(l.map (ack1 frm round)).map Rd.enc)]:=by
 refine sBody Tryz.func191 ?_;conv=>whnf
 ((try (refine Exists.intro none ?_;conv=>whnf));(with_reducible refine zaa (zia l hl) ?_);conv=>whnf)
 refine ⟨_,rfl,(by intro q hq;cases hq),(by intro i hi;rfl),?_⟩
 conv=>whnf
 refine tFor (fun i:Nat=>i≤l.length) (fun i=>[(13,iv i)]) (fun _=>[]) (fun i=>[(160,some (false,13,(ackL l frm round i).map Rd.enc))]) [(160,160)] (fun i=>l.length - i) 0 (Nat.zero_le _) ?_ ?_
 ·conv=>whnf
  (refine wkx ?_;refine ⟨?_,?_,?_⟩<;>(conv=>whnf)<;>repeat' first | exact wkc | (with_reducible refine And.intro ?_ ?_)<;>first | exact wks | refine wko ?_ | refine wki ?_ | refine wkb ?_ | (refine zan ?_;conv=>whnf) | (refine zah ?_;conv=>whnf) | (refine zag ?_;conv=>whnf) | conv=>whnf)
  ·rfl
  ·rfl
 intro i hi
 conv=>whnf
 (refine tSp (fun h=>?_) (fun h=>?_)<;>conv=>whnf)
 ·simp only [List.length_map] at h
  have hlt:i < l.length:=by omega
  have hrow:((ackL l frm round i).map Rd.enc)[0+((i:Nat):Int).toNat]?=some (l[i]'hlt).enc:=by
   rw [Nat.zero_add];exact zml l frm round hlt
  have hidx:0≤((i:Nat):Int)∧((i:Nat):Int) < (((l.map Rd.enc).length:Nat):Int):=by simp only [List.length_map];omega
  have stay:ack1 frm round (l[i]'hlt)=l[i]'hlt→ackL l frm round (i+1)=ackL l frm round i:=by
   intro e
   rw [zgx l frm round hlt,e]
   apply List.ext_getElem?
   intro j
   by_cases ej:i=j
   ·subst ej
    rw [List.getElem?_set_self (by rw [zrc];exact hlt)]
    have:=zml l frm round hlt
    unfold ackL
    rw [List.getElem?_append_right (by simp;omega)]
    simp [Nat.min_eq_left (Nat.le_of_lt hlt),hlt]
   ·rw [List.getElem?_set_ne ej]
  refine ⟨hidx,?_⟩
  conv=>whnf
  refine ⟨_,hrow,?_⟩
  conv=>whnf
  (refine tSp (fun h=>?_) (fun h=>?_)<;>conv=>whnf)
  ·have h1:=h
   (refine tSp (fun h=>?_) (fun h=>?_)<;>conv=>whnf)
   ·have h2:=h
    (refine tSp (fun h=>?_) (fun h=>?_)<;>conv=>whnf)
    ·refine ⟨hidx,?_⟩
     conv=>whnf
     refine ⟨_,hrow,?_⟩
     conv=>whnf
     refine ⟨⟨by decide,by omega⟩,?_⟩
     conv=>whnf
     refine ⟨hidx,?_⟩
     conv=>whnf
     refine ⟨_,hrow,?_⟩
     conv=>whnf
     refine ⟨i+1,[(160,160)],⟨by omega,by omega⟩,?_⟩
     conv=>whnf
     (refine wkx ?_;refine ⟨?_,?_,?_⟩<;>(conv=>whnf)<;>repeat' first | exact wkc | (with_reducible refine And.intro ?_ ?_)<;>first | exact wks | refine wko ?_ | refine wki ?_ | refine wkb ?_ | (refine zan ?_;conv=>whnf) | (refine zah ?_;conv=>whnf) | (refine zag ?_;conv=>whnf) | conv=>whnf)
     ·rw [zgx l frm round hlt,List.map_set]
      simp only [ack1,h1,h2,h,and_self,if_true]
      rw [Nat.zero_add,Int.toNat_natCast]
     ·exact w1 (by omega)
    ·have e:=stay (by unfold ack1;rw [if_neg (fun x=>h x.2.2)])
     refine ⟨i+1,[(160,160)],⟨by omega,by omega⟩,?_⟩
     conv=>whnf
     (refine wkx ?_;refine ⟨?_,?_,?_⟩<;>(conv=>whnf)<;>repeat' first | exact wkc | (with_reducible refine And.intro ?_ ?_)<;>first | exact wks | refine wko ?_ | refine wki ?_ | refine wkb ?_ | (refine zan ?_;conv=>whnf) | (refine zah ?_;conv=>whnf) | (refine zag ?_;conv=>whnf) | conv=>whnf)
     ·rw [e]
     ·exact w1 (by omega)
   ·have e:=stay (by unfold ack1;rw [if_neg (fun x=>h x.2.1)])
    refine ⟨i+1,[(160,160)],⟨by omega,by omega⟩,?_⟩
    conv=>whnf
    (refine wkx ?_;refine ⟨?_,?_,?_⟩<;>(conv=>whnf)<;>repeat' first | exact wkc | (with_reducible refine And.intro ?_ ?_)<;>first | exact wks | refine wko ?_ | refine wki ?_ | refine wkb ?_ | (refine zan ?_;conv=>whnf) | (refine zah ?_;conv=>whnf) | (refine zag ?_;conv=>whnf) | conv=>whnf)
    ·rw [e]
    ·exact w1 (by omega)
  ·have e:=stay (by unfold ack1;rw [if_neg (fun x=>h x.1)])
   refine ⟨i+1,[(160,160)],⟨by omega,by omega⟩,?_⟩
   conv=>whnf
   (refine wkx ?_;refine ⟨?_,?_,?_⟩<;>(conv=>whnf)<;>repeat' first | exact wkc | (with_reducible refine And.intro ?_ ?_)<;>first | exact wks | refine wko ?_ | refine wki ?_ | refine wkb ?_ | (refine zan ?_;conv=>whnf) | (refine zah ?_;conv=>whnf) | (refine zag ?_;conv=>whnf) | conv=>whnf)
   ·rw [e]
   ·exact w1 (by omega)
 ·simp only [List.length_map] at h
  have:i=l.length:=by omega
  subst this
  refine zbd [(0,160)] rfl ⟨?_,True.intro⟩ (zbj rfl rfl (by simp))
  rw [zri]
noncomputable def rdy (c:Conf) (applied:Int) (x:Rd):Bool:=zbb c x.acks && decide (x.index≤applied)
noncomputable def rdyL (l:List Rd) (c:Conf) (applied:Int) (i:Nat):List Rd:=(l.take i).filter (rdy c applied)
noncomputable def lftL (l:List Rd) (c:Conf) (applied:Int) (i:Nat):List Rd:=(l.take i).filter fun x=>!rdy c applied x
theorem zvh {l:List Rd}{c:Conf}{applied:Int}{i:Nat} (h:i < l.length):rdyL l c applied (i+1)=rdyL l c applied i++if rdy c applied (l[i]'h) then [l[i]'h] else []:=by
 unfold rdyL
 rw [List.take_succ_eq_append_getElem h,List.filter_append]
 congr 1
 cases hr:rdy c applied (l[i]'h)<;>simp [hr]
theorem zwv {l:List Rd}{c:Conf}{applied:Int}{i:Nat} (h:i < l.length):lftL l c applied (i+1)=lftL l c applied i++if rdy c applied (l[i]'h) then [] else [l[i]'h]:=by
 unfold lftL
 rw [List.take_succ_eq_append_getElem h,List.filter_append]
 congr 1
 cases hr:rdy c applied (l[i]'h)<;>simp [hr]
theorem zzb (l:List Rd) (c:Conf) (applied:Int) (i:Nat):(rdyL l c applied i).length≤l.length:=by
 unfold rdyL
 exact Nat.le_trans (List.length_filter_le _ _) (by simp;omega)
theorem zx5 (l:List Rd) (c:Conf) (applied:Int) (i:Nat):(lftL l c applied i).length≤l.length:=by
 unfold lftL
 exact Nat.le_trans (List.length_filter_le _ _) (by simp;omega)
set_option maxHeartbeats 1000000 in
theorem zx9 (l:List Rd) (hl:l.length≤4294967) (c:Conf) (applied:Int):Ctr Tryz.prog 103 [.sl 13 (l.map Rd.enc),.ag c.enc,iv applied] (.tu [.ow 0 0 ((l.filter (rdy c applied)).map Rd.enc).length,.ow 1 0 ((l.filter fun x=>!rdy c applied x).map Rd.enc).length]) [(13,(l.filter (rdy c applied)).map Rd.enc),(13,(l.filter fun x=>!rdy c applied x).map Rd.enc)]:=by
 refine sBody Tryz.func103 ?_;conv=>whnf
 refine zgp 8 1000 13 rfl rfl ?_
 conv=>whnf
 refine zgp 9 1001 13 rfl rfl ?_
 conv=>whnf
 refine tFor (fun i:Nat=>i≤l.length) (fun i=>[(10,iv i),(8,.ow 1000 0 (rdyL l c applied i).length),(9,.ow 1001 0 (lftL l c applied i).length)]) (fun _=>[(4,c.enc)]) (fun i=>[(1000,some (false,13,(rdyL l c applied i).map Rd.enc)),(1001,some (false,13,(lftL l c applied i).map Rd.enc))]) [(1000,1000),(1001,1001)] (fun i=>l.length - i) 0 (Nat.zero_le _) ?_ ?_
 ·conv=>whnf
  exact wkD
 intro i hi
 conv=>whnf
 (refine tSp (fun h=>?_) (fun h=>?_)<;>conv=>whnf)
 ·simp only [List.length_map] at h
  have hlt:i < l.length:=by omega
  have hr1:=zvh (c:=c) (applied:=applied) hlt
  have hr2:=zwv (c:=c) (applied:=applied) hlt
  have n1:=zzb l c applied i
  have n2:=zx5 l c applied i
  refine ⟨by omega,_,zbn hlt,?_⟩
  conv=>whnf
  (refine tSp (fun h=>?_) (fun h=>?_)<;>conv=>whnf)
  ·have h1:=h
   refine ⟨by omega,_,zbn hlt,?_⟩
   conv=>whnf
   ((try (refine Exists.intro none ?_;conv=>whnf));(with_reducible refine zaa (zg1 c _) ?_);conv=>whnf)
   (refine tSp (fun h=>?_) (fun h=>?_)<;>conv=>whnf)
   ·have e:rdy c applied (l[i]'hlt)=true:=by simp [rdy,h1,h]
    rw [e,if_pos rfl] at hr1
    rw [e,if_pos rfl,List.append_nil] at hr2
    refine ⟨by omega,_,zbn hlt,?_⟩
    conv=>whnf
    (refine And.intro rfl ?_;(conv=>whnf);refine And.intro (And.intro (And.intro (by kernel_rfl) (And.intro (by simp) (And.intro (small (by simp only [List.length_cons,List.length_nil];omega) (by kernel_rfl)) (And.intro (zak (by simp only [List.length_cons,List.length_nil];omega)) (by intro r hr;rw [List.mem_singleton.1 hr];rfl))))) (And.intro (by decide) rfl)) ?_;conv=>whnf)
    refine ⟨i+1,[(1000,624),(1001,1001)],⟨by omega,by omega⟩,?_⟩
    rw [hr1,hr2]
    conv=>whnf
    (refine wkx ?_;refine ⟨?_,?_,?_⟩<;>(conv=>whnf)<;>repeat' first | exact wkc | (with_reducible refine And.intro ?_ ?_)<;>first | exact wks | refine wko ?_ | refine wki ?_ | refine wkb ?_ | (refine zan ?_;conv=>whnf) | (refine zah ?_;conv=>whnf) | (refine zag ?_;conv=>whnf) | conv=>whnf)
    all_goals first | exact w1 (by omega) | (rw [List.take_of_length_le (by simp),List.map_append];rfl) | (simp;done) | rfl
   ·have e:rdy c applied (l[i]'hlt)=false:=by simp [rdy,h]
    rw [e,if_neg (by simp)] at hr2
    rw [e,if_neg (by simp),List.append_nil] at hr1
    refine ⟨by omega,_,zbn hlt,?_⟩
    conv=>whnf
    (refine And.intro rfl ?_;(conv=>whnf);refine And.intro (And.intro (And.intro (by kernel_rfl) (And.intro (by simp) (And.intro (small (by simp only [List.length_cons,List.length_nil];omega) (by kernel_rfl)) (And.intro (zak (by simp only [List.length_cons,List.length_nil];omega)) (by intro r hr;rw [List.mem_singleton.1 hr];rfl))))) (And.intro (by decide) rfl)) ?_;conv=>whnf)
    refine ⟨i+1,[(1000,1000),(1001,736)],⟨by omega,by omega⟩,?_⟩
    rw [hr1,hr2]
    conv=>whnf
    (refine wkx ?_;refine ⟨?_,?_,?_⟩<;>(conv=>whnf)<;>repeat' first | exact wkc | (with_reducible refine And.intro ?_ ?_)<;>first | exact wks | refine wko ?_ | refine wki ?_ | refine wkb ?_ | (refine zan ?_;conv=>whnf) | (refine zah ?_;conv=>whnf) | (refine zag ?_;conv=>whnf) | conv=>whnf)
    all_goals first | exact w1 (by omega) | (rw [List.take_of_length_le (by simp),List.map_append];rfl) | (simp;done) | rfl
  ·have e:rdy c applied (l[i]'hlt)=false:=by simp [rdy,h]
   rw [e,if_neg (by simp)] at hr2
   rw [e,if_neg (by simp),List.append_nil] at hr1
   refine ⟨by omega,_,zbn hlt,?_⟩
   conv=>whnf
   (refine And.intro rfl ?_;(conv=>whnf);refine And.intro (And.intro (And.intro (by kernel_rfl) (And.intro (by simp) (And.intro (small (by simp only [List.length_cons,List.length_nil];omega) (by kernel_rfl)) (And.intro (zak (by simp only [List.length_cons,List.length_nil];omega)) (by intro r hr;rw [List.mem_singleton.1 hr];rfl))))) (And.intro (by decide) rfl)) ?_;conv=>whnf)
   refine ⟨i+1,[(1000,1000),(1001,736)],⟨by omega,by omega⟩,?_⟩
   rw [hr1,hr2]
   conv=>whnf
   (refine wkx ?_;refine ⟨?_,?_,?_⟩<;>(conv=>whnf)<;>repeat' first | exact wkc | (with_reducible refine And.intro ?_ ?_)<;>first | exact wks | refine wko ?_ | refine wki ?_ | refine wkb ?_ | (refine zan ?_;conv=>whnf) | (refine zah ?_;conv=>whnf) | (refine zag ?_;conv=>whnf) | conv=>whnf)
   all_goals first | exact w1 (by omega) | (rw [List.take_of_length_le (by simp),List.map_append];rfl) | (simp;done) | rfl
 ·simp only [List.length_map] at h
  have:i=l.length:=by omega
  subst this
  have e1:rdyL l c applied l.length=l.filter (rdy c applied):=by simp [rdyL]
  have e2:lftL l c applied l.length=l.filter fun x=>!rdy c applied x:=by simp [lftL]
  rw [← e1,← e2]
  refine zbd [(0,1000),(1,1001)] rfl ⟨rfl,rfl,True.intro⟩ (zah ?_)
  exact ⟨zbj rfl rfl (by simp),zbj rfl rfl (by simp),rfl⟩
theorem c_rAck (l:List Rd) (hl:l.length≤4294967296) (frm round:Int):Ctr Tryz.prog 165 [.sl 13 (l.map Rd.enc),iv frm,iv round] (.ow 0 0 ((l.map (ack1 frm round)).map Rd.enc).length) [(13,(l.map (ack1 frm round)).map Rd.enc)]:=by
 refine sBody Tryz.func165 ?_;conv=>whnf
 ((try (refine Exists.intro none ?_;conv=>whnf));(with_reducible refine zaa (zpf l hl) ?_);conv=>whnf)
 refine ⟨_,rfl,(by intro q hq;cases hq),(by intro i hi;rfl),?_⟩
 conv=>whnf
 refine tFor (fun i:Nat=>i≤l.length) (fun i=>[(8,iv i)]) (fun _=>[]) (fun i=>[(160,some (false,13,(ackL l frm round i).map Rd.enc))]) [(160,160)] (fun i=>l.length - i) 0 (Nat.zero_le _) ?_ ?_
 ·conv=>whnf
  (refine wkx ?_;refine ⟨?_,?_,?_⟩<;>(conv=>whnf)<;>repeat' first | exact wkc | (with_reducible refine And.intro ?_ ?_)<;>first | exact wks | refine wko ?_ | refine wki ?_ | refine wkb ?_ | (refine zan ?_;conv=>whnf) | (refine zah ?_;conv=>whnf) | (refine zag ?_;conv=>whnf) | conv=>whnf)
  ·rfl
  ·rfl
 intro i hi
 conv=>whnf
 (refine tSp (fun h=>?_) (fun h=>?_)<;>conv=>whnf)
 ·simp only [List.length_map] at h
  have hlt:i < l.length:=by omega
  have hrow:((ackL l frm round i).map Rd.enc)[0+((i:Nat):Int).toNat]?=some (l[i]'hlt).enc:=by
   rw [Nat.zero_add];exact zml l frm round hlt
  have hidx:0≤((i:Nat):Int)∧((i:Nat):Int) < (((l.map Rd.enc).length:Nat):Int):=by simp only [List.length_map];omega
  have stay:ack1 frm round (l[i]'hlt)=l[i]'hlt→ackL l frm round (i+1)=ackL l frm round i:=by
   intro e
   rw [zgx l frm round hlt,e]
   apply List.ext_getElem?
   intro j
   by_cases ej:i=j
   ·subst ej
    rw [List.getElem?_set_self (by rw [zrc];exact hlt)]
    have:=zml l frm round hlt
    unfold ackL
    rw [List.getElem?_append_right (by simp;omega)]
    simp [Nat.min_eq_left (Nat.le_of_lt hlt),hlt]
   ·rw [List.getElem?_set_ne ej]
  ((try (refine Exists.intro none ?_;conv=>whnf));(with_reducible refine zaa (zcc frm) ?_);conv=>whnf)
  (refine tSp (fun h=>?_) (fun h=>?_)<;>conv=>whnf)
  ·have h2:0≤frm∧frm < 7:=by simp [zap] at h;omega
   refine ⟨hidx,?_⟩
   conv=>whnf
   refine ⟨_,hrow,?_⟩
   conv=>whnf
   (refine tSp (fun h=>?_) (fun h=>?_)<;>conv=>whnf)
   ·refine ⟨hidx,?_⟩
    conv=>whnf
    refine ⟨_,hrow,?_⟩
    conv=>whnf
    refine ⟨⟨by decide,zeq _⟩,?_⟩
    conv=>whnf
    refine ⟨hidx,?_⟩
    conv=>whnf
    refine ⟨_,hrow,?_⟩
    conv=>whnf
    refine ⟨i+1,[(160,160)],⟨by omega,by omega⟩,?_⟩
    conv=>whnf
    (refine wkx ?_;refine ⟨?_,?_,?_⟩<;>(conv=>whnf)<;>repeat' first | exact wkc | (with_reducible refine And.intro ?_ ?_)<;>first | exact wks | refine wko ?_ | refine wki ?_ | refine wkb ?_ | (refine zan ?_;conv=>whnf) | (refine zah ?_;conv=>whnf) | (refine zag ?_;conv=>whnf) | conv=>whnf)
    ·rw [zgx l frm round hlt,List.map_set]
     simp only [ack1,h2,h,and_self,if_true]
     rw [Nat.zero_add,Int.toNat_natCast,zb4 (by omega) (by omega)]
    ·exact w1 (by omega)
   ·have e:=stay (by unfold ack1;rw [if_neg (fun x=>h x.1)])
    refine ⟨i+1,[(160,160)],⟨by omega,by omega⟩,?_⟩
    conv=>whnf
    (refine wkx ?_;refine ⟨?_,?_,?_⟩<;>(conv=>whnf)<;>repeat' first | exact wkc | (with_reducible refine And.intro ?_ ?_)<;>first | exact wks | refine wko ?_ | refine wki ?_ | refine wkb ?_ | (refine zan ?_;conv=>whnf) | (refine zah ?_;conv=>whnf) | (refine zag ?_;conv=>whnf) | conv=>whnf)
    ·rw [e]
    ·exact w1 (by omega)
  ·have h2:¬ (0≤frm∧frm < 7):=by simp [zap] at h;omega
   have e:=stay (by unfold ack1;rw [if_neg (fun x=>h2 x.2)])
   refine ⟨i+1,[(160,160)],⟨by omega,by omega⟩,?_⟩
   conv=>whnf
   (refine wkx ?_;refine ⟨?_,?_,?_⟩<;>(conv=>whnf)<;>repeat' first | exact wkc | (with_reducible refine And.intro ?_ ?_)<;>first | exact wks | refine wko ?_ | refine wki ?_ | refine wkb ?_ | (refine zan ?_;conv=>whnf) | (refine zah ?_;conv=>whnf) | (refine zag ?_;conv=>whnf) | conv=>whnf)
   ·rw [e]
   ·exact w1 (by omega)
 ·simp only [List.length_map] at h
  have:i=l.length:=by omega
  subst this
  refine zbd [(0,160)] rfl ⟨?_,True.intro⟩ (zbj rfl rfl (by simp))
  rw [zri]
theorem zt7 (bs:ByteArray):∀ n i r,bs.size - i=n→ByteArray.toList.loop bs i r=r.reverse++bs.data.toList.drop i
 | 0,i,r,h=>by
  rw [ByteArray.toList.loop,if_neg (by omega),List.drop_eq_nil_of_le (by simp only [Array.length_toList];have:bs.data.size=bs.size:=rfl;omega),List.append_nil]
 | n+1,i,r,h=>by
  have hlt:i < bs.size:=by omega
  have hlt':i < bs.data.toList.length:=by simpa using hlt
  rw [ByteArray.toList.loop,if_pos hlt,zt7 bs n (i+1) _ (by omega),List.drop_eq_getElem_cons hlt']
  have:bs.get! i=bs.data.toList[i]:=by
   show bs.data[i]! = _
   rw [getElem!_pos bs.data i hlt];simp
  simp [this]
theorem bl_eq (bs:ByteArray):bs.toList=bs.data.toList:=by
 show ByteArray.toList.loop bs 0 []=_
 rw [zt7 bs _ 0 [] rfl];simp
theorem zrh {a b:ByteArray}:a.toList=b.toList ↔ a=b:=by
 constructor
 ·intro h
  rw [bl_eq,bl_eq] at h
  exact ByteArray.ext (Array.ext' h)
 ·intro h;rw [h]
theorem zkg (a b:ByteArray):(a.toList == b.toList)=decide (a=b):=by
 rw [Bool.eq_iff_iff,beq_iff_eq,decide_eq_true_eq,zrh]
def fnan (x:Nat):Bool:=FloatKind.f64.format.order x x != some .eq
abbrev ze8:Nat:=9221120237041090561
theorem zra:fnan ze8=true:=by decide +kernel
def zbs (x:Nat):Nat:=if fnan x then ze8 else x
theorem zhg {a b:Nat}:zbs a=zbs b ↔ (fnan a=true∧fnan b=true)∨a=b:=by
 unfold zbs
 cases ha:fnan a<;>cases hb:fnan b<;>simp
 ·constructor
  ·intro e;subst e;rw [zra] at ha;cases ha
  ·intro e;subst e;rw [ha] at hb;cases hb
 ·constructor
  ·intro e;subst e;rw [zra] at hb;cases hb
  ·intro e;subst e;rw [ha] at hb;cases hb
abbrev VVal.nrm (v:VVal):VVal:=⟨v.kind,zbs v.num,v.text⟩
abbrev VCmd.nrm (c:VCmd):VCmd:=⟨c.kind,c.key,c.old.nrm,c.val.nrm⟩
abbrev VCall.nrm (c:VCall):VCall:=⟨c.client,c.seq,c.cmd.nrm⟩
abbrev Ent.nrm (x:Ent):Ent:=⟨x.term,x.kind,x.call.nrm,x.conf⟩
theorem c_Float (a b:Nat):Ctr Tryz.prog 223 [.sc (.float .f64 a),.sc (.float .f64 b)] (bv (decide (zbs a=zbs b))) []:=by
 refine sBody Tryz.func223 ?_;conv=>whnf
 (refine tSp (fun h=>?_) (fun h=>?_)<;>conv=>whnf)
 ·have ha:fnan a=true:=h
  (refine tSp (fun h=>?_) (fun h=>?_)<;>conv=>whnf)
  ·have hb:fnan b=true:=h
   exact zab rfl (by rw [decide_eq_true (zhg.2 (.inl ⟨ha,hb⟩))])
  ·have hb:fnan b=false:=h
   ((try (refine Exists.intro none ?_;conv=>whnf));(with_reducible refine zaa (ze2 a) ?_);conv=>whnf)
   ((try (refine Exists.intro none ?_;conv=>whnf));(with_reducible refine zaa (ze2 b) ?_);conv=>whnf)
   refine zab rfl ?_
   have e:(zbs a=zbs b) ↔ ((a:Int)=(b:Int)):=by rw [zhg,hb];simp;omega
   show bv ((a:Int) == (b:Int))=_
   rw [decide_eq_decide.2 e];rfl
 ·have ha:fnan a=false:=h
  ((try (refine Exists.intro none ?_;conv=>whnf));(with_reducible refine zaa (ze2 a) ?_);conv=>whnf)
  ((try (refine Exists.intro none ?_;conv=>whnf));(with_reducible refine zaa (ze2 b) ?_);conv=>whnf)
  refine zab rfl ?_
  have e:(zbs a=zbs b) ↔ ((a:Int)=(b:Int)):=by rw [zhg,ha];simp;omega
  show bv ((a:Int) == (b:Int))=_
  rw [decide_eq_decide.2 e];rfl
theorem VVal.nrm_eq {a b:VVal}:a.nrm=b.nrm ↔ a.kind=b.kind∧zbs a.num=zbs b.num∧a.text=b.text:=by
 cases a;cases b;simp [VVal.nrm]
theorem VVal.nrm_dec (a b:VVal):decide (a.nrm=b.nrm)=decide (a.kind=b.kind∧zbs a.num=zbs b.num∧a.text=b.text):=decide_eq_decide.2 VVal.nrm_eq
theorem VCmd.nrm_eq {a b:VCmd}:a.nrm=b.nrm ↔ a.kind=b.kind∧a.key=b.key∧a.old.nrm=b.old.nrm∧a.val.nrm=b.val.nrm:=by
 cases a;cases b;simp [VCmd.nrm]
theorem VCmd.nrm_dec (a b:VCmd):decide (a.nrm=b.nrm)=decide (a.kind=b.kind∧a.key=b.key∧a.old.nrm=b.old.nrm∧a.val.nrm=b.val.nrm):=decide_eq_decide.2 VCmd.nrm_eq
theorem VCall.nrm_eq {a b:VCall}:a.nrm=b.nrm ↔ a.client=b.client∧a.seq=b.seq∧a.cmd.nrm=b.cmd.nrm:=by
 cases a;cases b;simp [VCall.nrm]
theorem VCall.nrm_dec (a b:VCall):decide (a.nrm=b.nrm)=decide (a.client=b.client∧a.seq=b.seq∧a.cmd.nrm=b.cmd.nrm):=decide_eq_decide.2 VCall.nrm_eq
theorem Ent.nrm_eq {a b:Ent}:a.nrm=b.nrm ↔ a.term=b.term∧a.kind=b.kind∧a.call.nrm=b.call.nrm∧a.conf=b.conf:=by
 cases a;cases b;simp [Ent.nrm]
theorem Ent.nrm_dec (a b:Ent):decide (a.nrm=b.nrm)=decide (a.term=b.term∧a.kind=b.kind∧a.call.nrm=b.call.nrm∧a.conf=b.conf):=decide_eq_decide.2 Ent.nrm_eq
theorem zq2 (a b:VVal):Ctr Tryz.prog 213 [.ag a.enc,.ag b.enc] (bv (decide (a.nrm=b.nrm))) []:=by
 rw [VVal.nrm_dec]
 refine sBody Tryz.func213 ?_;conv=>whnf
 repeat' (first | (refine tSp (fun h=>?_) (fun h=>?_)<;>conv=>whnf) | ((try (refine Exists.intro none ?_;conv=>whnf));(with_reducible refine zaa (c_Float a.num b.num) ?_);conv=>whnf))
 all_goals (refine zab rfl ?_)
 all_goals simp_all [zrh,zkg]
theorem c_kCmd (a b:VCmd):Ctr Tryz.prog 193 [.ag a.enc,.ag b.enc] (bv (decide (a.nrm=b.nrm))) []:=by
 rw [VCmd.nrm_dec]
 refine sBody Tryz.func193 ?_;conv=>whnf
 repeat' (first | (refine tSp (fun h=>?_) (fun h=>?_)<;>conv=>whnf) | ((try ((refine Exists.intro none ?_);(conv=>whnf)));first | ((with_reducible refine zaa (zq2 a.old b.old) ?_);conv=>whnf) | ((with_reducible refine zaa (zq2 a.val b.val) ?_);conv=>whnf)))
 all_goals (refine zab rfl ?_)
 all_goals simp_all [zrh,zkg]
theorem c_kCall (a b:VCall):Ctr Tryz.prog 136 [.ag a.enc,.ag b.enc] (bv (decide (a.nrm=b.nrm))) []:=by
 rw [VCall.nrm_dec]
 refine sBody Tryz.func136 ?_;conv=>whnf
 repeat' (first | (refine tSp (fun h=>?_) (fun h=>?_)<;>conv=>whnf) | ((try (refine Exists.intro none ?_;conv=>whnf));(with_reducible refine zaa (c_kCmd a.cmd b.cmd) ?_);conv=>whnf))
 all_goals (refine zab rfl ?_)
 all_goals simp_all
theorem c_IsNaN (x:Nat):Ctr Tryz.prog 224 [.sc (.float .f64 x)] (bv (fnan x)) []:=by
 refine sBody Tryz.func224 ?_;conv=>whnf
 exact zab rfl rfl
theorem zk6 (x:Nat) (h:x < 18446744073709551616):Ctr Tryz.prog 230 [.sc (.int .u64 x)] (.sc (.float .f64 x)) []:=by
 refine zk1 (e:=Go.Extern.MathFloatBits.float64frombits) Tryz.func230 (by kernel_rfl) (by kernel_rfl) (by kernel_rfl) (by kernel_rfl) ?_
 intro w M vs hv
 simp only [RVL,RV] at hv
 obtain ⟨c,r,rfl,rfl,rfl⟩:=hv
 rfl
theorem c_nan:Ctr Tryz.prog 225 [] (.sc (.float .f64 ze8)) []:=by
 have h:=zk6 ze8 (by decide)
 refine sBody Tryz.func225 ?_;conv=>whnf
 ((try (refine Exists.intro none ?_;conv=>whnf));(with_reducible refine zaa (h) ?_);conv=>whnf)
 exact zab rfl rfl
theorem zpm (x:Nat):Ctr Tryz.prog 215 [.sc (.float .f64 x)] (.sc (.float .f64 (zbs x))) []:=by
 refine sBody Tryz.func215 ?_;conv=>whnf
 ((try (refine Exists.intro none ?_;conv=>whnf));(with_reducible refine zaa (c_IsNaN x) ?_);conv=>whnf)
 (refine tSp (fun h=>?_) (fun h=>?_)<;>conv=>whnf)
 ·((try (refine Exists.intro none ?_;conv=>whnf));(with_reducible refine zaa (c_nan) ?_);conv=>whnf)
  exact zab rfl (by simp [zbs,h])
 ·exact zab rfl (by simp [zbs,h])
theorem c_nSame (a b:Nat):Ctr Tryz.prog 194 [.sc (.float .f64 a),.sc (.float .f64 b)] (bv (decide (zbs a=zbs b))) []:=by
 refine sBody Tryz.func194 ?_;conv=>whnf
 ((try (refine Exists.intro none ?_;conv=>whnf));(with_reducible refine zaa (zpm a) ?_);conv=>whnf)
 ((try (refine Exists.intro none ?_;conv=>whnf));(with_reducible refine zaa (ze2 (zbs a)) ?_);conv=>whnf)
 ((try (refine Exists.intro none ?_;conv=>whnf));(with_reducible refine zaa (zpm b) ?_);conv=>whnf)
 ((try (refine Exists.intro none ?_;conv=>whnf));(with_reducible refine zaa (ze2 (zbs b)) ?_);conv=>whnf)
 refine zab rfl ?_
 show bv ((zbs a:Int) == (zbs b:Int))=_
 have e:(zbs a=zbs b) ↔ ((zbs a:Int)=(zbs b:Int)):=by omega
 rw [decide_eq_decide.2 e];rfl
noncomputable def zh3 (v:VVal):Int :=
 if v.kind < 0∨2 < v.kind then 15 else
 if v.kind=2∧32 < (v.text.size:Int) then 2 else
 if (v.kind ≠ 2∧v.text ≠ bz)∨(v.kind ≠ 1∧v.num ≠ 0) then 8 else
 if fnan v.num=true∧v.num ≠ ze8 then 8 else 0
theorem fnan0:fnan 0=false:=by decide +kernel
theorem zld (x:Nat):zbs x=zbs 0 ↔ x=0:=by
 rw [zhg,fnan0];simp
theorem zul (x:Nat):zbs x=x ↔ ¬ (fnan x=true∧x ≠ ze8):=by
 unfold zbs
 cases h:fnan x
 ·simp
 ·simp only [if_true,true_and,ne_eq,Classical.not_not];exact ⟨Eq.symm,Eq.symm⟩
theorem zit (a:ByteArray):a.toList=[] ↔ a=bz:=by
 have h:(bz:ByteArray).toList=[]:=by rw [bl_eq]
 rw [← h,zrh]
theorem zmc (x:Nat):Ctr Tryz.prog 194 [.sc (.float .f64 x),.sc (.float .f64 0)] (bv (decide (x=0))) []:=by
 have hs:=c_nSame x 0
 rwa [decide_eq_decide.2 (zld x)] at hs
theorem zrm (x:Nat):(x:Int)=9221120237041090561 ↔ x=ze8:=by
 unfold ze8;omega
theorem zz1 (x:Nat):Ctr Tryz.prog 226 [.sc (.float .f64 x)] (bv (decide (x=0))) []:=by
 refine sBody Tryz.func226 ?_;conv=>whnf
 ((try (refine Exists.intro none ?_;conv=>whnf));(with_reducible refine zaa (ze2 x) ?_);conv=>whnf)
 refine zab rfl ?_
 show bv ((x:Int) == 0)=_
 have e:(x=0) ↔ ((x:Int)=0):=by omega
 rw [decide_eq_decide.2 e];rfl
theorem c_rNaN:Ctr Tryz.prog 227 [] (.sc (.float .f64 ze8)) []:=by
 have h:=zk6 ze8 (by decide)
 refine sBody Tryz.func227 ?_;conv=>whnf
 ((try (refine Exists.intro none ?_;conv=>whnf));(with_reducible refine zaa (h) ?_);conv=>whnf)
 exact zab rfl rfl
theorem zhl (v:VVal):Ctr Tryz.prog 218 [.ag v.enc] (iv (zh3 v)) []:=by
 refine sBody Tryz.func218 ?_;conv=>whnf
 repeat' (first | (refine tSp (fun h=>?_) (fun h=>?_)<;>conv=>whnf) | ((try ((refine Exists.intro none ?_);(conv=>whnf)));first | ((with_reducible refine zaa (zz1 v.num) ?_);conv=>whnf) | ((with_reducible refine zaa (ze2 v.num) ?_);conv=>whnf) | ((with_reducible refine zaa (c_rNaN) ?_);conv=>whnf) | ((with_reducible refine zaa (ze2 ze8) ?_);conv=>whnf)))
 all_goals (refine zab rfl (congrArg (fun n:Int=>iv n) ?_))
 all_goals (unfold zh3)
 all_goals (try simp only [zkg,decide_eq_true_eq,decide_eq_false_iff_not,fnan] at *)
 all_goals (try simp_all [zit,zrm])
 all_goals (try ((repeat' split)<;>first | omega | simp_all [zit,zrm] | skip))
theorem c_canon (x:Nat):Ctr Tryz.prog 221 [.sc (.float .f64 x)] (bv (decide (zbs x=x))) []:=by
 refine sBody Tryz.func221 ?_;conv=>whnf
 ((try (refine Exists.intro none ?_;conv=>whnf));(with_reducible refine zaa (zpm x) ?_);conv=>whnf)
 ((try (refine Exists.intro none ?_;conv=>whnf));(with_reducible refine zaa (ze2 (zbs x)) ?_);conv=>whnf)
 ((try (refine Exists.intro none ?_;conv=>whnf));(with_reducible refine zaa (ze2 x) ?_);conv=>whnf)
 refine zab rfl ?_
 show bv ((zbs x:Int) == (x:Int))=_
 have e:(zbs x=x) ↔ ((zbs x:Int)=(x:Int)):=by omega
 rw [decide_eq_decide.2 e];rfl
theorem zqn (v:VVal):Ctr Tryz.prog 208 [.ag v.enc] (iv (zh3 v)) []:=by
 have f0:=fnan0
 refine sBody Tryz.func208 ?_;conv=>whnf
 repeat' (first | (refine tSp (fun h=>?_) (fun h=>?_)<;>conv=>whnf) | ((try ((refine Exists.intro none ?_);(conv=>whnf)));first | ((with_reducible refine zaa (zmc v.num) ?_);conv=>whnf) | ((with_reducible refine zaa (c_canon v.num) ?_);conv=>whnf)))
 all_goals (refine zab rfl (congrArg (fun n:Int=>iv n) ?_))
 all_goals (unfold zh3)
 all_goals (try simp only [zkg,zul,decide_eq_true_eq,decide_eq_false_iff_not] at *)
 all_goals (try simp_all [zit])
 all_goals (try ((repeat' split)<;>first | omega | simp_all [zit] | skip))
noncomputable def zeroV (v:VVal):Bool:=decide (v.kind=0∧v.num=0∧v.text=bz)
theorem zi3 (v:VVal):zeroV v=true ↔ v.kind=0∧zh3 v=0:=by
 unfold zeroV zh3
 rw [decide_eq_true_eq]
 have f0:=fnan0
 constructor
 ·rintro ⟨h1,h2,h3⟩
  rw [h1,h2,h3];simp [f0]
 ·rintro ⟨h1,h2⟩
  rw [h1] at h2
  refine ⟨h1,?_⟩
  simp only [show ¬ ((0:Int) < 0∨(2:Int) < 0) by omega,if_false] at h2
  split at h2
  ·omega
  ·split at h2
   ·omega
   ·rename_i _ h3
    have h3':¬ ((0:Int) ≠ 2∧v.text ≠ bz)∧¬ ((0:Int) ≠ 1∧v.num ≠ 0):=⟨fun h=>h3 (.inl h),fun h=>h3 (.inr h)⟩
    simp at h3'
    exact ⟨h3'.2,h3'.1⟩
theorem c_zero (v:VVal):Ctr Tryz.prog 217 [.ag v.enc] (bv (zeroV v)) []:=by
 refine sBody Tryz.func217 ?_;conv=>whnf
 (refine tSp (fun h=>?_) (fun h=>?_)<;>conv=>whnf)
 ·((try (refine Exists.intro none ?_;conv=>whnf));(with_reducible refine zaa (zhl v) ?_);conv=>whnf)
  refine zab rfl (congrArg (fun b:Bool=>bv b) ?_)
  rw [Bool.eq_iff_iff,zi3,beq_iff_eq]
  simp [h]
 ·exact zab rfl (by simp [zeroV,h])
theorem c_none (v:VVal):Ctr Tryz.prog 209 [.ag v.enc] (bv (zeroV v)) []:=by
 refine sBody Tryz.func209 ?_;conv=>whnf
 repeat' (first | (refine tSp (fun h=>?_) (fun h=>?_)<;>conv=>whnf) | ((try (refine Exists.intro none ?_;conv=>whnf));(with_reducible refine zaa (zmc v.num) ?_);conv=>whnf))
 all_goals (refine zab rfl (congrArg (fun n:Bool=>bv n) ?_))
 all_goals (unfold zeroV)
 all_goals (try simp only [zkg,decide_eq_true_eq,decide_eq_false_iff_not] at *)
 all_goals (simp_all [zit])
theorem zne (v:VVal):Ctr Tryz.prog 220 [.ag v.enc] (bv (zeroV v)) []:=by
 refine sBody Tryz.func220 ?_;conv=>whnf
 repeat' (first | (refine tSp (fun h=>?_) (fun h=>?_)<;>conv=>whnf) | ((try (refine Exists.intro none ?_;conv=>whnf));(with_reducible refine zaa (zmc v.num) ?_);conv=>whnf))
 all_goals (refine zab rfl (congrArg (fun n:Bool=>bv n) ?_))
 all_goals (unfold zeroV)
 all_goals (try simp only [zkg,decide_eq_true_eq,decide_eq_false_iff_not] at *)
 all_goals (simp_all [zit])
noncomputable def cmdR (c:VCmd):Int :=
 if c.kind < 1∨6 < c.kind then 15 else
 if 8 < (c.key.size:Int) then 2 else
 if (c.key.size:Int) < 1∨(c.kind ≠ 4∧zeroV c.old=false)∨zh3 c.old ≠ 0∨zh3 c.val ≠ 0 then 8 else
 if c.kind=1∨c.kind=3 then (if zeroV c.val then 0 else 8) else
 if c.kind=2 then (if c.val.kind=0 then 8 else 0) else
 if c.kind=5∨c.kind=6 then (if c.val.kind=1 then 0 else 8) else 0
set_option maxHeartbeats 2000000 in
theorem c_rCmd (c:VCmd):Ctr Tryz.prog 201 [.ag c.enc] (iv (cmdR c)) []:=by
 refine sBody Tryz.func201 ?_;conv=>whnf
 repeat' (first | (refine tSp (fun h=>?_) (fun h=>?_)<;>conv=>whnf) | ((try ((refine Exists.intro none ?_);(conv=>whnf)));first | ((with_reducible refine zaa (c_zero c.old) ?_);conv=>whnf) | ((with_reducible refine zaa (c_zero c.val) ?_);conv=>whnf) | ((with_reducible refine zaa (zhl c.old) ?_);conv=>whnf) | ((with_reducible refine zaa (zhl c.val) ?_);conv=>whnf)))
 all_goals (refine zab rfl (congrArg (fun n:Int=>iv n) ?_))
 all_goals (unfold cmdR)
 all_goals (try simp_all)
 all_goals (try ((repeat' split)<;>first | omega | simp_all | skip))
theorem ztd (s:ByteArray):Ctr Tryz.prog 207 [sv s] (bv (decide (1≤(s.size:Int)∧(s.size:Int)≤8))) []:=by
 refine sBody Tryz.func207 ?_;conv=>whnf
 repeat' (refine tSp (fun h=>?_) (fun h=>?_)<;>conv=>whnf)
 all_goals (refine zab rfl (congrArg (fun n:Bool=>bv n) ?_))
 all_goals simp_all
 all_goals omega
set_option maxHeartbeats 2000000 in
theorem zwe (c:VCmd):Ctr Tryz.prog 184 [.ag c.enc] (iv (cmdR c)) []:=by
 have z1:=zi3 c.old
 have z2:=zi3 c.val
 refine sBody Tryz.func184 ?_;conv=>whnf
 repeat' (first | (refine tSp (fun h=>?_) (fun h=>?_)<;>conv=>whnf) | ((try ((refine Exists.intro none ?_);(conv=>whnf)));first | ((with_reducible refine zaa (ztd c.key) ?_);conv=>whnf) | ((with_reducible refine zaa (c_none c.old) ?_);conv=>whnf) | ((with_reducible refine zaa (c_none c.val) ?_);conv=>whnf) | ((with_reducible refine zaa (zqn c.old) ?_);conv=>whnf) | ((with_reducible refine zaa (zqn c.val) ?_);conv=>whnf)))
 all_goals (refine zab rfl (congrArg (fun n:Int=>iv n) ?_))
 all_goals (unfold cmdR)
 all_goals (try simp_all)
 all_goals (try ((repeat' split)<;>first | omega | simp_all | skip))
end Go.Proofs
namespace Go.Pv
structure ExitE (c:CSt) (p r:PV) (bx':List (Nat×List PV)) (ob':List (Nat×Option (Bool×Nat×List (List PV)))):Prop where
 ok:Wk ⟨[p],c.bx,c.ob⟩ ⟨[r],bx',ob'⟩
theorem zae {c:CSt}{p r:PV}{bx':List (Nat×List PV)}{ob':List (Nat×Option (Bool×Nat×List (List PV)))} (rn:List (Nat×Nat)) (fz:List (Nat×Bool×Nat×List (List PV))) (h:wkK rn fz ⟨[p],c.bx,c.ob⟩ [r] bx' ob'):ExitE c p r bx' ob':=⟨zc1 h⟩
def zwy (P:Program) (rs:List ResultVar) (r:PV) (bx':List (Nat×List PV)) (ob':List (Nat×Option (Bool×Nat×List (List PV)))) (e:Exit) (c:CSt):Prop :=
 match e with
 | .ret=>zfc P c rs fun p=>ExitE c p r bx' ob'
 | .normal=>zfc P c rs fun p=>ExitE c p r bx' ob'
 | _=>False
theorem ze1 {P : Program} {fn : Func} {w0 : World} {X : Nat → Prop} {S0 : Base} {M : Mem} {c : CSt} {a : Act} {w : World} {r : PV} {bx' : List (Nat × List PV)} {ob' : List (Nat × Option (Bool × Nat × List (List PV)))} (hr : Rel w0 X S0 M c.st a w) (h : zfc P c fn.results.toList fun p => ExitE c p r bx' ob') :
    ∃ v,(results fn a.tmps).run P w=.ok v w∧∃ M',RV M' w r v∧HRel w0 X S0 M' (lkA bx') (lkA ob') w:=by
 unfold zfc at h
 obtain ⟨F,hF,hF1,hF2⟩:∃ F:ResultVar→Sem Value,results fn a.tmps=(do let vs ← fn.results.mapM F;pure (if h:vs.size=1 then vs[0] else .tuple vs))∧(∀ t,F (.tmp t)=pure (a.tmps.getD t undef))∧(∀ ad t,F (.cell ad t)=do loadVar t (← asAddr (a.tmps.getD ad undef))):=⟨_,rfl,fun _=>rfl,fun _ _=>rfl⟩
 obtain ⟨ps,vs,h1,h2,h3⟩:=zdn hr F hF1 hF2 h
 have hlen:=h1.length
 have hres:(results fn a.tmps).run P w=.ok (if h:vs.length=1 then vs[0] else .tuple vs.toArray) w:=by
  rw [hF,Array.mapM_eq_mapM_toList]
  simp only [Sem.run_bind,Sem.run_map,h2]
  simp
 have fin:∀ p,ExitE c p r bx' ob'→∀ v,RV M w p v→∃ M',RV M' w r v∧HRel w0 X S0 M' (lkA bx') (lkA ob') w:=by
  rintro p ⟨hk⟩ v hv
  obtain ⟨M',hr'⟩:=hk w0 X S0 M { tmps:=#[v],defers:=[] } w ⟨hr.toHRel,rfl,rfl,fun t=>by
   cases t with
   | zero=>exact hv
   | succ t=>simp [CSt.st,RV]⟩
  exact ⟨M',hr'.tmp 0,hr'.toHRel⟩
 split at h3
 ·rename_i p
  simp only [RVL] at h1
  obtain ⟨v,rr,rfl,h4,rfl⟩:=h1
  refine ⟨v,by rw [hres];simp,fin p h3 v h4⟩
 ·rename_i ps hne
  have hl1:vs.length ≠ 1:=by
   rw [hlen]
   intro e
   obtain ⟨p,rfl⟩:=List.length_eq_one_iff.1 e
   exact hne p rfl
  refine ⟨.tuple vs.toArray,by rw [hres,dif_neg hl1],fin _ h3 _ ?_⟩
  simp only [RV]
  exact ⟨vs.toArray,rfl,by simpa using h1⟩
theorem zl5 {P : Program} (hm : P.follows .mixedOrders = true) {f : Nat} {fn : Func} {code : Code} {args : List PV} {r : PV} {bx bx' : List (Nat × List PV)} {ob ob' : List (Nat × Option (Bool × Nat × List (List PV)))} (hf : P.funcs[f]? = some fn) (hb : fn.body = some code) (hname : (fn.name == "runtime.NumGoroutine") = false) (hok : zb8 code = true)
    (h:pwp P code ⟨args++List.replicate (fn.ntmps - args.length) .bad,bx,ob⟩ (zwy P fn.results.toList r bx' ob')):CtrE P f args bx ob r bx' ob':=by
 refine ⟨?_⟩
 intro w X M vs h0 hvs
 left
 refine ⟨by simp [callFunc,hf,hb];simpa using hname,?_⟩
 refine calls_of_wp hf hb ?_
 have hlen:=hvs.length
 have hrel:Rel w X (zhc M) M (CSt.st ⟨args++List.replicate (fn.ntmps - args.length) .bad,bx,ob⟩) { tmps:=vs.toArray++Array.replicate (fn.ntmps - vs.toArray.size) undef,defers:=[] } w:=by
  refine ⟨h0,rfl,?_,?_⟩
  ·simp [CSt.st,hlen]
  ·intro t
   simp only [CSt.st]
   rw [List.getD_eq_getElem?_getD,Array.getD_eq_getD_getElem?,List.getElem?_append,Array.getElem?_append]
   by_cases ht:t < args.length
   ·rw [if_pos ht,if_pos (by simp;omega)]
    obtain ⟨c,hc,hv⟩:=hvs.get t (p:=args[t]) (by simp [ht])
    simp [ht,hc]
    exact hv
   ·rw [if_neg ht]
    rw [List.getElem?_replicate]
    split<;>simp [RV]
 refine wp_mono ((zb9 hm code _ _ hok h).run w X (zhc M) M _ w hrel) ?_
 rintro e a' w' ⟨c',M',hr',hq⟩
 cases e with
 | ret =>
  obtain ⟨v,h1,M'',h2,h3⟩:=ze1 (fn:=fn) hr' hq
  exact ⟨hr'.dfr,v,h1,v,M'',rfl,h2,h3⟩
 | normal =>
  obtain ⟨v,h1,M'',h2,h3⟩:=ze1 (fn:=fn) hr' hq
  exact ⟨hr'.dfr,v,h1,v,M'',rfl,h2,h3⟩
 | exit i=>exact hq.elim
 | goto i=>exact hq.elim
 | panic ch=>exact hq.elim
 | outgrown=>exact hq.elim
theorem zam {P:Program}{f:Nat}{qs:List PV}{r:PV}{bx bx':List (Nat×List PV)}{ob ob':List (Nat×Option (Bool×Nat×List (List PV)))}{K:PV→List (Nat×List PV)→List (Nat×Option (Bool×Nat×List (List PV)))→Prop} (h:CtrE P f qs bx ob r bx' ob') (k:K r bx' ob'):∃ r bx' ob',CtrE P f qs bx ob r bx' ob'∧K r bx' ob':=⟨r,bx',ob',h,k⟩
theorem za1 {P : Program} {f : Nat} {fn : Func} {code : Code} {args : List PV} {r : PV} {bx bx' : List (Nat × List PV)} {ob ob' : List (Nat × Option (Bool × Nat × List (List PV)))} (hf : P.funcs[f]? = some fn)
    (h:pwp P code ⟨args++List.replicate (fn.ntmps - args.length) .bad,bx,ob⟩ (zwy P fn.results.toList r bx' ob')) (hb:fn.body=some code:=by exact rfl) (hm:P.follows .mixedOrders=true:=by exact mixed) (hname:(fn.name == "runtime.NumGoroutine")=false:=by kernel_rfl) (hok:zb8 code=true:=by kernel_rfl):CtrE P f args bx ob r bx' ob':=zl5 hm hf hb hname hok h
end Go.Pv
namespace Go.Proofs
open Go.Pv
set_option maxRecDepth 100000
noncomputable def dec (p:Prop):Bool:=@decide p (Classical.propDecidable p)
theorem zec {p:Prop} (h:p):dec p=true:=by unfold dec;simp [h]
theorem zis {p:Prop} (h:¬ p):dec p=false:=by unfold dec;simp [h]
end Go.Proofs
