import Derived.Test.YtbhfokahocgndabGreatC1
import Derived.Test.YtbhfokahocgndabGreatH2
import Derived.Test.YtbhfokahocgndabGreatC5
import Derived.Test.YtbhfokahocgndabGreatPvV4
import Derived.Test.YtbhfokahocgndabGreatC47
/- Contracts of functions: an entry is put into a leader's log. -/
set_option linter.unusedSimpArgs false
set_option linter.unusedVariables false
namespace Go.Proofs
open Go.Pv
set_option maxRecDepth 100000
abbrev logR (r:Rft) (x:Ent):Hrd:={ r.hard with log:=r.hard.log++[x] }
noncomputable def addR (r:Rft) (x:Ent):Rft:={ r with hard:=logR r x,mtch:=r.mtch.put r.id.toNat (lastI (logR r x)),commit:=zdh (logR r x) r.commit (r.mtch.put r.id.toNat (lastI (logR r x))) }
abbrev repL (x:Rft) (k:Nat) (out:List (List PV)):List PV:=repV x (snW x 1000000) (lgW x k) (rdW x 1000002) (.ow 1000003 0 out.length)
abbrev obL (x:Rft) (k:Nat) (out:List (List PV)):List (Nat×Option (Bool×Nat×List (List PV))):=[(1000000,snO x),(1000001,none),(1000002,rdO x),(1000003,some (false,16,out)),(k,lgO x)]
theorem zcm {i:Int} (h:0≤i∧i < 7):i.toNat=0∨i.toNat=1∨i.toNat=2∨i.toNat=3∨i.toNat=4∨i.toNat=5∨i.toNat=6:=by omega
set_option maxHeartbeats 8000000 in
theorem c_add (r : Rft) (hid : 0 ≤ r.id ∧ r.id < 7) (hm : r.hard.log.length ≤ 4294967) (hb : 0 ≤ r.hard.base) (hs : r.hard.base ≤ 1099511627776) (out : List (List PV)) (x : Ent) :
    CtrE Tryz.prog 139 [.pt 1000000 0,.ag x.enc] [(1000000,repI r out)] (obI r out) (iv (lastI (logR r x))) [(1000000,repL (addR r x) 1 out)] (obL (addR r x) 1 out):=by
 have hmap:(logR r x).log.map Ent.enc=r.hard.log.map Ent.enc++[x.enc]:=by rw [List.map_append];rfl
 have hlen:(logR r x).log.length=r.hard.log.length+1:=by rw [List.length_append];rfl
 have kl:=zd4 (logR r x) (zak (by omega))
 have kc:=fun m:Arr=>zrb (logR r x) (zak (by omega)) hb (by show r.hard.base+((logR r x).log.length:Int) < _;omega) r.commit m
 have b1:((r.hard.log.map Ent.enc).length+1) * 152≤140737488355328:=by rw [List.length_map];omega
 have b2:(r.hard.log.map Ent.enc).length+1≤maxLen:=zak (by rw [List.length_map];omega)
 unfold addR
 generalize hh:logR r x=H at *
 have e1:H.term=r.hard.term:=by rw [← hh]
 have e2:H.vote=r.hard.vote:=by rw [← hh]
 have e3:H.base=r.hard.base:=by rw [← hh]
 have e4:H.baseTerm=r.hard.baseTerm:=by rw [← hh]
 have e5:H.baseConf=r.hard.baseConf:=by rw [← hh]
 have e6:H.snap=r.hard.snap:=by rw [← hh]
 refine zbe mixed Tryz.func139 rfl (by kernel_rfl) (by kernel_rfl) ?_
 refine tSeq ?_
 conv=>whnf
 refine tCut (fun _:Unit=>True) (fun _=>[]) (fun _=>[(1000000,repL { r with hard:=H } 2000 out),(3,x.enc)]) (fun _=>obL { r with hard:=H } 2000 out) ?_ ?_
 ·conv=>whnf
  (refine And.intro rfl ?_;(conv=>whnf);refine And.intro (And.intro (And.intro (by kernel_rfl) (And.intro (Nat.le_refl _) (And.intro (b1) (And.intro (b2) (by intro r hr;rw [List.mem_singleton.1 hr];rfl))))) (And.intro (by decide) rfl)) ?_;conv=>whnf)
  refine ⟨(),[(1000000,1000000),(1000001,1000001),(1000002,1000002),(1000003,1000003),(2000,256)],trivial,?_⟩
  conv=>whnf
  (refine wkx ?_;refine ⟨?_,?_,?_⟩<;>(conv=>whnf)<;>repeat' first | exact wkc | (with_reducible refine And.intro ?_ ?_)<;>first | exact wks | refine wko ?_ | refine wki ?_ | refine wkb ?_ | (refine zan ?_;conv=>whnf) | (refine zah ?_;conv=>whnf) | (refine zag ?_;conv=>whnf) | conv=>whnf)
  all_goals first | rfl | (rw [e1];done) | (rw [e2];done) | (rw [e3];done) | (rw [e4];done) | (rw [e5];done) | (rw [e6];done) | (rw [hmap];done) | (rw [hmap];exact List.length_append.symm) | (refine zaz (by kernel_rfl) ?_;rw [hmap,List.take_of_length_le (Nat.le_refl _)];done) | (refine zaz (by kernel_rfl) ?_;rw [hmap,List.take_of_length_le (Nat.le_refl _)];rfl) | trace_state
 rintro _ _
 refine pwS ?_
 conv=>whnf
 ((try (refine Exists.intro none ?_;conv=>whnf));refine tOwn0 ?_;conv=>whnf)
 ((try (refine Exists.intro none ?_;conv=>whnf));refine tOwn0 ?_;conv=>whnf)
 ((try ((refine Exists.intro none ?_);(conv=>whnf)));first | (refine zai (kl) (by simp only [List.drop_zero,List.take_length]) ?_;conv=>whnf))
 refine ⟨⟨hid.1,hid.2⟩,?_⟩
 rcases zcm hid with e | e | e | e | e | e | e
 ·rw [e]
  conv=>whnf
  ((try (refine Exists.intro none ?_;conv=>whnf));refine tOwn0 ?_;conv=>whnf)
  ((try (refine Exists.intro none ?_;conv=>whnf));refine tOwn0 ?_;conv=>whnf)
  ((try ((refine Exists.intro none ?_);(conv=>whnf)));first | (refine zai (kc ⟨lastI H,r.mtch.a1,r.mtch.a2,r.mtch.a3,r.mtch.a4,r.mtch.a5,r.mtch.a6⟩) (by simp only [List.drop_zero,List.take_length]) ?_;conv=>whnf))
  (refine zae [(1000000,1000000),(1000001,1000001),(1000002,1000002),(1000003,1000003),(1,2000)] [] ?_;(conv=>whnf);exact wkD)
 ·rw [e]
  conv=>whnf
  ((try (refine Exists.intro none ?_;conv=>whnf));refine tOwn0 ?_;conv=>whnf)
  ((try (refine Exists.intro none ?_;conv=>whnf));refine tOwn0 ?_;conv=>whnf)
  ((try ((refine Exists.intro none ?_);(conv=>whnf)));first | (refine zai (kc ⟨r.mtch.a0,lastI H,r.mtch.a2,r.mtch.a3,r.mtch.a4,r.mtch.a5,r.mtch.a6⟩) (by simp only [List.drop_zero,List.take_length]) ?_;conv=>whnf))
  (refine zae [(1000000,1000000),(1000001,1000001),(1000002,1000002),(1000003,1000003),(1,2000)] [] ?_;(conv=>whnf);exact wkD)
 ·rw [e]
  conv=>whnf
  ((try (refine Exists.intro none ?_;conv=>whnf));refine tOwn0 ?_;conv=>whnf)
  ((try (refine Exists.intro none ?_;conv=>whnf));refine tOwn0 ?_;conv=>whnf)
  ((try ((refine Exists.intro none ?_);(conv=>whnf)));first | (refine zai (kc ⟨r.mtch.a0,r.mtch.a1,lastI H,r.mtch.a3,r.mtch.a4,r.mtch.a5,r.mtch.a6⟩) (by simp only [List.drop_zero,List.take_length]) ?_;conv=>whnf))
  (refine zae [(1000000,1000000),(1000001,1000001),(1000002,1000002),(1000003,1000003),(1,2000)] [] ?_;(conv=>whnf);exact wkD)
 ·rw [e]
  conv=>whnf
  ((try (refine Exists.intro none ?_;conv=>whnf));refine tOwn0 ?_;conv=>whnf)
  ((try (refine Exists.intro none ?_;conv=>whnf));refine tOwn0 ?_;conv=>whnf)
  ((try ((refine Exists.intro none ?_);(conv=>whnf)));first | (refine zai (kc ⟨r.mtch.a0,r.mtch.a1,r.mtch.a2,lastI H,r.mtch.a4,r.mtch.a5,r.mtch.a6⟩) (by simp only [List.drop_zero,List.take_length]) ?_;conv=>whnf))
  (refine zae [(1000000,1000000),(1000001,1000001),(1000002,1000002),(1000003,1000003),(1,2000)] [] ?_;(conv=>whnf);exact wkD)
 ·rw [e]
  conv=>whnf
  ((try (refine Exists.intro none ?_;conv=>whnf));refine tOwn0 ?_;conv=>whnf)
  ((try (refine Exists.intro none ?_;conv=>whnf));refine tOwn0 ?_;conv=>whnf)
  ((try ((refine Exists.intro none ?_);(conv=>whnf)));first | (refine zai (kc ⟨r.mtch.a0,r.mtch.a1,r.mtch.a2,r.mtch.a3,lastI H,r.mtch.a5,r.mtch.a6⟩) (by simp only [List.drop_zero,List.take_length]) ?_;conv=>whnf))
  (refine zae [(1000000,1000000),(1000001,1000001),(1000002,1000002),(1000003,1000003),(1,2000)] [] ?_;(conv=>whnf);exact wkD)
 ·rw [e]
  conv=>whnf
  ((try (refine Exists.intro none ?_;conv=>whnf));refine tOwn0 ?_;conv=>whnf)
  ((try (refine Exists.intro none ?_;conv=>whnf));refine tOwn0 ?_;conv=>whnf)
  ((try ((refine Exists.intro none ?_);(conv=>whnf)));first | (refine zai (kc ⟨r.mtch.a0,r.mtch.a1,r.mtch.a2,r.mtch.a3,r.mtch.a4,lastI H,r.mtch.a6⟩) (by simp only [List.drop_zero,List.take_length]) ?_;conv=>whnf))
  (refine zae [(1000000,1000000),(1000001,1000001),(1000002,1000002),(1000003,1000003),(1,2000)] [] ?_;(conv=>whnf);exact wkD)
 ·rw [e]
  conv=>whnf
  ((try (refine Exists.intro none ?_;conv=>whnf));refine tOwn0 ?_;conv=>whnf)
  ((try (refine Exists.intro none ?_;conv=>whnf));refine tOwn0 ?_;conv=>whnf)
  ((try ((refine Exists.intro none ?_);(conv=>whnf)));first | (refine zai (kc ⟨r.mtch.a0,r.mtch.a1,r.mtch.a2,r.mtch.a3,r.mtch.a4,r.mtch.a5,lastI H⟩) (by simp only [List.drop_zero,List.take_length]) ?_;conv=>whnf))
  (refine zae [(1000000,1000000),(1000001,1000001),(1000002,1000002),(1000003,1000003),(1,2000)] [] ?_;(conv=>whnf);exact wkD)
theorem zv1 {e:Int} (he:e ≠ 0) (b:Conf):hitS (cz,e) b=false:=by
 simp [hitS,he]
theorem zpt {x b:Conf} (hb:Cok b):hitS (zev x) b=decide (x=b):=by
 unfold zev
 cases hc:confB x
 ·rw [if_neg (by simp),zv1 (by decide)]
  symm
  apply decide_eq_false
  intro e;subst e
  rw [(zeo x).2 hb] at hc;cases hc
 ·simp [hitS]
theorem zp2 {a b:Conf} (ha:Cok a) (hb:Cok b) {n:Nat} (hn:n < 7):nearI a b n=(zcx a n).any fun x=>decide (x=b):=by
 have one:=ha.one n
 have hw:=ztq ha hn
 have b1:=zip (x:=a.learn) hn
 have b2:=zip (x:=a.lwit) hn
 have bf:=zym (c:=a) hn
 unfold nearI zv6 zqs zvd zcx
 rw [if_pos hw,if_pos hw,if_pos hw,if_pos hw]
 unfold free at bf
 revert one
 cases hf:tb a.full n<;>cases hwt:tb a.wit n<;>cases hl:tb a.learn n<;>cases hx:tb a.lwit n<;>intro one<;>simp [one4] at one<;>(simp only [hl] at b1;simp only [hx] at b2;simp only [hf,hwt,hl,hx] at bf;simp at b1 b2 bf;simp [b1,b2,bf,zpt hb,zv1])<;>exact Bool.or_comm _ _
theorem zm3 (a:Conf) (p:Conf→Bool):∀ n,(zb2 a n).any p=(List.range n).any fun i=>(zcx a i).any p
 | 0=>rfl
 | n+1=>by rw [List.range_succ];simp only [zb2,List.any_append,zm3 a p n];simp
theorem zqu (a b:Conf):nearL a b=nearR a b:=by
 unfold nearL nearR
 cases hA:confB a
 ·rfl
 cases hB:confB b
 ·rfl
 have ha:=(zeo a).1 hA
 have hb:=(zeo b).1 hB
 simp only [Bool.true_and]
 rw [Bool.or_comm,zm3]
 congr 1
 rw [Bool.eq_iff_iff,List.any_eq_true,List.any_eq_true]
 constructor
 ·rintro ⟨i,hi,h⟩;exact ⟨i,hi,by rw [zp2 ha hb (List.mem_range.1 hi)];exact h⟩
 ·rintro ⟨i,hi,h⟩;exact ⟨i,hi,by rw [zp2 ha hb (List.mem_range.1 hi)] at h;exact h⟩
theorem znf {h:Hrd}{i:Int}{s:List Int} (e:compE h i s=0):hardB h=true∧(h.base < i∧i≤lastI h∧i≤1099511627776)∧¬ 16384 < s.length:=by
 unfold compE at e
 by_cases h1:hardB h=true
 ·rw [if_pos h1] at e
  by_cases h2:h.base < i∧i≤lastI h∧i≤1099511627776
  ·rw [if_pos h2] at e
   by_cases h3:16384 < s.length
   ·rw [if_pos h3] at e;omega
   ·exact ⟨h1,h2,h3⟩
  ·rw [if_neg h2] at e;omega
 ·rw [if_neg h1] at e;omega
theorem zuq {h:Hrd}{i t:Int}{c:Conf}{s:List Int} (e:instE h i t c s=0):hardB h=true∧((h.base < i∧i≤1099511627776)∧(1≤t∧t≤h.term∧h.baseTerm≤t))∧confB c=true∧¬ 16384 < s.length:=by
 unfold instE at e
 by_cases h1:hardB h=true
 ·rw [if_pos h1] at e
  by_cases h2:(h.base < i∧i≤1099511627776)∧(1≤t∧t≤h.term∧h.baseTerm≤t)
  ·rw [if_pos h2] at e
   by_cases h3:confB c=true
   ·rw [if_pos h3] at e
    by_cases h4:16384 < s.length
    ·rw [if_pos h4] at e;omega
    ·exact ⟨h1,h2,h3,h4⟩
   ·rw [if_neg h3] at e;omega
  ·rw [if_neg h2] at e;omega
 ·rw [if_neg h1] at e;omega
theorem zwi {h:Hrd}{i t:Int}{c:Conf}{s:List Int}{q:Nat} (hi:i=h.base+q) (hq:q≤h.log.length) (hf:fits h i t=true):instH h i t c s=cutH h q c s:=by
 have ht:zbc h.log h.baseTerm q=t:=by
  unfold fits at hf
  simp only [Bool.and_eq_true,beq_iff_eq] at hf
  rw [← hf.2,zd1 hi hq]
 unfold instH cutH
 rw [hf,if_pos rfl,show (i - h.base).toNat=q by omega,ht,hi]
theorem zx3 {h:Hrd}{i t:Int}{c:Conf}{s:List Int} (hh:hardB h=true) (h1:(h.base < i∧i≤1099511627776)∧(1≤t∧t≤h.term∧h.baseTerm≤t)) (hc:confB c=true) (hs:s.length≤16384):hardB ⟨h.term,h.vote,i,t,c,s,[]⟩=true:=by
 obtain ⟨hA,_,_,_⟩:=za9 hh
 have hb:=hA.b
 unfold hardB
 rw [zec (show HardA ⟨h.term,h.vote,i,t,c,s,[]⟩ from ⟨hA.t,hA.v,by show 0≤i∧i≤_;omega,by show 0≤t∧t≤h.term;omega,by show t=0 ↔ i=0;omega⟩)]
 simp only [hc,Bool.and_true,Bool.true_and,decide_eq_true_eq,rowB]
 exact ⟨hs,.inl (by omega)⟩
end Go.Proofs
