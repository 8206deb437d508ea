import Derived.Test.YtbhfokahocgndabGreatPvQ3
import Derived.Test.YtbhfokahocgndabGreatC57
import Derived.Test.YtbhfokahocgndabGreatY2
import Derived.Test.YtbhfokahocgndabGreatC1
import Derived.Test.YtbhfokahocgndabGreatC12
import Derived.Test.YtbhfokahocgndabGreatC27
import Derived.Test.YtbhfokahocgndabGreatC48
import Derived.Test.YtbhfokahocgndabGreatPvN
/- Contracts of functions: an entry is put into a leader's log. -/
set_option linter.unusedSimpArgs false
set_option linter.unusedVariables false
set_option maxHeartbeats 8000000
namespace Go.Proofs
open Go.Pv
set_option maxRecDepth 100000
abbrev logR (r:Rft) (x:Ent):Hrd:={ r.hard with log:=r.hard.log++[x] }
noncomputable def addR (r:Rft) (x:Ent):Rft:={ r with hard:=logR r x,mtch:=r.mtch.put r.id.toNat (lastI (logR r x)),commit:=zc9 (logR r x) r.commit (r.mtch.put r.id.toNat (lastI (logR r x))) }
abbrev repL (x:Rft) (k:Nat) (out:List (List PV)):List PV:=repV x (snW x 9990) (lgW x k) (rdW x 9992) (.ow 9993 0 out.length)
abbrev obL (x:Rft) (k:Nat) (out:List (List PV)):List (Nat×Option (Bool×Nat×List (List PV))):=[(9990,snO x),(9991,none),(9992,rdO x),(9993,some (false,16,out)),(k,lgO x)]
theorem zct {i:Int} (h:0≤i∧i < 7):i.toNat=0∨i.toNat=1∨i.toNat=2∨i.toNat=3∨i.toNat=4∨i.toNat=5∨i.toNat=6:=by omega
theorem c_add (r : Rft) (hid : 0 ≤ r.id ∧ r.id < 7) (hm : r.hard.log.length ≤ 4294967) (hb : 0 ≤ r.hard.base) (hs : r.hard.base ≤ 1099511627776) (out : List (List PV)) (x : Ent) :
    CtrE Tryz.prog 139 [.pt 9990 0,.ag x.enc] [(9990,repI r out)] (obI r out) (iv (lastI (logR r x))) [(9990,repL (addR r x) 1 out)] (obL (addR r x) 1 out):=by
 have hmap:(logR r x).log.map Ent.enc=r.hard.log.map Ent.enc++[x.enc]:=by rw [List.map_append];rfl
 have hlen:(logR r x).log.length=r.hard.log.length+1:=by rw [List.length_append];rfl
 have kl:=zc1 (logR r x) (zad (by omega))
 have kc:=fun m:Arr=>zu8 (logR r x) (zad (by omega)) hb (by show r.hard.base+((logR r x).log.length:Int) < _;omega) r.commit m
 have b1:((r.hard.log.map Ent.enc).length+1) * 152≤140737488355328:=by rw [List.length_map];omega
 have b2:(r.hard.log.map Ent.enc).length+1≤maxLen:=zad (by rw [List.length_map];omega)
 unfold addR
 generalize hh:logR r x=H at *
 have e1:H.term=r.hard.term:=by rw [← hh]
 have e2:H.vote=r.hard.vote:=by rw [← hh]
 have e3:H.base=r.hard.base:=by rw [← hh]
 have e4:H.baseTerm=r.hard.baseTerm:=by rw [← hh]
 have e5:H.baseConf=r.hard.baseConf:=by rw [← hh]
 have e6:H.snap=r.hard.snap:=by rw [← hh]
 refine zay mixed Tryz.func139 rfl (by kernel_rfl) (by kernel_rfl) ?_
 refine tQ ?_
 refine tCut (fun _:Unit=>True) (fun _=>[]) (fun _=>[(9990,repL { r with hard:=H } 2000 out),(3,x.enc)]) (fun _=>obL { r with hard:=H } 2000 out) ?_ ?_
 ·conv=>whnf
  refine tAB b1 b2 ?_
  refine ⟨(),[(9990,9990),(9991,9991),(9992,9992),(9993,9993),(2000,256)],trivial,?_⟩
  (refine tWK ?_;and_intros<;>try exact ⟨⟩)
  all_goals first | rfl | (rw [e1];done) | (rw [e2];done) | (rw [e3];done) | (rw [e4];done) | (rw [e5];done) | (rw [e6];done) | (rw [hmap];done) | (rw [hmap];exact List.length_append.symm) | (refine zbi (by kernel_rfl) ?_;rw [hmap,List.take_of_length_le (Nat.le_refl _)];done) | (refine zbi (by kernel_rfl) ?_;rw [hmap,List.take_of_length_le (Nat.le_refl _)];rfl) | trace_state
 rintro _ _
 refine tZ ?_
 refine tO ?_
 refine tO ?_
 refine tCE kl ?_
 refine ⟨⟨hid.1,hid.2⟩,?_⟩
 rcases zct hid with e | e | e | e | e | e | e
 ·rw [e]
  refine tO ?_
  refine tO ?_
  refine tCE (kc ⟨lastI H,r.mtch.a1,r.mtch.a2,r.mtch.a3,r.mtch.a4,r.mtch.a5,r.mtch.a6⟩) ?_
  exact eX [(9990,9990),(9991,9991),(9992,9992),(9993,9993),(1,2000)]
 ·rw [e]
  refine tO ?_
  refine tO ?_
  refine tCE (kc ⟨r.mtch.a0,lastI H,r.mtch.a2,r.mtch.a3,r.mtch.a4,r.mtch.a5,r.mtch.a6⟩) ?_
  exact eX [(9990,9990),(9991,9991),(9992,9992),(9993,9993),(1,2000)]
 ·rw [e]
  refine tO ?_
  refine tO ?_
  refine tCE (kc ⟨r.mtch.a0,r.mtch.a1,lastI H,r.mtch.a3,r.mtch.a4,r.mtch.a5,r.mtch.a6⟩) ?_
  exact eX [(9990,9990),(9991,9991),(9992,9992),(9993,9993),(1,2000)]
 ·rw [e]
  refine tO ?_
  refine tO ?_
  refine tCE (kc ⟨r.mtch.a0,r.mtch.a1,r.mtch.a2,lastI H,r.mtch.a4,r.mtch.a5,r.mtch.a6⟩) ?_
  exact eX [(9990,9990),(9991,9991),(9992,9992),(9993,9993),(1,2000)]
 ·rw [e]
  refine tO ?_
  refine tO ?_
  refine tCE (kc ⟨r.mtch.a0,r.mtch.a1,r.mtch.a2,r.mtch.a3,lastI H,r.mtch.a5,r.mtch.a6⟩) ?_
  exact eX [(9990,9990),(9991,9991),(9992,9992),(9993,9993),(1,2000)]
 ·rw [e]
  refine tO ?_
  refine tO ?_
  refine tCE (kc ⟨r.mtch.a0,r.mtch.a1,r.mtch.a2,r.mtch.a3,r.mtch.a4,lastI H,r.mtch.a6⟩) ?_
  exact eX [(9990,9990),(9991,9991),(9992,9992),(9993,9993),(1,2000)]
 ·rw [e]
  refine tO ?_
  refine tO ?_
  refine tCE (kc ⟨r.mtch.a0,r.mtch.a1,r.mtch.a2,r.mtch.a3,r.mtch.a4,r.mtch.a5,lastI H⟩) ?_
  exact eX [(9990,9990),(9991,9991),(9992,9992),(9993,9993),(1,2000)]
end Go.Proofs
namespace Go.Pv
section
variable {P:Program}{f:Nat}{ps qs:List PV}{r:PV}
theorem CtrN.deep (h:CtrN P f qs r) (hs:SubVL ps qs):CtrN P f ps r:=⟨fun w st vs h1 h2=>h.run w st vs h1 (SubVL.sound _ _ _ hs h2)⟩
theorem CtrE.deep {bx bx':List (Nat×List PV)}{ob ob':List (Nat×Option (Bool×Nat×List (List PV)))} (h:CtrE P f qs bx ob r bx' ob') (hs:SubVL ps qs):CtrE P f ps bx ob r bx' ob':=⟨fun w X M vs h1 h2=>h.run w X M vs h1 (SubVL.sound _ _ _ hs h2)⟩
theorem zm9 {K:PV→Prop} (h:CtrN P f qs r) (hs:SubVL ps qs) (k:K r):∃ r,CtrN P f ps r∧K r:=⟨r,h.deep hs,k⟩
theorem zhu {K:PV→Prop} (h:CtrN P f ps r) (k:K r):∃ r,CtrN P f ps r∧K r:=⟨r,h,k⟩
theorem zme {ob:List (Nat×Option (Bool×Nat×List (List PV)))}{A:Prop}{K:PV→Prop} (h:CtrE P f qs [] ob r [] ob) (hs:SubVL ps qs) (a:A) (k:K r):∃ r,CtrE P f ps [] ob r [] ob∧A∧K r:=⟨r,h.deep hs,a,k⟩
theorem z4f {ob:List (Nat×Option (Bool×Nat×List (List PV)))}{A:Prop}{K:PV→Prop} (h:CtrE P f ps [] ob r [] ob) (a:A) (k:K r):∃ r,CtrE P f ps [] ob r [] ob∧A∧K r:=⟨r,h,a,k⟩
end
end Go.Pv
namespace Go.Proofs
open Go.Pv
set_option maxRecDepth 100000
theorem zze {e:Int} (he:e ≠ 0) (b:Conf):hitS (cz,e) b=false:=by
 simp [hitS,he]
theorem zs3 {x b:Conf} (hb:Cok b):hitS (zcx x) b=decide (x=b):=by
 unfold zcx
 cases hc:confB x
 ·rw [if_neg (by simp),zze (by decide)]
  symm
  apply decide_eq_false
  intro e;subst e
  rw [(zci x).2 hb] at hc;cases hc
 ·simp [hitS]
theorem zu0 {a b:Conf} (ha:Cok a) (hb:Cok b) {n:Nat} (hn:n < 7):nearI a b n=(zc0 a n).any fun x=>decide (x=b):=by
 have one:=ha.one n
 have hw:=z0m ha hn
 have b1:=zj7 (x:=a.learn) hn
 have b2:=zj7 (x:=a.lwit) hn
 have bf:=z2y (c:=a) hn
 unfold nearI ze8 zd4 zfq zc0
 rw [if_pos hw,if_pos hw,if_pos hw,if_pos hw]
 unfold free at bf
 revert one
 cases hf:tb a.full n<;>cases hwt:tb a.wit n<;>cases hl:tb a.learn n<;>cases hx:tb a.lwit n<;>intro one<;>simp [one4] at one<;>(simp only [hl] at b1;simp only [hx] at b2;simp only [hf,hwt,hl,hx] at bf;simp at b1 b2 bf;simp [b1,b2,bf,zs3 hb,zze])<;>exact Bool.or_comm _ _
theorem zp3 (a:Conf) (p:Conf→Bool):∀ n,(zbs a n).any p=(List.range n).any fun i=>(zc0 a i).any p
 | 0=>rfl
 | n+1=>by rw [List.range_succ];simp only [zbs,List.any_append,zp3 a p n];simp
theorem zs9 (a b:Conf):nearL a b=nearR a b:=by
 unfold nearL nearR
 cases hA:confB a
 ·rfl
 cases hB:confB b
 ·rfl
 have ha:=(zci a).1 hA
 have hb:=(zci b).1 hB
 simp only [Bool.true_and]
 rw [Bool.or_comm,zp3]
 congr 1
 rw [Bool.eq_iff_iff,List.any_eq_true,List.any_eq_true]
 constructor
 ·rintro ⟨i,hi,h⟩;exact ⟨i,hi,by rw [zu0 ha hb (List.mem_range.1 hi)];exact h⟩
 ·rintro ⟨i,hi,h⟩;exact ⟨i,hi,by rw [zu0 ha hb (List.mem_range.1 hi)] at h;exact h⟩
theorem zpp {h:Hrd}{i:Int}{s:List Int} (e:compE h i s=0):hardB h=true∧(h.base < i∧i≤lastI h∧i≤1099511627776)∧¬ 16384 < s.length:=by
 unfold compE at e
 by_cases h1:hardB h=true
 ·rw [if_pos h1] at e
  by_cases h2:h.base < i∧i≤lastI h∧i≤1099511627776
  ·rw [if_pos h2] at e
   by_cases h3:16384 < s.length
   ·rw [if_pos h3] at e;omega
   ·exact ⟨h1,h2,h3⟩
  ·rw [if_neg h2] at e;omega
 ·rw [if_neg h1] at e;omega
theorem z1i {h:Hrd}{i t:Int}{c:Conf}{s:List Int} (e:instE h i t c s=0):hardB h=true∧((h.base < i∧i≤1099511627776)∧(1≤t∧t≤h.term∧h.baseTerm≤t))∧confB c=true∧¬ 16384 < s.length:=by
 unfold instE at e
 by_cases h1:hardB h=true
 ·rw [if_pos h1] at e
  by_cases h2:(h.base < i∧i≤1099511627776)∧(1≤t∧t≤h.term∧h.baseTerm≤t)
  ·rw [if_pos h2] at e
   by_cases h3:confB c=true
   ·rw [if_pos h3] at e
    by_cases h4:16384 < s.length
    ·rw [if_pos h4] at e;omega
    ·exact ⟨h1,h2,h3,h4⟩
   ·rw [if_neg h3] at e;omega
  ·rw [if_neg h2] at e;omega
 ·rw [if_neg h1] at e;omega
theorem zpe {h:Hrd}{i t:Int}{c:Conf}{s:List Int}{q:Nat} (hi:i=h.base+q) (hq:q≤h.log.length) (hf:fits h i t=true):instH h i t c s=cutH h q c s:=by
 have ht:behind h.log h.baseTerm q=t:=by
  unfold fits at hf
  simp only [Bool.and_eq_true,beq_iff_eq] at hf
  rw [← hf.2,zdy hi hq]
 unfold instH cutH
 rw [hf,if_pos rfl,show (i - h.base).toNat=q by omega,ht,hi]
theorem z14 {h:Hrd}{i t:Int}{c:Conf}{s:List Int} (hh:hardB h=true) (h1:(h.base < i∧i≤1099511627776)∧(1≤t∧t≤h.term∧h.baseTerm≤t)) (hc:confB c=true) (hs:s.length≤16384):hardB ⟨h.term,h.vote,i,t,c,s,[]⟩=true:=by
 obtain ⟨hA,_,_,_⟩:=zaq hh
 have hb:=hA.b
 unfold hardB
 rw [ze0 (show HardA ⟨h.term,h.vote,i,t,c,s,[]⟩ from ⟨hA.t,hA.v,by show 0≤i∧i≤_;omega,by show 0≤t∧t≤h.term;omega,by show t=0 ↔ i=0;omega⟩)]
 simp only [hc,Bool.and_true,Bool.true_and,decide_eq_true_eq,rowB]
 exact ⟨hs,.inl (by omega)⟩
theorem zl7 {v:Value}{n t:Nat}:gv { tmps:=#[v]++Array.replicate n undef,defers:=[] } t=if t=0 then v else undef:=by
 unfold gv
 rcases t with _ | t
 ·rw [Array.getD_eq_getD_getElem?,Array.getElem?_append_left (by simp)];rfl
 ·simp only [Array.getD_eq_getD_getElem?]
  rw [Array.getElem?_append_right (by simp),Array.getElem?_replicate]
  simp
  split<;>rfl
def gE (g:Nat→Option Value):Prop:=∃ m,g 0=some (.int .i64 m)
def gB (g:Nat→Option Value):Prop:=∃ m,g 0=some (.int .u8 m)
theorem zoa {i n:Nat} (h:i < n) (hn:n≤4611686018427387904):pbin .add (.int .i64 i) (.int .i64 1)=some (.int .i64 ((i+1:Nat):Int)):=by
 have:IntKind.i64.wrap ((i:Int)+1)=((i+1:Nat):Int):=wk_w1 (by omega)
 simp [pbin,this]
structure Lp (N:Nat→Prop) (w:World) (v:Value) (n sz s i:Nat) (a:Act) (w1:World):Prop where
 le:i≤n
 s0:gv a 0=v
 s2:gv a s=.int .i64 i
 size:a.tmps.size=sz
 df:a.defers=[]
 sim:Sim N w w1
theorem sp_E {N:Nat→Prop}{w:World}{v:Value}{n:Nat} (h:Win N w 16 gE n v):Runs Tryz.prog 86 #[v] w (fun e w'=>e=.returned (.tuple #[])∧Sim N w w'):=by
 left
 refine ⟨by simp [callFunc,Tryz.func86];kernel_rfl,calls_of_wp Tryz.func86 rfl ?_⟩
 obtain ⟨ad,c,hv,hn,hr⟩:=id h
 have hs0:({ tmps:=#[v]++Array.replicate (Tryz.f86.ntmps - #[v].size) undef,defers:=[] }:Go.Act).tmps.size=13:=by simp [Tryz.f86]
 refine wp_seq (zbg rfl (zdn hs0 rfl fun a1 p1=>?_))
 refine zl2 (s:=2) n (Lp N w v n 13 2) (Lp N w v n 13 2) ⟨Nat.zero_le _,?_,?_,p1.sz.trans hs0,p1.df,Sim.refl _ _⟩ (fun i a w1 hI=>⟨hI.le,hI.s2⟩) ?_ ?_ ?_ ?_
 ·rw [p1.gv,if_neg (by decide),zl7];rfl
 ·rw [p1.gv];rfl
 ·rintro i a w1 ⟨h1,h2,h3,h4,h5,h6⟩
  refine zbg rfl (zbh h4 rfl fun a1 p1=>zbh (p1.sz.trans h4) rfl fun a2 p2=>?_)
  have z2:=p2.sz.trans (p1.sz.trans h4)
  refine zo4 z2 rfl (ad:=ad) (n:=n) (c:=c) (by rw [ev_gv,p2.gv,if_pos rfl,ev_gv,p1.gv,if_neg (by decide),h2,hv]) fun a3 p3=>?_
  refine zg9 (p3.sz.trans z2) rfl (u:=.int .i64 i) (v:=.int .i64 n) (r:=.bool (decide (i < n))) (by simp [ev_gv,p3.gv,p2.gv,p1.gv,h3]) (by simp [ev_gv,p3.gv]) (by simp [pbin]) fun a4 p4=>⟨by simp [ev_gv,p4.gv],h1,?_,?_,p4.sz.trans (p3.sz.trans z2),?_,h6⟩
  ·simp [p4.gv,p3.gv,p2.gv,p1.gv,h2]
  ·simp [p4.gv,p3.gv,p2.gv,p1.gv,h3]
  ·rw [p4.df,p3.df,p2.df,p1.df,h5]
 ·rintro i a w1 hlt ⟨h1,h2,h3,h4,h5,h6⟩
  obtain ⟨ad',c',hv',_,hr'⟩:=Win.sim h6 (F':=gE) (fun g g' hs hg=>hs.int hg) h
  rw [hv] at hv';cases hv'
  obtain ⟨b,off,rfl,hb,h0,hg⟩:=hr'.resolve_left (by omega)
  obtain ⟨m,hm⟩:=hg i hlt
  simp only [Nat.add_zero] at hm
  refine wp_block (zbg rfl (zbh h4 rfl fun a1 p1=>zbh (p1.sz.trans h4) rfl fun a2 p2=>?_))
  have z2:=p2.sz.trans (p1.sz.trans h4)
  refine ze4 z2 rfl (sz:=16) (b:=b) (off:=off) (n:=n) (c:=c) (kk:=.i64) (i:=i) (by simp [ev_gv,p2.gv,p1.gv,h2,hv]) (by simp [ev_gv,p2.gv,p1.gv,h3]) (by omega) (by omega) fun a3 p3=>?_
  have z3:=p3.sz.trans z2
  refine zdg z3 rfl (fo:=0) (b:=b) (off:=off+i * 16) (by simp [ev_gv,p3.gv]) fun a4 p4=>?_
  have z4:=p4.sz.trans z3
  refine zj3 z4 (N:=N) rfl (kk:=.i64) (b:=b) (off:=off+i * 16) (m:=m) (n:=-77) (by simp [ev_gv,p4.gv]) rfl hb h0 hm fun a5 w' p5 hs=>⟨h1,?_,?_,p5.sz.trans z4,?_,h6.trans hs⟩
  ·simp [p5.gv,p4.gv,p3.gv,p2.gv,p1.gv,h2]
  ·simp [p5.gv,p4.gv,p3.gv,p2.gv,p1.gv,h3]
  ·rw [p5.df,p4.df,p3.df,p2.df,p1.df,h5]
 ·rintro i a w1 hlt ⟨h1,h2,h3,h4,h5,h6⟩
  refine zbg rfl (zbh h4 rfl fun a1 p1=>?_)
  have z1:=p1.sz.trans h4
  refine zg9 z1 rfl (u:=.int .i64 i) (v:=.int .i64 1) (r:=.int .i64 ((i+1:Nat):Int)) (by simp [ev_gv,p1.gv,h3]) rfl (zoa hlt hn) fun a2 p2=>zdn (p2.sz.trans z1) rfl fun a3 p3=>⟨by omega,?_,?_,p3.sz.trans (p2.sz.trans z1),?_,h6⟩
  ·simp [p3.gv,p2.gv,p1.gv,h2]
  ·simp [ev_gv,p3.gv,p2.gv]
  ·rw [p3.df,p2.df,p1.df,h5]
 ·rintro a w1 ⟨h1,h2,h3,h4,h5,h6⟩
  exact ⟨h5,.tuple #[],by simp [results,Tryz.f86],rfl,h6⟩
theorem sp_B {N:Nat→Prop}{w:World}{v:Value}{n:Nat} (h:Win N w 1 gB n v):Runs Tryz.prog 87 #[v] w (fun e w'=>e=.returned (.tuple #[])∧Sim N w w'):=by
 left
 refine ⟨by simp [callFunc,Tryz.func87];kernel_rfl,calls_of_wp Tryz.func87 rfl ?_⟩
 obtain ⟨ad,c,hv,hn,hr⟩:=id h
 have hs0:({ tmps:=#[v]++Array.replicate (Tryz.f87.ntmps - #[v].size) undef,defers:=[] }:Go.Act).tmps.size=17:=by simp [Tryz.f87]
 refine wp_seq (zbg rfl (zdn hs0 rfl fun a1 p1=>?_))
 refine zl2 (s:=2) n (Lp N w v n 17 2) (Lp N w v n 17 2) ⟨Nat.zero_le _,?_,?_,p1.sz.trans hs0,p1.df,Sim.refl _ _⟩ (fun i a w1 hI=>⟨hI.le,hI.s2⟩) ?_ ?_ ?_ ?_
 ·rw [p1.gv,if_neg (by decide),zl7];rfl
 ·rw [p1.gv];rfl
 ·rintro i a w1 ⟨h1,h2,h3,h4,h5,h6⟩
  refine zbg rfl (zbh h4 rfl fun a1 p1=>zbh (p1.sz.trans h4) rfl fun a2 p2=>?_)
  have z2:=p2.sz.trans (p1.sz.trans h4)
  refine zo4 z2 rfl (ad:=ad) (n:=n) (c:=c) (by rw [ev_gv,p2.gv,if_pos rfl,ev_gv,p1.gv,if_neg (by decide),h2,hv]) fun a3 p3=>?_
  refine zg9 (p3.sz.trans z2) rfl (u:=.int .i64 i) (v:=.int .i64 n) (r:=.bool (decide (i < n))) (by simp [ev_gv,p3.gv,p2.gv,p1.gv,h3]) (by simp [ev_gv,p3.gv]) (by simp [pbin]) fun a4 p4=>⟨by simp [ev_gv,p4.gv],h1,?_,?_,p4.sz.trans (p3.sz.trans z2),?_,h6⟩
  ·simp [p4.gv,p3.gv,p2.gv,p1.gv,h2]
  ·simp [p4.gv,p3.gv,p2.gv,p1.gv,h3]
  ·rw [p4.df,p3.df,p2.df,p1.df,h5]
 ·rintro i a w1 hlt ⟨h1,h2,h3,h4,h5,h6⟩
  obtain ⟨ad',c',hv',_,hr'⟩:=Win.sim h6 (F':=gB) (fun g g' hs hg=>hs.int hg) h
  rw [hv] at hv';cases hv'
  obtain ⟨b,off,rfl,hb,h0,hg⟩:=hr'.resolve_left (by omega)
  obtain ⟨m,hm⟩:=hg i hlt
  simp only [Nat.add_zero] at hm
  rw [Nat.mul_one] at hm
  refine wp_block (zbg rfl (zbh h4 rfl fun a1 p1=>zbh (p1.sz.trans h4) rfl fun a2 p2=>?_))
  have z2:=p2.sz.trans (p1.sz.trans h4)
  refine zbh z2 rfl fun a3 p3=>zbh (p3.sz.trans z2) rfl fun a4 p4=>?_
  have z4:=p4.sz.trans (p3.sz.trans z2)
  refine ze4 z4 rfl (sz:=1) (b:=b) (off:=off) (n:=n) (c:=c) (kk:=.i64) (i:=i) (by simp [ev_gv,p4.gv,p3.gv,p2.gv,p1.gv,h2,hv]) (by simp [ev_gv,p4.gv,p3.gv,p2.gv,p1.gv,h3]) (by omega) (by omega) fun a5 p5=>?_
  have z5:=p5.sz.trans z4
  refine zf7 z5 rfl (b:=b) (off:=off+i) (by simp [ev_gv,p5.gv]) hm fun a6 p6=>?_
  have z6:=p6.sz.trans z5
  refine zg9 z6 rfl (u:=.int .u8 m) (v:=.int .u8 101) (r:=.int .u8 (IntKind.u8.wrap (m+101))) (by simp [ev_gv,p6.gv]) rfl (by simp [pbin]) fun a7 p7=>?_
  have z7:=p7.sz.trans z6
  refine ze4 z7 rfl (sz:=1) (b:=b) (off:=off) (n:=n) (c:=c) (kk:=.i64) (i:=i) (by simp [ev_gv,p7.gv,p6.gv,p5.gv,p4.gv,p3.gv,p2.gv,p1.gv,h2,hv]) (by simp [ev_gv,p7.gv,p6.gv,p5.gv,p4.gv,p3.gv,p2.gv,p1.gv,h3]) (by omega) (by omega) fun a8 p8=>?_
  have z8:=p8.sz.trans z7
  refine zj3 z8 (N:=N) rfl (kk:=.u8) (b:=b) (off:=off+i) (m:=m) (n:=IntKind.u8.wrap (m+101)) (by simp [ev_gv,p8.gv]) (by simp [ev_gv,p8.gv,p7.gv]) hb h0 hm fun a9 w' p9 hs=>⟨h1,?_,?_,p9.sz.trans z8,?_,h6.trans hs⟩
  ·simp [p9.gv,p8.gv,p7.gv,p6.gv,p5.gv,p4.gv,p3.gv,p2.gv,p1.gv,h2]
  ·simp [p9.gv,p8.gv,p7.gv,p6.gv,p5.gv,p4.gv,p3.gv,p2.gv,p1.gv,h3]
  ·rw [p9.df,p8.df,p7.df,p6.df,p5.df,p4.df,p3.df,p2.df,p1.df,h5]
 ·rintro i a w1 hlt ⟨h1,h2,h3,h4,h5,h6⟩
  refine zbg rfl (zbh h4 rfl fun a1 p1=>?_)
  have z1:=p1.sz.trans h4
  refine zg9 z1 rfl (u:=.int .i64 i) (v:=.int .i64 1) (r:=.int .i64 ((i+1:Nat):Int)) (by simp [ev_gv,p1.gv,h3]) rfl (zoa hlt hn) fun a2 p2=>zdn (p2.sz.trans z1) rfl fun a3 p3=>⟨by omega,?_,?_,p3.sz.trans (p2.sz.trans z1),?_,h6⟩
  ·simp [p3.gv,p2.gv,p1.gv,h2]
  ·simp [ev_gv,p3.gv,p2.gv]
  ·rw [p3.df,p2.df,p1.df,h5]
 ·rintro a w1 ⟨h1,h2,h3,h4,h5,h6⟩
  exact ⟨h5,.tuple #[],by simp [results,Tryz.f87],rfl,h6⟩
theorem simAl {N:Nat→Prop}{w:World} (hN:∀ b,N b→b < w.heap.size) (o:Obj):Sim N w (w.alloc o) :=
 ⟨rfl,rfl,rfl,by simp,fun b hb _=>zam w o hb,fun b i u hb hu=>⟨u,by rw [World.cell?_of_block (a:=⟨b,i,none⟩) (zam w o (hN b hb))];exact hu,.inl rfl⟩,fun b hb h=>h.of (zam w o (hN b hb))⟩
theorem winB {N:Nat→Prop}{w w':World} (h:Sim N w w') {n:Nat}{v:Value} (hv:Win N w 1 gB n v):Win N w' 1 gB n v:=Win.sim h (fun _ _ hs hg=>hs.int hg) hv
theorem winE {N:Nat→Prop}{w w':World} (h:Sim N w w') {n:Nat}{v:Value} (hv:Win N w 16 gE n v):Win N w' 16 gE n v:=Win.sim h (fun _ _ hs hg=>hs.int hg) hv
theorem zj4 {w:World}{b o:Nat}{cs:Array Value}{T:TypeId}{fr:Nat×Nat}{u:Value} (h:w.heap[b]?=some (.cells cs T fr)) (hu:cs[o]?=some u):w.cell? ⟨b,o,none⟩=some u:=by
 simp only [World.cell?,h];simpa using hu
theorem sp_H {N : Nat → Prop} {w : World} {cs : Array Value} {n8 n9 : Nat} {u8 u9 : Value} (hN : ∀ b, N b → b < w.heap.size) (h8 : cs[8]? = some u8) (h9 : cs[9]? = some u9) (hb : Win N w 1 gB n8 u8) (he : Win N w 16 gE n9 u9) :
    Runs Tryz.prog 85 #[.agg cs] w (fun e w'=>e=.returned (.tuple #[])∧Sim N w w'):=by
 left
 refine ⟨by simp [callFunc,Tryz.func85];kernel_rfl,calls_of_wp Tryz.func85 rfl ?_⟩
 have hs0:({ tmps:=#[Value.agg cs]++Array.replicate (Tryz.f85.ntmps - #[Value.agg cs].size) undef,defers:=[] }:Go.Act).tmps.size=8:=by simp [Tryz.f85]
 refine wp_seq (zbg rfl (rw_box hs0 rfl fun a1 p1=>?_))
 have hc:(Go.Act.eval { tmps:=#[Value.agg cs]++Array.replicate (Tryz.f85.ntmps - #[Value.agg cs].size) undef,defers:=[] } (.tmp 0)).cells=cs:=by rw [ev_gv,zl7];rfl
 rw [hc]
 have z1:=p1.sz.trans hs0
 have hsim:=simAl hN (.cells cs 43)
 have hblk:=zcd w (.cells cs 43)
 have hlt:w.heap.size < (w.alloc (.cells cs 43)).heap.size:=by simp
 generalize hw1:w.alloc (.cells cs 43)=w1 at *
 have hd1:=p1.df
 have hnN:¬ N w.heap.size:=fun h=>Nat.lt_irrefl _ (hN _ h)
 refine wp_seq (zbg rfl ?_)
 refine zdg z1 rfl (fo:=8) (b:=w.heap.size) (off:=0) (by simp [ev_gv,p1.gv]) fun a2 p2=>?_
 have z2:=p2.sz.trans z1
 refine zf7 z2 rfl (b:=w.heap.size) (off:=8) (by simp [ev_gv,p2.gv]) (zj4 hblk h8) fun a3 p3=>?_
 have z3:=p3.sz.trans z2
 refine zhg z3 rfl rfl (vs:=#[u8]) (by simp [ev_gv,p3.gv]) (sp_B (winB hsim hb)) ?_
 rintro e w2 ⟨rfl,hs2⟩
 refine ⟨_,rfl,fun a4 p4=>?_⟩
 have z4:=p4.sz.trans z3
 have hblk2:=(hs2.kept _ hlt hnN).trans hblk
 refine zbg rfl ?_
 refine zdg z4 rfl (fo:=9) (b:=w.heap.size) (off:=0) (by simp [ev_gv,p4.gv,p3.gv,p2.gv,p1.gv]) fun a5 p5=>?_
 have z5:=p5.sz.trans z4
 refine zf7 z5 rfl (b:=w.heap.size) (off:=9) (by simp [ev_gv,p5.gv]) (zj4 hblk2 h9) fun a6 p6=>?_
 have z6:=p6.sz.trans z5
 refine zhg z6 rfl rfl (vs:=#[u9]) (by simp [ev_gv,p6.gv]) (sp_E (winE (hsim.trans hs2) he)) ?_
 rintro e w3 ⟨rfl,hs3⟩
 refine ⟨_,rfl,fun a7 p7=>⟨?_,.tuple #[],by simp [results,Tryz.f85],rfl,hsim.trans (hs2.trans hs3)⟩⟩
 rw [p7.df,p6.df,p5.df,p4.df,p3.df,p2.df,p1.df]
def gR (g:Nat→Option Value):Prop:=∃ m,g 12=some (.int .i64 m)
theorem winR {N:Nat→Prop}{w w':World} (h:Sim N w w') {n:Nat}{v:Value} (hv:Win N w 13 gR n v):Win N w' 13 gR n v:=Win.sim h (fun _ _ hs hg=>hs.int hg) hv
structure LpR (N:Nat→Prop) (w:World) (b:Nat) (cs:Array Value) (n i:Nat) (a:Go.Act) (w1:World):Prop where
 le:i≤n
 s1:gv a 1=.pointer (some ⟨b,0,none⟩)
 s2:gv a 2=.int .i64 i
 size:a.tmps.size=18
 df:a.defers=[]
 sim:Sim N w w1
 lt:b < w1.heap.size
 blk:w1.heap[b]?=some (.cells cs 47 (0,0))
theorem sp_R {N : Nat → Prop} {w : World} {cs : Array Value} {n8 n9 nr : Nat} {u8 u9 ur : Value} (hN : ∀ b, N b → b < w.heap.size) (hsz : cs.size = 40) (h8 : cs[9]? = some u8) (h9 : cs[10]? = some u9) (hr : cs[39]? = some ur)
    (hb:Win N w 1 gB n8 u8) (he:Win N w 16 gE n9 u9) (hq:Win N w 13 gR nr ur):Runs Tryz.prog 36 #[.agg cs] w (fun e w'=>e=.returned (.tuple #[])∧Sim N w w'):=by
 left
 refine ⟨by simp [callFunc,Tryz.func36];kernel_rfl,calls_of_wp Tryz.func36 rfl ?_⟩
 have hs0:({ tmps:=#[Value.agg cs]++Array.replicate (Tryz.f36.ntmps - #[Value.agg cs].size) undef,defers:=[] }:Go.Act).tmps.size=18:=by simp [Tryz.f36]
 refine wp_seq (zbg rfl (rw_box hs0 rfl fun a1 p1=>?_))
 have hc:(Go.Act.eval { tmps:=#[Value.agg cs]++Array.replicate (Tryz.f36.ntmps - #[Value.agg cs].size) undef,defers:=[] } (.tmp 0)).cells=cs:=by rw [ev_gv,zl7];rfl
 rw [hc]
 have z1:=p1.sz.trans hs0
 have hsim:=simAl hN (.cells cs 47)
 have hblk:=zcd w (.cells cs 47)
 have hlt:w.heap.size < (w.alloc (.cells cs 47)).heap.size:=by simp
 generalize hw1:w.alloc (.cells cs 47)=w1 at *
 have hnN:¬ N w.heap.size:=fun h=>Nat.lt_irrefl _ (hN _ h)
 have hN1:∀ b,N b→b < w1.heap.size:=fun b h=>Nat.lt_of_lt_of_le (hN b h) hsim.size
 refine wp_seq (zbg rfl ?_)
 refine zdg z1 rfl (fo:=1) (b:=w.heap.size) (off:=0) (by simp [ev_gv,p1.gv]) fun a2 p2=>?_
 have z2:=p2.sz.trans z1
 refine zt6 z2 rfl (b:=w.heap.size) (off:=1) (sz:=10) (cs:=(cs.toList.drop 1).take 10) (by simp [ev_gv,p2.gv]) (((Cells.of_block hblk).drop 1).take 10 |> fun h=>by simpa using h) (by simp [hsz]) fun a3 p3=>?_
 have z3:=p3.sz.trans z2
 refine zhg z3 rfl rfl (vs:=#[.agg ((cs.toList.drop 1).take 10).toArray]) (by simp [ev_gv,p3.gv]) (sp_H hN1 (by simpa using h8) (by simpa using h9) (winB hsim hb) (winE hsim he)) ?_
 rintro e w2 ⟨rfl,hs2⟩
 refine ⟨_,rfl,fun a4 p4=>?_⟩
 have z4:=p4.sz.trans z3
 have hblk2:=(hs2.kept _ hlt hnN).trans hblk
 refine wp_seq (zbg rfl (zdn z4 rfl fun a5 p5=>?_))
 have z5:=p5.sz.trans z4
 obtain ⟨ad,c,hv,hn,_⟩:=id hq
 refine zl2 (s:=2) nr (LpR N w w.heap.size cs nr) (LpR N w w.heap.size cs nr) ⟨Nat.zero_le _,?_,?_,z5,?_,hsim.trans hs2,Nat.lt_of_lt_of_le hlt hs2.size,hblk2⟩ (fun i a w1 hI=>⟨hI.le,hI.s2⟩) ?_ ?_ ?_ ?_
 ·simp [p5.gv,p4.gv,p3.gv,p2.gv,p1.gv]
 ·simp [p5.gv,zum]
 ·rw [p5.df,p4.df,p3.df,p2.df,p1.df]
 ·rintro i a w3 ⟨h1,h2,h3,h4,h5,h6,h7,h8⟩
  refine zbg rfl (zbh h4 rfl fun a1 p1=>?_)
  have z1:=p1.sz.trans h4
  refine zdg z1 rfl (fo:=39) (b:=w.heap.size) (off:=0) (by simp [ev_gv,p1.gv,h2]) fun a2 p2=>?_
  have z2:=p2.sz.trans z1
  refine zf7 z2 rfl (b:=w.heap.size) (off:=39) (by simp [ev_gv,p2.gv]) (zj4 h8 hr) fun a3 p3=>?_
  have z3:=p3.sz.trans z2
  refine zo4 z3 rfl (ad:=ad) (n:=nr) (c:=c) (by simp [ev_gv,p3.gv,hv]) fun a4 p4=>?_
  have z4:=p4.sz.trans z3
  refine zg9 z4 rfl (u:=.int .i64 i) (v:=.int .i64 nr) (r:=.bool (decide (i < nr))) (by simp [ev_gv,p4.gv,p3.gv,p2.gv,p1.gv,h3]) (by simp [ev_gv,p4.gv]) (by simp [pbin]) fun a5 p5=>⟨by simp [ev_gv,p5.gv],h1,?_,?_,p5.sz.trans z4,?_,h6,h7,h8⟩
  ·simp [p5.gv,p4.gv,p3.gv,p2.gv,p1.gv,h2]
  ·simp [p5.gv,p4.gv,p3.gv,p2.gv,p1.gv,h3]
  ·rw [p5.df,p4.df,p3.df,p2.df,p1.df,h5]
 ·rintro i a w3 hlt' ⟨h1,h2,h3,h4,h5,h6,h7,h8⟩
  obtain ⟨ad',c',hv',_,hr'⟩:=winR h6 hq
  rw [hv] at hv';cases hv'
  obtain ⟨b,off,rfl,hb,h0,hg⟩:=hr'.resolve_left (by omega)
  obtain ⟨m,hm⟩:=hg i hlt'
  refine wp_block (zbg rfl ?_)
  refine zdg h4 rfl (fo:=39) (b:=w.heap.size) (off:=0) (by simp [ev_gv,h2]) fun a1 p1=>?_
  have z1:=p1.sz.trans h4
  refine zf7 z1 rfl (b:=w.heap.size) (off:=39) (by simp [ev_gv,p1.gv]) (zj4 h8 hr) fun a2 p2=>zbh (p2.sz.trans z1) rfl fun a3 p3=>?_
  have z3:=p3.sz.trans (p2.sz.trans z1)
  refine ze4 z3 rfl (sz:=13) (b:=b) (off:=off) (n:=nr) (c:=c) (kk:=.i64) (i:=i) (by simp [ev_gv,p3.gv,p2.gv,hv]) (by simp [ev_gv,p3.gv,p2.gv,p1.gv,h3]) (by omega) (by omega) fun a4 p4=>?_
  have z4:=p4.sz.trans z3
  refine zdg z4 rfl (fo:=12) (b:=b) (off:=off+i * 13) (by simp [ev_gv,p4.gv]) fun a5 p5=>?_
  have z5:=p5.sz.trans z4
  refine zj3 z5 (N:=N) rfl (kk:=.i64) (b:=b) (off:=off+i * 13+12) (m:=m) (n:=-77) (by simp [ev_gv,p5.gv]) rfl hb h0 hm fun a6 w' p6 hs=>⟨h1,?_,?_,p6.sz.trans z5,?_,h6.trans hs,Nat.lt_of_lt_of_le h7 hs.size,(hs.kept _ h7 hnN).trans h8⟩
  ·simp [p6.gv,p5.gv,p4.gv,p3.gv,p2.gv,p1.gv,h2]
  ·simp [p6.gv,p5.gv,p4.gv,p3.gv,p2.gv,p1.gv,h3]
  ·rw [p6.df,p5.df,p4.df,p3.df,p2.df,p1.df,h5]
 ·rintro i a w3 hlt' ⟨h1,h2,h3,h4,h5,h6,h7,h8⟩
  refine zbg rfl (zbh h4 rfl fun a1 p1=>?_)
  have z1:=p1.sz.trans h4
  refine zg9 z1 rfl (u:=.int .i64 i) (v:=.int .i64 1) (r:=.int .i64 ((i+1:Nat):Int)) (by simp [ev_gv,p1.gv,h3]) rfl (zoa hlt' hn) fun a2 p2=>zdn (p2.sz.trans z1) rfl fun a3 p3=>⟨by omega,?_,?_,p3.sz.trans (p2.sz.trans z1),?_,h6,h7,h8⟩
  ·simp [p3.gv,p2.gv,p1.gv,h2]
  ·simp [ev_gv,p3.gv,p2.gv]
  ·rw [p3.df,p2.df,p1.df,h5]
 ·rintro a w3 ⟨h1,h2,h3,h4,h5,h6,h7,h8⟩
  exact ⟨h5,.tuple #[],by simp [results,Tryz.f36],rfl,h6⟩
def gM (N:Nat→Prop) (w:World) (g:Nat→Option Value):Prop :=
 (∃ m,g 0=some (.int .i64 m))∧(∃ u n,g 9=some u∧Win N w 16 gE n u)∧(∃ u n,g 14=some u∧Win N w 1 gB n u)∧∃ ad c,g 15=some (.slice ad 0 c)
theorem simM {N:Nat→Prop}{w w':World} (h:Sim N w w') (g g':Nat→Option Value) (hs:SimG g g') (hg:gM N w g):gM N w' g':=by
 obtain ⟨h1,⟨u,n,h2,h3⟩,⟨u',n',h4,h5⟩,ad,c,h6⟩:=hg
 refine ⟨hs.int h1,⟨u,n,?_,winE h h3⟩,⟨u',n',?_,winB h h5⟩,ad,c,hs.slice h6⟩
 ·obtain ⟨a,c,rfl,_⟩:=h3;exact hs.slice h2
 ·obtain ⟨a,c,rfl,_⟩:=h5;exact hs.slice h4
theorem winM {N:Nat→Prop}{w w':World} (h:Sim N w w') {n:Nat}{v:Value} (hv:Win N w 16 (gM N w) n v):Win N w' 16 (gM N w') n v:=Win.sim h (simM h) hv
theorem sp_M {N:Nat→Prop}{w:World}{v:Value}{n:Nat} (h:Win N w 16 (gM N w) n v):Runs Tryz.prog 37 #[v] w (fun e w'=>e=.returned (.tuple #[])∧Sim N w w'):=by
 left
 refine ⟨by simp [callFunc,Tryz.func37];kernel_rfl,calls_of_wp Tryz.func37 rfl ?_⟩
 obtain ⟨ad,c,hv,hn,hr⟩:=id h
 have hs0:({ tmps:=#[v]++Array.replicate (Tryz.f37.ntmps - #[v].size) undef,defers:=[] }:Go.Act).tmps.size=64:=by simp [Tryz.f37]
 refine wp_seq (zbg rfl (zdn hs0 rfl fun a1 p1=>?_))
 refine zl2 (s:=2) n (Lp N w v n 64 2) (Lp N w v n 64 2) ⟨Nat.zero_le _,?_,?_,p1.sz.trans hs0,p1.df,Sim.refl _ _⟩ (fun i a w1 hI=>⟨hI.le,hI.s2⟩) ?_ ?_ ?_ ?_
 ·rw [p1.gv,if_neg (by decide),zl7];rfl
 ·rw [p1.gv];rfl
 ·rintro i a w1 ⟨h1,h2,h3,h4,h5,h6⟩
  refine zbg rfl (zbh h4 rfl fun a1 p1=>zbh (p1.sz.trans h4) rfl fun a2 p2=>?_)
  have z2:=p2.sz.trans (p1.sz.trans h4)
  refine zo4 z2 rfl (ad:=ad) (n:=n) (c:=c) (by rw [ev_gv,p2.gv,if_pos rfl,ev_gv,p1.gv,if_neg (by decide),h2,hv]) fun a3 p3=>?_
  refine zg9 (p3.sz.trans z2) rfl (u:=.int .i64 i) (v:=.int .i64 n) (r:=.bool (decide (i < n))) (by simp [ev_gv,p3.gv,p2.gv,p1.gv,h3]) (by simp [ev_gv,p3.gv]) (by simp [pbin]) fun a4 p4=>⟨by simp [ev_gv,p4.gv],h1,?_,?_,p4.sz.trans (p3.sz.trans z2),?_,h6⟩
  ·simp [p4.gv,p3.gv,p2.gv,p1.gv,h2]
  ·simp [p4.gv,p3.gv,p2.gv,p1.gv,h3]
  ·rw [p4.df,p3.df,p2.df,p1.df,h5]
 ·rintro i a w1 hlt ⟨h1,h2,h3,h4,h5,h6⟩
  have row:∀ w',Sim N w w'→∃ b off,ad=some ⟨b,off,none⟩∧N b∧C00 w' b∧gM N w' fun j=>w'.cell? ⟨b,off+i * 16+j,none⟩:=by
   intro w' hs
   obtain ⟨ad',c',hv',_,hr'⟩:=winM hs h
   rw [hv] at hv';cases hv'
   obtain ⟨b,off,e,hb,h0,hg⟩:=hr'.resolve_left (by omega)
   exact ⟨b,off,e,hb,h0,hg i hlt⟩
  obtain ⟨b,off,rfl,hb,h0,⟨m,hm⟩,_⟩:=row w1 h6
  simp only [Nat.add_zero] at hm
  have row':∀ w',Sim N w w'→gM N w' fun j=>w'.cell? ⟨b,off+i * 16+j,none⟩:=by
   intro w' hs
   obtain ⟨b',off',e,_,_,hg⟩:=row w' hs
   cases e;exact hg
  refine wp_block (wp_seq (zbg rfl (zbh h4 rfl fun a1 p1=>zbh (p1.sz.trans h4) rfl fun a2 p2=>?_)))
  have z2:=p2.sz.trans (p1.sz.trans h4)
  refine ze4 z2 rfl (sz:=16) (b:=b) (off:=off) (n:=n) (c:=c) (kk:=.i64) (i:=i) (by simp [ev_gv,p2.gv,p1.gv,h2,hv]) (by simp [ev_gv,p2.gv,p1.gv,h3]) (by omega) (by omega) fun a3 p3=>?_
  have z3:=p3.sz.trans z2
  refine zdg z3 rfl (fo:=0) (b:=b) (off:=off+i * 16) (by simp [ev_gv,p3.gv]) fun a4 p4=>?_
  have z4:=p4.sz.trans z3
  refine zj3 z4 (N:=N) rfl (kk:=.i64) (b:=b) (off:=off+i * 16) (m:=m) (n:=-77) (by simp [ev_gv,p4.gv]) rfl hb h0 hm fun a5 w2 p5 hs=>?_
  have e0:gv a5 0=v:=by simp [p5.gv,p4.gv,p3.gv,p2.gv,p1.gv,h2]
  have e2:gv a5 2=.int .i64 i:=by simp [p5.gv,p4.gv,p3.gv,p2.gv,p1.gv,h3]
  have ed:a5.defers=[]:=by rw [p5.df,p4.df,p3.df,p2.df,p1.df,h5]
  have ez:=p5.sz.trans z4
  have es:=h6.trans hs
  clear p5 p4 p3 p2 p1 z2 z3 z4 h2 h3 h4 h5 hm h0
  obtain ⟨_,⟨u,nu,hu,hwu⟩,_⟩:=row' w2 es
  refine wp_seq (zbg rfl (zbh ez rfl fun a1 p1=>zbh (p1.sz.trans ez) rfl fun a2 p2=>?_))
  have z2:=p2.sz.trans (p1.sz.trans ez)
  refine ze4 z2 rfl (sz:=16) (b:=b) (off:=off) (n:=n) (c:=c) (kk:=.i64) (i:=i) (by simp [ev_gv,p2.gv,p1.gv,e0,hv]) (by simp [ev_gv,p2.gv,p1.gv,e2]) (by omega) (by omega) fun a3 p3=>?_
  have z3:=p3.sz.trans z2
  refine zdg z3 rfl (fo:=9) (b:=b) (off:=off+i * 16) (by simp [ev_gv,p3.gv]) fun a4 p4=>?_
  have z4:=p4.sz.trans z3
  refine zf7 z4 rfl (b:=b) (off:=off+i * 16+9) (by simp [ev_gv,p4.gv]) hu fun a5' p5=>?_
  have z5:=p5.sz.trans z4
  refine zhg z5 rfl rfl (vs:=#[u]) (by simp [ev_gv,p5.gv]) (sp_E hwu) ?_
  rintro e w3 ⟨rfl,hs3⟩
  refine ⟨_,rfl,fun a6 p6=>?_⟩
  have f0:gv a6 0=v:=by simp [p6.gv,p5.gv,p4.gv,p3.gv,p2.gv,p1.gv,e0]
  have f2:gv a6 2=.int .i64 i:=by simp [p6.gv,p5.gv,p4.gv,p3.gv,p2.gv,p1.gv,e2]
  have fd:a6.defers=[]:=by rw [p6.df,p5.df,p4.df,p3.df,p2.df,p1.df,ed]
  have fz:=p6.sz.trans z5
  have fs:=es.trans hs3
  clear p6 p5 p4 p3 p2 p1 z2 z3 z4 z5 e0 e2 ed ez hu hwu
  obtain ⟨_,_,⟨u',nu',hu,hwu⟩,_⟩:=row' w3 fs
  refine wp_seq (zbg rfl (zbh fz rfl fun a1 p1=>zbh (p1.sz.trans fz) rfl fun a2 p2=>?_))
  have z2:=p2.sz.trans (p1.sz.trans fz)
  refine ze4 z2 rfl (sz:=16) (b:=b) (off:=off) (n:=n) (c:=c) (kk:=.i64) (i:=i) (by simp [ev_gv,p2.gv,p1.gv,f0,hv]) (by simp [ev_gv,p2.gv,p1.gv,f2]) (by omega) (by omega) fun a3 p3=>?_
  have z3:=p3.sz.trans z2
  refine zdg z3 rfl (fo:=14) (b:=b) (off:=off+i * 16) (by simp [ev_gv,p3.gv]) fun a4 p4=>?_
  have z4:=p4.sz.trans z3
  refine zf7 z4 rfl (b:=b) (off:=off+i * 16+14) (by simp [ev_gv,p4.gv]) hu fun a5' p5=>?_
  have z5:=p5.sz.trans z4
  refine zhg z5 rfl rfl (vs:=#[u']) (by simp [ev_gv,p5.gv]) (sp_B hwu) ?_
  rintro e w4 ⟨rfl,hs4⟩
  refine ⟨_,rfl,fun a7 p6=>?_⟩
  have f0':gv a7 0=v:=by simp [p6.gv,p5.gv,p4.gv,p3.gv,p2.gv,p1.gv,f0]
  have f2':gv a7 2=.int .i64 i:=by simp [p6.gv,p5.gv,p4.gv,p3.gv,p2.gv,p1.gv,f2]
  have fd':a7.defers=[]:=by rw [p6.df,p5.df,p4.df,p3.df,p2.df,p1.df,fd]
  have fz':=p6.sz.trans z5
  have fs':=fs.trans hs4
  clear p6 p5 p4 p3 p2 p1 z2 z3 z4 z5 f0 f2 fd fz hu hwu
  refine wp_seq (zbg rfl (zdn fz' rfl fun a8 p8=>?_))
  refine zl2 (s:=3) 0 (fun k a w'=>k≤0∧gv a 3=.int .i64 k∧Lp N w v n 64 2 i a w') (fun _ _ _=>False) ⟨Nat.le_refl _,by simp [p8.gv,zum],h1,by simp [p8.gv,f0'],by simp [p8.gv,f2'],p8.sz.trans fz',by rw [p8.df,fd'],fs'⟩ (fun k a w' hI=>⟨hI.1,hI.2.1⟩) ?_ (fun k _ _ hk=>absurd hk (Nat.not_lt_zero _)) (fun k _ _ hk=>absurd hk (Nat.not_lt_zero _)) (fun a w' hI=>hI.2.2)
  rintro k a w5 ⟨hk,h3,h1,h2,h2',h4,h5,h6⟩
  obtain rfl:k=0:=by omega
  obtain ⟨_,_,_,ad',c',hu⟩:=row' w5 h6
  refine zbg rfl (zbh h4 rfl fun a1 p1=>zbh (p1.sz.trans h4) rfl fun a2 p2=>?_)
  have z2:=p2.sz.trans (p1.sz.trans h4)
  refine zbh z2 rfl fun a3 p3=>?_
  have z3:=p3.sz.trans z2
  refine ze4 z3 rfl (sz:=16) (b:=b) (off:=off) (n:=n) (c:=c) (kk:=.i64) (i:=i) (by simp [ev_gv,p3.gv,p2.gv,p1.gv,h2,hv]) (by simp [ev_gv,p3.gv,p2.gv,p1.gv,h2']) (by omega) (by omega) fun a4 p4=>?_
  have z4:=p4.sz.trans z3
  refine zdg z4 rfl (fo:=15) (b:=b) (off:=off+i * 16) (by simp [ev_gv,p4.gv]) fun a5 p5=>?_
  have z5:=p5.sz.trans z4
  refine zf7 z5 rfl (b:=b) (off:=off+i * 16+15) (by simp [ev_gv,p5.gv]) hu fun a6 p6=>?_
  have z6:=p6.sz.trans z5
  refine zo4 z6 rfl (ad:=ad') (n:=0) (c:=c') (by simp [ev_gv,p6.gv]) fun a7 p7=>?_
  have z7:=p7.sz.trans z6
  refine zg9 z7 rfl (u:=.int .i64 0) (v:=.int .i64 0) (r:=.bool false) (by simp [ev_gv,p7.gv,p6.gv,p5.gv,p4.gv,p3.gv,p2.gv,p1.gv,h3]) (by simp [ev_gv,p7.gv]) (by simp [pbin]) fun a8 p8=>⟨by simp [ev_gv,p8.gv],Nat.le_refl _,?_,h1,?_,?_,p8.sz.trans z7,?_,h6⟩
  ·simp [p8.gv,p7.gv,p6.gv,p5.gv,p4.gv,p3.gv,p2.gv,p1.gv,h3]
  ·simp [p8.gv,p7.gv,p6.gv,p5.gv,p4.gv,p3.gv,p2.gv,p1.gv,h2]
  ·simp [p8.gv,p7.gv,p6.gv,p5.gv,p4.gv,p3.gv,p2.gv,p1.gv,h2']
  ·rw [p8.df,p7.df,p6.df,p5.df,p4.df,p3.df,p2.df,p1.df,h5]
 ·rintro i a w1 hlt ⟨h1,h2,h3,h4,h5,h6⟩
  refine zbg rfl (zbh h4 rfl fun a1 p1=>?_)
  have z1:=p1.sz.trans h4
  refine zg9 z1 rfl (u:=.int .i64 i) (v:=.int .i64 1) (r:=.int .i64 ((i+1:Nat):Int)) (by simp [ev_gv,p1.gv,h3]) rfl (zoa hlt hn) fun a2 p2=>zdn (p2.sz.trans z1) rfl fun a3 p3=>⟨by omega,?_,?_,p3.sz.trans (p2.sz.trans z1),?_,h6⟩
  ·simp [p3.gv,p2.gv,p1.gv,h2]
  ·simp [ev_gv,p3.gv,p2.gv]
  ·rw [p3.df,p2.df,p1.df,h5]
 ·rintro a w1 ⟨h1,h2,h3,h4,h5,h6⟩
  exact ⟨h5,.tuple #[],by simp [results,Tryz.f37],rfl,h6⟩
def SpT (N:Nat→Prop) (w:World) (cs:Array Value):Prop:=∃ n8 n9 nr u8 u9 ur,cs.size=40∧cs[9]?=some u8∧cs[10]?=some u9∧cs[39]?=some ur∧Win N w 1 gB n8 u8∧Win N w 16 gE n9 u9∧Win N w 13 gR nr ur
def SpK (N:Nat→Prop) (w:World) (v:Value):Prop:=∃ n,Win N w 16 (gM N w) n v
theorem zp6 {w0 : World} {X : Nat → Prop} {S0 : Base} {M : Mem} {a : Go.Act} {w : World} {tm : List PV} {bx : List (Nat × List PV)} {ob : List (Nat × Option (Bool × Nat × List (List PV)))} {o1 o2 : Oper} {c2 : Call} {s1 d1 kb : Nat} {ls : List PV}
    (hr:Rel w0 X S0 M (CSt.st ⟨tm,bx,ob⟩) a w) (h1:o1.op=.load 47 (.tmp s1)) (e1:o1.dst=some d1) (h2:o2.op=.call c2) (hc:c2.callee=.value (.func 36)) (ha:c2.args=#[.tmp d1]) (hd1:dltB o1.dst tm.length=true) (hd2:dltB o2.dst tm.length=true)
    (hs:tm[s1]?=some (.pt kb 0)) (hB:lkA bx kb=some ls) (hT:∀ (M:Mem) (w:World) (cs:Array Value),(∀ b,M.nw b→C00 w b)→RVL M w ls cs.toList→SpT M.nw w cs) (Q:Exit→Go.Act→World→Prop)
    (k:∀ a1 a2 v1 v2 w',Pt o1.dst v1 a a1→Pt o2.dst v2 a1 a2→Sim M.nw w w'→Q .normal a2 w'):rawL Tryz.prog Q [o1,o2] a w:=by
 have hv:=hr.tmp s1
 rw [List.getD_eq_getElem?_getD,show (CSt.st ⟨tm,bx,ob⟩).tmps=tm from rfl,hs] at hv
 simp only [Option.getD_some,RV] at hv
 obtain ⟨b,hb,hv⟩:=hv
 obtain ⟨hown,T,cs,hh,hcs⟩:=hr.toHRel.box' (k:=kb) hB hb
 obtain ⟨n8,n9,nr,u8,u9,ur,hsz,g8,g9,gr,w8,w9,wr⟩:=hT M w cs hr.c00.2 hcs
 refine zt6 hr.len.symm h1 (b:=b) (off:=0) (sz:=40) (cs:=cs.toList) hv (Cells.of_block hh) (by simpa using hsz) (fun a1 p1=>?_) (by kernel_rfl) hd1
 refine zhg (p1.sz.trans hr.len.symm) h2 hc (vs:=#[.agg cs]) (by rw [ha];simp [ev_gv,p1.gv,e1]) (sp_R (N:=M.nw) (fun b hb=>(hr.nwok b hb).1) hsz g8 g9 gr w8 w9 wr) ?_ hd2
 rintro e w' ⟨rfl,hs'⟩
 exact ⟨_,rfl,fun a2 p2=>k a1 a2 _ _ w' p1 p2 hs'⟩
theorem zrx:∀ bx:List (Nat×List PV),(fun k=>(lkA bx k).map dropL)=lkA (bx.map fun p=>(p.1,dropL p.2))
 | []=>by funext k;simp [lkA]
 | (j,l) :: r=>by
  funext k
  have:=congrFun (zrx r) k
  simp only [List.map_cons,lkA]
  by_cases e:j=k
  ·subst e;simp
  ·rw [zbj e];exact this
theorem zlw {id1 id2 : Nat} {o1 o2 o3 o4 : Oper} {c2 c4 : Call} {s1 d1 d2 s3 d3 kb : Nat} {d4 : Option Nat} {tm : List PV} {bx : List (Nat × List PV)} {ob : List (Nat × Option (Bool × Nat × List (List PV)))} {ls : List PV} {pk : PV} {Q : Exit → CSt → Prop}
    (hT:∀ (M:Mem) (w:World) (cs:Array Value),(∀ b,M.nw b→C00 w b)→RVL M w ls cs.toList→SpT M.nw w cs) (hK:∀ (M:Mem) (w:World) (v:Value),(∀ b,M.nw b→C00 w b)→RV M w pk v→SpK M.nw w v)
    (q:Q .normal ⟨setT (setT (setT (setT (tm.map dropF) (some d1) .bad) (some d2) .bad) (some d3) .bad) d4 .bad,bx.map fun p=>(p.1,dropL p.2),ob⟩)
    (h1:o1.op=.load 47 (.tmp s1):=by rfl) (e1:o1.dst=some d1:=by rfl) (h2:o2.op=.call c2:=by rfl) (hc:c2.callee=.value (.func 36):=by rfl) (ha:c2.args=#[.tmp d1]:=by rfl) (e2:o2.dst=some d2:=by rfl)
    (h3:o3.op=.move (.tmp s3):=by rfl) (e3:o3.dst=some d3:=by rfl) (h4:o4.op=.call c4:=by rfl) (hc4:c4.callee=.value (.func 37):=by rfl) (ha4:c4.args=#[.tmp d3]:=by rfl) (e4:o4.dst=d4:=by rfl)
    (hg:([o1,o2].all fun o=>o.guard.isNone)=true:=by rfl) (hg':([o3,o4].all fun o=>o.guard.isNone)=true:=by rfl)
    (hd:(dltB o1.dst tm.length && dltB o2.dst tm.length && dltB o3.dst tm.length && dltB o4.dst tm.length && !(s3 == d1) && !(s3 == d2))=true:=by kernel_rfl)
    (hs:tm[s1]?=some (.pt kb 0):=by kernel_rfl) (hB:lkA bx kb=some ls:=by kernel_rfl) (hs3:tm[s3]?=some pk:=by kernel_rfl) :
    Tri Tryz.prog ((Code.region id1 [o1,o2].toArray false).seq (Code.region id2 [o3,o4].toArray false)) Q ⟨tm,bx,ob⟩:=by
 refine ⟨fun w0 X S0 M a w hr=>?_⟩
 simp only [Bool.and_eq_true,Bool.not_eq_true',beq_eq_false_iff_ne] at hd
 obtain ⟨⟨⟨⟨⟨hd1,hd2⟩,hd3⟩,hd4⟩,hn1⟩,hn2⟩:=hd
 have hv:=hr.tmp s3
 rw [List.getD_eq_getElem?_getD,show (CSt.st ⟨tm,bx,ob⟩).tmps=tm from rfl,hs3] at hv
 simp only [Option.getD_some] at hv
 obtain ⟨n,hw⟩:=hK M w _ hr.c00.2 hv
 refine wp_seq (zbg hg (zp6 hr h1 e1 h2 hc ha hd1 hd2 hs hB hT _ fun a1 a2 v1 v2 w1 p1 p2 hs1=>?_))
 have z2:a2.tmps.size=tm.length:=p2.sz.trans (p1.sz.trans hr.len.symm)
 refine zbg hg' (zbh z2 h3 (fun a3 p3=>?_) hd3)
 have z3:=p3.sz.trans z2
 refine zhg z3 h4 hc4 (vs:=#[gv a s3]) ?_ (sp_M (winM hs1 hw)) ?_ hd4
 ·rw [ha4]
  simp only [List.map_toArray,List.map_cons,List.map_nil,ev_gv,p3.gv,e3,if_true]
  rw [p2.gv,e2,if_neg (fun e=>hn2 (Option.some.inj e).symm),p1.gv,e1,if_neg (fun e=>hn1 (Option.some.inj e).symm)]
 rintro e w2 ⟨rfl,hs2⟩
 refine ⟨_,rfl,fun a4 p4=>⟨_,M.dr,?_,q⟩⟩
 have:=((((hr.spoil (hs1.trans hs2)).pt p1).pt p2).pt p3).pt p4
 rw [e1,e2,e3,e4] at this
 simp only [show (CSt.st ⟨tm,bx,ob⟩).B=lkA bx from rfl,zrx] at this
 exact this
theorem zcw {id1 : Nat} {o1 o2 : Oper} {c2 : Call} {s1 d1 kb : Nat} {d2 : Option Nat} {tm : List PV} {bx : List (Nat × List PV)} {ob : List (Nat × Option (Bool × Nat × List (List PV)))} {ls : List PV} {Q : Exit → CSt → Prop}
    (hT:∀ (M:Mem) (w:World) (cs:Array Value),(∀ b,M.nw b→C00 w b)→RVL M w ls cs.toList→SpT M.nw w cs)
    (q:Q .normal ⟨setT (setT (tm.map dropF) (some d1) .bad) d2 .bad,bx.map fun p=>(p.1,dropL p.2),ob⟩)
    (h1:o1.op=.load 47 (.tmp s1):=by rfl) (e1:o1.dst=some d1:=by rfl) (h2:o2.op=.call c2:=by rfl) (hc:c2.callee=.value (.func 36):=by rfl) (ha:c2.args=#[.tmp d1]:=by rfl) (e2:o2.dst=d2:=by rfl)
    (hg:([o1,o2].all fun o=>o.guard.isNone)=true:=by rfl) (hd:(dltB o1.dst tm.length && dltB o2.dst tm.length)=true:=by kernel_rfl)
    (hs:tm[s1]?=some (.pt kb 0):=by kernel_rfl) (hB:lkA bx kb=some ls:=by kernel_rfl) :
    Tri Tryz.prog (Code.region id1 [o1,o2].toArray false) Q ⟨tm,bx,ob⟩:=by
 refine ⟨fun w0 X S0 M a w hr=>?_⟩
 simp only [Bool.and_eq_true] at hd
 refine zbg hg (zp6 hr h1 e1 h2 hc ha hd.1 hd.2 hs hB hT _ fun a1 a2 v1 v2 w1 p1 p2 hs1=>⟨_,M.dr,?_,q⟩)
 have:=((hr.spoil hs1).pt p1).pt p2
 rw [e1,e2] at this
 simp only [show (CSt.st ⟨tm,bx,ob⟩).B=lkA bx from rfl,zrx] at this
 exact this
theorem zty {N : Nat → Prop} {M : Mem} {w : World} {sz : Nat} {rows : List (List PV)} {F : (Nat → Option Value) → Prop} {a : Option Addr} {n c : Nat} (h00 : ∀ b, N b → C00 w b) (hl : rows.length ≤ 4611686018427387904) (hn : n = rows.length)
    (h:rows=[]∨∃ b off cs,a=some ⟨b,off,none⟩∧N b∧Cells w b off cs∧RVR M w sz rows cs) (hF:∀ r ∈ rows,∀ g:Nat→Option Value,(∀ (j:Nat) (p:PV),r[j]?=some p→∃ u,g j=some u∧RV M w p u)→F g) :
    Win N w sz F n (.slice a n c):=by
 subst hn
 refine ⟨a,c,rfl,hl,?_⟩
 rcases h with rfl | ⟨b,off,cs,ha,hb,hc,hr⟩
 ·exact .inl rfl
 ·refine .inr ⟨b,off,ha,hb,h00 b hb,fun i hi=>?_⟩
  obtain ⟨e1,e2,e3⟩:=hr.row i (List.getElem?_eq_getElem hi)
  refine hF _ (List.getElem_mem hi) _ fun j p hp=>?_
  obtain ⟨u,hu,hv⟩:=e2.get j hp
  refine ⟨u,?_,hv⟩
  have hj:j < sz:=by
   have:=(List.getElem?_eq_some_iff.1 hp).1
   omega
  rw [List.getElem?_take,if_pos hj,List.getElem?_drop] at hu
  have:=hc (i * sz+j) u hu
  rw [← Nat.add_assoc] at this
  exact this
theorem zuu {M : Mem} {w : World} {sz : Nat} {rows : List (List PV)} {F : (Nat → Option Value) → Prop} {v : Value} (h00 : ∀ b, M.nw b → C00 w b) (hl : rows.length ≤ 4611686018427387904) (h : RV M w (.fs sz rows) v)
    (hF:∀ r ∈ rows,∀ g:Nat→Option Value,(∀ (j:Nat) (p:PV),r[j]?=some p→∃ u,g j=some u∧RV M.cf w p u)→F g):Win M.nw w sz F rows.length v:=by
 simp only [RV] at h
 obtain ⟨a,n,c,rfl,hn,_,r⟩:=h
 subst hn
 exact zty h00 hl rfl r hF
theorem win_sl {M : Mem} {w : World} {sz : Nat} {rows : List (List PV)} {F : (Nat → Option Value) → Prop} {v : Value} (h00 : ∀ b, M.nw b → C00 w b) (hl : rows.length ≤ 4611686018427387904) (h : RV M.cf w (.sl sz rows) v)
    (hF:∀ r ∈ rows,∀ g:Nat→Option Value,(∀ (j:Nat) (p:PV),r[j]?=some p→∃ u,g j=some u∧RV M.cf.cl w p u)→F g):Win M.nw w sz F rows.length v:=by
 simp only [RV] at h
 obtain ⟨a,n,c,rfl,hn,_,r⟩:=h
 subst hn
 exact zty h00 hl rfl r hF
theorem zjp {N:Nat→Prop}{M:Mem}{w:World}{sz:Nat}{F:(Nat→Option Value)→Prop}{v:Value} (h:RV M w .nl v):Win N w sz F 0 v:=by
 simp only [RV] at h
 obtain ⟨a,rfl⟩:=h
 exact ⟨a,0,rfl,by decide,.inl rfl⟩
theorem row_B {M:Mem}{w:World} (l:List Int):∀ r ∈ l.map encB,∀ g:Nat→Option Value,(∀ (j:Nat) (p:PV),r[j]?=some p→∃ u,g j=some u∧RV M w p u)→gB g:=by
 intro r hr g h
 obtain ⟨x,_,rfl⟩:=List.mem_map.1 hr
 obtain ⟨u,hu,hv⟩:=h 0 _ rfl
 simp only [RV] at hv
 exact ⟨x,hv ▸ hu⟩
theorem row_E {M:Mem}{w:World} (l:List Ent):∀ r ∈ l.map Ent.enc,∀ g:Nat→Option Value,(∀ (j:Nat) (p:PV),r[j]?=some p→∃ u,g j=some u∧RV M w p u)→gE g:=by
 intro r hr g h
 obtain ⟨x,_,rfl⟩:=List.mem_map.1 hr
 obtain ⟨u,hu,hv⟩:=h 0 _ rfl
 simp only [RV] at hv
 exact ⟨x.term,hv ▸ hu⟩
theorem row_R {M:Mem}{w:World} (l:List Rd):∀ r ∈ l.map Rd.enc,∀ g:Nat→Option Value,(∀ (j:Nat) (p:PV),r[j]?=some p→∃ u,g j=some u∧RV M w p u)→gR g:=by
 intro r hr g h
 obtain ⟨x,_,rfl⟩:=List.mem_map.1 hr
 obtain ⟨u,hu,hv⟩:=h 12 _ rfl
 simp only [RV] at hv
 exact ⟨x.acks,hv ▸ hu⟩
theorem z1n (x : Rft) (h1 : x.hard.snap.length ≤ 4611686018427387904) (h2 : x.hard.log.length ≤ 4611686018427387904) (h3 : x.reads.length ≤ 4611686018427387904) :
    ∀ (M:Mem) (w:World) (cs:Array Value),(∀ b,M.nw b→C00 w b)→RVL M w (fsL x.enc) cs.toList→SpT M.nw w cs:=by
 intro M w cs h00 h
 have hlen:=h.length
 obtain ⟨u8,g8,v8⟩:=h.get 9 (p:=.fs 1 (x.hard.snap.map encB)) rfl
 obtain ⟨u9,g9,v9⟩:=h.get 10 (p:=.fs 16 (x.hard.log.map Ent.enc)) rfl
 obtain ⟨ur,gr,vr⟩:=h.get 39 (p:=.fs 13 (x.reads.map Rd.enc)) rfl
 exact ⟨_,_,_,u8,u9,ur,hlen,by simpa using g8,by simpa using g9,by simpa using gr,zuu h00 (by simpa using h1) v8 (row_B _),zuu h00 (by simpa using h2) v9 (row_E _),zuu h00 (by simpa using h3) vr (row_R _)⟩
theorem scB (l:List Int):ScR (l.map encB):=by intro r hr;obtain ⟨x,_,rfl⟩:=List.mem_map.1 hr;rfl
theorem scE (l:List Ent):ScR (l.map Ent.enc):=by intro r hr;obtain ⟨x,_,rfl⟩:=List.mem_map.1 hr;rfl
theorem scD (l:List Rd):ScR (l.map Rd.enc):=by intro r hr;obtain ⟨x,_,rfl⟩:=List.mem_map.1 hr;rfl
abbrev rftV (x:Rft) (sn lg rd:PV):List PV:=[iv x.id,iv x.hard.term,iv x.hard.vote,iv x.hard.base,iv x.hard.baseTerm,iv x.hard.baseConf.full,iv x.hard.baseConf.wit,iv x.hard.baseConf.learn,iv x.hard.baseConf.lwit,sn,lg,iv x.commit,iv x.role,iv x.lead,iv x.wait,iv x.quiet,iv x.votes,iv x.round,iv x.next.a0,iv x.next.a1,iv x.next.a2,iv x.next.a3,iv x.next.a4,iv x.next.a5,iv x.next.a6,iv x.mtch.a0,iv x.mtch.a1,iv x.mtch.a2,iv x.mtch.a3,iv x.mtch.a4,iv x.mtch.a5,iv x.mtch.a6,iv x.silent.a0,iv x.silent.a1,iv x.silent.a2,iv x.silent.a3,iv x.silent.a4,iv x.silent.a5,iv x.silent.a6,rd]
abbrev rftE (x:Rft):List PV:=rftV x (snW x 9990) (lgW x 9991) (rdW x 9992)
abbrev ownO (x:Rft):List (Nat×Option (Bool×Nat×List (List PV))):=[(9990,snO x),(9991,lgO x),(9992,rdO x)]
theorem c_ofE (r : Rft) (h1 : r.hard.snap.length ≤ 4294967296) (h2 : r.hard.log.length ≤ 4294967296) (h3 : r.reads.length ≤ 4294967296) (hr : zbu r = true) :
    CtrE Tryz.prog 44 [.ag (rftE r)] [] (ownO r) (.tu [.pt 28 0,iv 0]) [(28,repV r (snW r 0) (lgW r 1) (rdW r 2) (.ow 3 0 0))] [(0,snO r),(1,lgO r),(2,rdO r),(3,some (false,16,[])),(9990,snO r),(9991,lgO r),(9992,rdO r)]:=by
 have k:=zud r (zad h2) (zad h3)
 rw [hr,if_pos rfl] at k
 refine zaj Tryz.func44 ?_;conv=>whnf
 refine tB0 k ?_
 refine tB1 (zcn r.hard.snap h1) (scB r.hard.snap) ?_
 refine tB1 (zb7 r.hard.log h2) (scE r.hard.log) ?_
 refine tB1 (zf9 r.reads h3) (scD r.reads) ?_
 refine zdv 28 40 3000 16 _ rfl rfl rfl ?_
 conv=>whnf
 exact eX [(0,208),(1,272),(2,320),(3,3000),(9990,9990),(9991,9991),(9992,9992)]
abbrev lowP (m:Mg) (e s:PV):List PV:=[iv m.kind,iv m.frm,iv m.to,iv m.term,iv m.index,iv m.logTerm,iv m.commit,iv m.round,bv m.yes,e,iv m.conf.full,iv m.conf.wit,iv m.conf.learn,iv m.conf.lwit,s,.nl]
theorem c_lowO (m:Mg) (h1:m.entries.length≤4294967) (h2:m.snap.length≤4294967):Ctr Tryz.prog 97 [.ag m.enc] (.ag (lowP m (.ow 0 0 (m.entries.map Ent.enc).length) (.ow 1 0 (m.snap.map encB).length))) [(16,m.entries.map Ent.enc),(1,m.snap.map encB)]:=by
 refine sBody Tryz.func97 ?_;conv=>whnf
 refine tC (zch m.entries (by omega)) ?_
 refine tN1 ?_
 refine tC (zqn m.snap (by omega)) ?_
 refine tN1 ?_
 refine zal [(0,112),(1,176)] rfl ⟨rfl,rfl,True.intro⟩ (zao ?_)
 conv=>whnf
 repeat' (first | exact rfl | ((with_reducible refine And.intro ?_ ?_)<;>(first | (with_reducible exact zae _ rfl) | exact zas rfl rfl rfl | (conv=>whnf))))
theorem zv7 (m:Mg) (h0:m.inner=[]) (h1:m.entries.length≤4294967) (h2:m.snap.length≤4294967):Ctr Tryz.prog 41 [.ag m.enc] (.ag (lowP m (.ow 0 0 (m.entries.map Ent.enc).length) (.ow 1 0 (m.snap.map encB).length))) [(16,m.entries.map Ent.enc),(1,m.snap.map encB)]:=by
 have k:=c_lowO m h1 h2
 unfold Mg.enc at k ⊢
 rw [h0] at k ⊢
 refine sBody Tryz.func41 ?_;conv=>whnf
 refine tC k ?_
 refine tN2 ?_
 refine zby mixed (by kernel_rfl) 1 ?_
 conv=>whnf
 refine zal [(0,128),(1,129)] rfl ⟨rfl,rfl,True.intro⟩ (zao ?_)
 conv=>whnf
 repeat' (first | exact rfl | ((with_reducible refine And.intro ?_ ?_)<;>(first | (with_reducible exact zae _ rfl) | exact zas rfl rfl rfl | (conv=>whnf))))
theorem zmr (m:Mg) (h0:m.inner=[]) (h1:m.entries.length≤4294967) (h2:m.snap.length≤4294967):CtrN Tryz.prog 41 [.ag m.enc] (.ag (lowP m (.sl 16 (m.entries.map Ent.enc)) (.sl 1 (m.snap.map encB)))):=by
 refine (zv7 m h0 h1 h2).toN ?_ ?_
 ·intro q hq
  rcases List.mem_cons.1 hq with rfl | hq
  ·exact scE _
  ·rw [List.mem_singleton.1 hq];exact scB _
 ·refine ⟨_,rfl,?_⟩
  repeat' (first | exact rfl | refine ⟨_,_,rfl,rfl,?_⟩ | refine ⟨_,_,rfl,⟨_,_,rfl,rfl,rfl,rfl⟩,?_⟩)
theorem z0r (m:Mg) (h1:m.snap.length≤maxLen) (h2:m.entries.length≤maxLen):Ctr Tryz.prog 42 [.ag (m.wi []).enc,.ag (m.wi []).enc] (bv true) [] :=
 s_Msg m [] (by decide) (fun _=>[]) (fun z hz=>absurd hz (List.not_mem_nil)) h1 h2
theorem zr8 (m:Arr) (n:Int) (i:Nat):∀ k:Nat,k≤7→tb (haveB m n k) i=true→n≤m.at i
 | 0,_,h=>by
  rw [show haveB m n 0=0 from rfl,ze9] at h
  cases h
 | k+1,hk,h=>by
  by_cases hc:n≤m.at k
  ·rw [show haveB m n (k+1)=bor (haveB m n k) (shl 1 k) from if_pos hc,tb_or,Bool.or_eq_true] at h
   rcases h with h | h
   ·exact zr8 m n i k (by omega) h
   ·rw [ze1 k i (by omega),decide_eq_true_eq] at h
    subst h;exact hc
  ·rw [show haveB m n (k+1)=haveB m n k from if_neg hc] at h
   exact zr8 m n i k (by omega) h
theorem zrp (a:Arr) (x:Int) {k i:Nat} (hk:k < 7) (hi:i < 7):(a.put k x).at i=if i=k then x else a.at i:=by
 rcases (by omega:k=0∨k=1∨k=2∨k=3∨k=4∨k=5∨k=6) with rfl | rfl | rfl | rfl | rfl | rfl | rfl <;>
 rcases (by omega:i=0∨i=1∨i=2∨i=3∨i=4∨i=5∨i=6) with rfl | rfl | rfl | rfl | rfl | rfl | rfl<;>rfl
end Go.Proofs
