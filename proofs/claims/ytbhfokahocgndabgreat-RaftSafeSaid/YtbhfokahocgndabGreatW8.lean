import Derived.Test.YtbhfokahocgndabGreatPvQ3
import Derived.Test.YtbhfokahocgndabGreatW11
import Derived.Test.YtbhfokahocgndabGreatY6
import Derived.Test.YtbhfokahocgndabGreatU15
import Derived.Test.YtbhfokahocgndabGreatS13
import Derived.Test.YtbhfokahocgndabGreatR3
import Derived.Test.YtbhfokahocgndabGreatQ6
import Derived.Test.YtbhfokahocgndabGreatC48
import Derived.Test.YtbhfokahocgndabGreatQ3
import Derived.Test.YtbhfokahocgndabGreatR6
import Derived.Test.YtbhfokahocgndabGreatU17
/- Contracts of functions: an act of a play: lost, doubled, a crash, nothing; a call, a configuration, a question, a snapshot. (genW6.py prints this) -/
set_option linter.unusedSimpArgs false
set_option linter.unusedVariables false
set_option maxHeartbeats 32000000
namespace Go.Proofs
open Go.Pv
set_option maxRecDepth 100000
theorem zvx (s : Svn) (ms : List My) (hM : ms.length ≤ 100) (a : Act) (k : Nat) (hk : k < 7) (hki : IntKind.i64.wrap ((IntKind.u64.wrap a.i).tmod 7) = (k : Int)) (kd : Int) (hd : (IntKind.u64.wrap a.doo).tmod 18 = kd) (hsm : (s.at k).small) (j : Nat) (hj : j < ms.length) (hdr : IntKind.i64.wrap ((IntKind.u64.wrap a.n).tmod (IntKind.u64.wrap (ms.length : Int))) = (j : Int)) (y : My) (hy : ms[j]'hj = y) (b : Bool) (hkd : kd = 10) :
    CtrE Tryz.prog 11 [.pt 9990 0,.ag a.enc,bv b] [(9990,someI s (ms.map My.enc))] (someO (ms.map My.enc)) (bv true) [(9990,someV s (.ow 1 0 ((ms.eraseIdx j).map My.enc).length))] [(9990,some (false,16,ms.map My.enc)),(1,some (false,16,((ms.eraseIdx j).map My.enc)))]:=by
 have ko:=zr7 s ms hM j hj
 rw [hy] at ko
 have hml:(ms.map My.enc).length=ms.length:=List.length_map ..
 have hn0:¬ IntKind.u64.wrap ((ms.map My.enc).length:Int)=0:=by rw [hml,zbz (by omega) (by omega)];omega
 have hdr2:IntKind.i64.wrap ((IntKind.u64.wrap a.n).tmod (IntKind.u64.wrap ((ms.map My.enc).length:Int)))=(j:Int):=by rw [hml];exact hdr
 have hne:¬ ((ms.map My.enc).length:Int)=0:=by omega
 have hgt:((ms.map My.enc).length:Int) > 0:=by omega
 have kt0:=za4 (s.at k) hsm
 have ks0:=ze5 (s.at k) (zad hsm.snap) (zad hsm.log) (zad hsm.reads)
 refine zay mixed Tryz.func11 rfl (by kernel_rfl) (by kernel_rfl) ?_
 refine tQ ?_
 refine tQ ?_
 refine tK2 ?_
 rw [hki]
 refine tCut (fun _:Unit=>True) (fun _=>[(8,.pt 8 0)]) (fun _=>[(9990,someI s (ms.map My.enc)),(4,a.enc),(8,(s.at k).enc)]) (fun _=>someO (ms.map My.enc)) ?_ ?_
 ·conv=>whnf
  refine ⟨⟨Int.natCast_nonneg _,Int.ofNat_lt.2 hk⟩,?_⟩
  conv=>whnf
  refine ze7 hk (by first | (show 0+0+((k:Nat):Int).toNat * 40=k * 40;omega) | (show 0+((k:Nat):Int).toNat * 40=k * 40;omega)) ?_
  conv=>whnf
  refine ⟨(),[(9990,9990)],True.intro,?_⟩
  exact wkE
 rintro _ _
 generalize hrr:s.at k=r at *
 conv=>whnf
 refine tQ ?_
 refine tC kt0 ?_
 refine tN0 ?_
 refine tQ ?_
 refine tCut (fun _:Unit=>True) (fun _=>[(10,bv true)]) (fun _=>[(9990,someV (s) (.ow 1000 0 (((ms.eraseIdx j).map My.enc)).length)),(4,a.enc),(8,r.enc),(9,r.enc)]) (fun _=>[(9990,some (false,16,ms.map My.enc)),(1000,some (false,16,((ms.eraseIdx j).map My.enc)))]) ?_ ?_
 ·conv=>whnf
  refine tK2 ?_
  rw [hd]
  conv=>whnf
  subst hkd
  refine tK ?_
  refine ⟨⟨hn0,by decide⟩,?_⟩
  conv=>whnf
  rw [hdr2]
  refine Exists.intro (some ([(9990,9990)],[(9990,9990)],[(1,1002)])) ?_
  conv=>whnf
  refine zdw (r2:=.ag y.enc) (wb:=[(9990,someV s (.ow 1002 0 ((ms.eraseIdx j).map My.enc).length))]) ko (by kernel_rfl) (by kernel_rfl) (by kernel_rfl) (my_sh y) (by kernel_rfl) ?_
  conv=>whnf
  refine ⟨(),[(9990,9990),(1000,1002)],True.intro,?_⟩
  exact wkE
 rintro _ _
 refine tZ ?_
 refine tC ks0 ?_
 exact eX [(9990,9990),(1,1000)]
theorem zp2 (s : Svn) (ms : List My) (hM : ms.length ≤ 100) (a : Act) (k : Nat) (hk : k < 7) (hki : IntKind.i64.wrap ((IntKind.u64.wrap a.i).tmod 7) = (k : Int)) (kd : Int) (hd : (IntKind.u64.wrap a.doo).tmod 18 = kd) (hsm : (s.at k).small) (j : Nat) (hj : j < ms.length) (hdr : IntKind.i64.wrap ((IntKind.u64.wrap a.n).tmod (IntKind.u64.wrap (ms.length : Int))) = (j : Int)) (y : My) (hy : ms[j]'hj = y) (b : Bool) (hkd : kd = 11) :
    CtrE Tryz.prog 11 [.pt 9990 0,.ag a.enc,bv b] [(9990,someI s (ms.map My.enc))] (someO (ms.map My.enc)) (bv true) [(9990,someV s (.ow 1 0 (capM (ms.map My.enc) [y.enc]).length))] [(9990,none),(1,some (false,16,capM (ms.map My.enc) [y.enc]))]:=by
 have hrow:(ms.map My.enc)[j]?=some y.enc:=by rw [List.getElem?_map,List.getElem?_eq_getElem hj,hy];rfl
 have hM2:(ms.map My.enc).length≤100:=by rw [List.length_map];omega
 have ksd:=zx6 s (ms.map My.enc) hM2 j y hrow
 have hml:(ms.map My.enc).length=ms.length:=List.length_map ..
 have hn0:¬ IntKind.u64.wrap ((ms.map My.enc).length:Int)=0:=by rw [hml,zbz (by omega) (by omega)];omega
 have hdr2:IntKind.i64.wrap ((IntKind.u64.wrap a.n).tmod (IntKind.u64.wrap ((ms.map My.enc).length:Int)))=(j:Int):=by rw [hml];exact hdr
 have hne:¬ ((ms.map My.enc).length:Int)=0:=by omega
 have hgt:((ms.map My.enc).length:Int) > 0:=by omega
 have kt0:=za4 (s.at k) hsm
 have ks0:=ze5 (s.at k) (zad hsm.snap) (zad hsm.log) (zad hsm.reads)
 refine zay mixed Tryz.func11 rfl (by kernel_rfl) (by kernel_rfl) ?_
 refine tQ ?_
 refine tQ ?_
 refine tK2 ?_
 rw [hki]
 refine tCut (fun _:Unit=>True) (fun _=>[(8,.pt 8 0)]) (fun _=>[(9990,someI s (ms.map My.enc)),(4,a.enc),(8,(s.at k).enc)]) (fun _=>someO (ms.map My.enc)) ?_ ?_
 ·conv=>whnf
  refine ⟨⟨Int.natCast_nonneg _,Int.ofNat_lt.2 hk⟩,?_⟩
  conv=>whnf
  refine ze7 hk (by first | (show 0+0+((k:Nat):Int).toNat * 40=k * 40;omega) | (show 0+((k:Nat):Int).toNat * 40=k * 40;omega)) ?_
  conv=>whnf
  refine ⟨(),[(9990,9990)],True.intro,?_⟩
  exact wkE
 rintro _ _
 generalize hrr:s.at k=r at *
 conv=>whnf
 refine tQ ?_
 refine tC kt0 ?_
 refine tN0 ?_
 refine tQ ?_
 refine tCut (fun _:Unit=>True) (fun _=>[(10,bv true)]) (fun _=>[(9990,someV (s) (.ow 1000 0 (capM (ms.map My.enc) [y.enc]).length)),(4,a.enc),(8,r.enc),(9,r.enc)]) (fun _=>[(9990,none),(1000,some (false,16,capM (ms.map My.enc) [y.enc]))]) ?_ ?_
 ·conv=>whnf
  refine tK2 ?_
  rw [hd]
  conv=>whnf
  subst hkd
  refine tK ?_
  refine ⟨⟨hn0,by decide⟩,?_⟩
  conv=>whnf
  rw [hdr2]
  refine ⟨⟨by omega,by omega,by omega⟩,?_⟩
  conv=>whnf
  refine ⟨⟨by omega,by omega,by omega⟩,?_⟩
  conv=>whnf
  refine Exists.intro (some ([(9990,9990)],[(9990,9990)],[(1,1001)])) ?_
  conv=>whnf
  refine zdw (r2:=.tu []) (wb:=[(9990,someV s (.ow 1001 0 (capM (ms.map My.enc) [y.enc]).length))]) ksd ?_ (by kernel_rfl) (by kernel_rfl) (by kernel_rfl) (by kernel_rfl) ?_
  ·rw [show 0+((j:Nat):Int).toNat+Int.toNat 0=j from by omega];rfl
  conv=>whnf
  refine ⟨(),[(9990,9990),(1000,1001)],True.intro,?_⟩
  exact wkE
 rintro _ _
 refine tZ ?_
 refine tC ks0 ?_
 exact eX [(9990,9990),(1,1000)]
theorem zss (s : Svn) (M : List (List PV)) (hM : M.length ≤ 100) (a : Act) (k : Nat) (hk : k < 7) (hki : IntKind.i64.wrap ((IntKind.u64.wrap a.i).tmod 7) = (k : Int)) (kd : Int) (hd : (IntKind.u64.wrap a.doo).tmod 18 = kd) (hsm : (s.at k).small) (b : Bool) (hkd : kd = 17) :
    CtrE Tryz.prog 11 [.pt 9990 0,.ag a.enc,bv b] [(9990,someI s M)] (someO M) (bv true) [(9990,someI (s.put k (newR k (s.at k).hard)) M)] (someO M):=by
 have kn:=c_zNew (k:Int) (s.at k).hard hsm.snap hsm.log
 have kt0:=za4 (s.at k) hsm
 have ks0:=ze5 (s.at k) (zad hsm.snap) (zad hsm.log) (zad hsm.reads)
 refine zay mixed Tryz.func11 rfl (by kernel_rfl) (by kernel_rfl) ?_
 refine tQ ?_
 refine tQ ?_
 refine tK2 ?_
 rw [hki]
 refine tCut (fun _:Unit=>True) (fun _=>[(8,.pt 8 0)]) (fun _=>[(9990,someI s M),(4,a.enc),(8,(s.at k).enc)]) (fun _=>someO M) ?_ ?_
 ·conv=>whnf
  refine ⟨⟨Int.natCast_nonneg _,Int.ofNat_lt.2 hk⟩,?_⟩
  conv=>whnf
  refine ze7 hk (by first | (show 0+0+((k:Nat):Int).toNat * 40=k * 40;omega) | (show 0+((k:Nat):Int).toNat * 40=k * 40;omega)) ?_
  conv=>whnf
  refine ⟨(),[(9990,9990)],True.intro,?_⟩
  exact wkE
 rintro _ _
 generalize hrr:s.at k=r at *
 conv=>whnf
 refine tQ ?_
 refine tC kt0 ?_
 refine tN0 ?_
 refine tQ ?_
 refine tCut (fun _:Unit=>True) (fun _=>[(10,bv true)]) (fun _=>[(9990,someI (s.put k (newR k r.hard)) M),(4,a.enc),(8,r.enc),(9,r.enc)]) (fun _=>someO M) ?_ ?_
 ·conv=>whnf
  refine tK2 ?_
  rw [hd]
  conv=>whnf
  subst hkd
  refine tC kn ?_
  refine tN0 ?_
  generalize newR (k:Int) r.hard=X at *
  refine ⟨⟨Int.natCast_nonneg _,Int.ofNat_lt.2 hk⟩,?_⟩
  conv=>whnf
  refine zol hk (by first | (show 0+0+((k:Nat):Int).toNat * 40=k * 40;omega) | (show 0+((k:Nat):Int).toNat * 40=k * 40;omega)) ?_
  conv=>whnf
  refine ⟨(),[(9990,9990)],True.intro,?_⟩
  exact wkE
 rintro _ _
 refine tZ ?_
 refine tC ks0 ?_
 exact eX [(9990,9990)]
theorem zzs (s : Svn) (M : List (List PV)) (hM : M.length ≤ 100) (a : Act) (k : Nat) (hk : k < 7) (hki : IntKind.i64.wrap ((IntKind.u64.wrap a.i).tmod 7) = (k : Int)) (kd : Int) (hd : (IntKind.u64.wrap a.doo).tmod 18 = kd) (hsm : (s.at k).small) (b : Bool) (hkd : 12 ≤ kd ∧ kd ≤ 16) (R : Rft) (ka : CtrE Tryz.prog 43 [.pt 9990 0, .ag a.enc, iv k, .ag (s.at k).enc, bv b] [(9990, someI s M)] (someO M) (bv true) [(9990, someI (s.put k R) M)] (someO M)) :
    CtrE Tryz.prog 11 [.pt 9990 0,.ag a.enc,bv b] [(9990,someI s M)] (someO M) (bv true) [(9990,someI (s.put k R) M)] (someO M):=by
 have kt0:=za4 (s.at k) hsm
 have ks0:=ze5 (s.at k) (zad hsm.snap) (zad hsm.log) (zad hsm.reads)
 refine zay mixed Tryz.func11 rfl (by kernel_rfl) (by kernel_rfl) ?_
 refine tQ ?_
 refine tQ ?_
 refine tK2 ?_
 rw [hki]
 refine tCut (fun _:Unit=>True) (fun _=>[(8,.pt 8 0)]) (fun _=>[(9990,someI s M),(4,a.enc),(8,(s.at k).enc)]) (fun _=>someO M) ?_ ?_
 ·conv=>whnf
  refine ⟨⟨Int.natCast_nonneg _,Int.ofNat_lt.2 hk⟩,?_⟩
  conv=>whnf
  refine ze7 hk (by first | (show 0+0+((k:Nat):Int).toNat * 40=k * 40;omega) | (show 0+((k:Nat):Int).toNat * 40=k * 40;omega)) ?_
  conv=>whnf
  refine ⟨(),[(9990,9990)],True.intro,?_⟩
  exact wkE
 rintro _ _
 generalize hrr:s.at k=r at *
 conv=>whnf
 refine tQ ?_
 refine tC kt0 ?_
 refine tN0 ?_
 refine tQ ?_
 refine tCut (fun _:Unit=>True) (fun _=>[(10,bv true)]) (fun _=>[(9990,someI (s.put k R) M),(4,a.enc),(8,r.enc),(9,r.enc)]) (fun _=>someO M) ?_ ?_
 ·conv=>whnf
  refine tK2 ?_
  rw [hd]
  refine tK ?_
  refine tK ?_
  refine tK ?_
  refine tK ?_
  refine tK ?_
  refine Exists.intro (some ([(9990,9990)],[(9990,9990)],[])) ?_
  conv=>whnf
  refine cFast (r2:=bv true) (wb:=[(9990,someI (s.put k R) M)]) ka ?_
  conv=>whnf
  refine ⟨(),[(9990,9990)],True.intro,?_⟩
  exact wkE
 rintro _ _
 refine tZ ?_
 refine tC ks0 ?_
 exact eX [(9990,9990)]
theorem zwr (s : Svn) (M : List (List PV)) (hM : M.length ≤ 100) (a : Act) (k : Nat) (hk : k < 7) (hki : IntKind.i64.wrap ((IntKind.u64.wrap a.i).tmod 7) = (k : Int)) (kd : Int) (hd : (IntKind.u64.wrap a.doo).tmod 18 = kd) (hsm : (s.at k).small) (b : Bool) (hM0 : M = []) (hkd : 4 ≤ kd ∧ kd ≤ 11) :
    CtrE Tryz.prog 11 [.pt 9990 0,.ag a.enc,bv b] [(9990,someI s M)] (someO M) (bv true) [(9990,someI s M)] (someO M):=by
 subst hM0
 have kt0:=za4 (s.at k) hsm
 have ks0:=ze5 (s.at k) (zad hsm.snap) (zad hsm.log) (zad hsm.reads)
 refine zay mixed Tryz.func11 rfl (by kernel_rfl) (by kernel_rfl) ?_
 refine tQ ?_
 refine tQ ?_
 refine tK2 ?_
 rw [hki]
 refine tCut (fun _:Unit=>True) (fun _=>[(8,.pt 8 0)]) (fun _=>[(9990,someI s []),(4,a.enc),(8,(s.at k).enc)]) (fun _=>someO []) ?_ ?_
 ·conv=>whnf
  refine ⟨⟨Int.natCast_nonneg _,Int.ofNat_lt.2 hk⟩,?_⟩
  conv=>whnf
  refine ze7 hk (by first | (show 0+0+((k:Nat):Int).toNat * 40=k * 40;omega) | (show 0+((k:Nat):Int).toNat * 40=k * 40;omega)) ?_
  conv=>whnf
  refine ⟨(),[(9990,9990)],True.intro,?_⟩
  exact wkE
 rintro _ _
 generalize hrr:s.at k=r at *
 conv=>whnf
 refine tQ ?_
 refine tC kt0 ?_
 refine tN0 ?_
 refine tQ ?_
 refine tCut (fun _:Unit=>True) (fun _=>[(10,bv true)]) (fun _=>[(9990,someI (s) []),(4,a.enc),(8,r.enc),(9,r.enc)]) (fun _=>someO []) ?_ ?_
 ·conv=>whnf
  refine tK2 ?_
  rw [hd]
  conv=>whnf
  by_cases h10:kd < 10
  ·refine tK ?_
   refine tK ?_
   exact eX [(9990,9990)]
  ·refine tK ?_
   refine tK ?_
   by_cases h11:kd=10
   ·refine tK ?_
    refine ⟨(),[(9990,9990)],True.intro,?_⟩
    exact wkE
   ·refine tK ?_
    refine tK ?_
    refine ⟨(),[(9990,9990)],True.intro,?_⟩
    exact wkE
 rintro _ _
 refine tZ ?_
 refine tC ks0 ?_
 exact eX [(9990,9990)]
inductive AskO (r:Rft) (a:Act) (c:Conf):Int→Rft→List PV→Int→Int→PV→Prop where
 | prop (h:propE r a.call=0):AskO r a c 12 (addR r (ec r a.call)) (addR r (ec r a.call)).enc (lastI (logR r (ec r a.call))) 0 .nl
 | chg (h:chgE r c=0):AskO r a c 13 (addR (nxR r c 7) (ecf r c)) (addR (nxR r c 7) (ecf r c)).enc (lastI (logR r (ecf r c))) 0 .nl
 | ask (h:askE r a.call=0):AskO r a c 14 (askR r a.call) (askR r a.call).enc 0 0 .nl
 | ready:AskO r a c 15 (zo9 r) (zo9 r).enc 0 0 (.sl 13 ((r.reads.filter (rdy (zab r) r.commit)).map Rd.enc))
 | comp (h:compE r.hard r.commit (byteL a.n)=0):AskO r a c 16 (compR r a.n) (compR r a.n).enc 0 0 .nl
 | propN {R:Rft} (h:¬ propE r a.call=0) (hR:R=r):AskO r a c 12 R rzv 0 (propE r a.call) .nl
 | chgN {R:Rft} (h:¬ chgE r c=0) (hR:R=r):AskO r a c 13 R rzv 0 (chgE r c) .nl
 | askN {R:Rft} (h:¬ askE r a.call=0) (hR:R=r):AskO r a c 14 R rzv 0 (askE r a.call) .nl
 | compN {R:Rft} (h:¬ compE r.hard r.commit (byteL a.n)=0) (hR:R=r):AskO r a c 16 R rzv 0 (compE r.hard r.commit (byteL a.n)) .nl
theorem askO_of {r:Rft}{a:Act}{c:Conf}{kd:Int}{R:Rft} (h:ActE r a c kd R):∃ xv n e l,AskO r a c kd R xv n e l∧((e=0∧xv=R.enc)∨(¬ e=0∧xv=rzv∧R=r)):=by
 rcases h with h | ⟨h,hR⟩
 ·cases h with
  | prop h=>exact ⟨_,_,_,_,.prop h,.inl ⟨rfl,rfl⟩⟩
  | chg h=>exact ⟨_,_,_,_,.chg h,.inl ⟨rfl,rfl⟩⟩
  | ask h=>exact ⟨_,_,_,_,.ask h,.inl ⟨rfl,rfl⟩⟩
  | ready=>exact ⟨_,_,_,_,.ready,.inl ⟨rfl,rfl⟩⟩
  | comp h=>exact ⟨_,_,_,_,.comp h,.inl ⟨rfl,rfl⟩⟩
 ·cases h with
  | prop h=>exact ⟨_,_,_,_,.propN h hR,.inr ⟨h,rfl,hR⟩⟩
  | chg h=>exact ⟨_,_,_,_,.chgN h hR,.inr ⟨h,rfl,hR⟩⟩
  | ask h=>exact ⟨_,_,_,_,.askN h hR,.inr ⟨h,rfl,hR⟩⟩
  | comp h=>exact ⟨_,_,_,_,.compN h hR,.inr ⟨h,rfl,hR⟩⟩
theorem c_askF (s : Svn) (M : List (List PV)) (a : Act) (i : Nat) (hi : i < 7) (q : Rft) (kd : Int) (hd : (IntKind.u64.wrap a.doo).tmod 18 = kd) (hq : q = s.at i) (hl : (s.at i).hard.log.length < 4294967) (hsm : (s.at i).small) (hr : zbu (s.at i) = true) (hI : isI (s.at i).commit ∧ isI (s.at i).hard.base)
    (hrd:(s.at i).reads.length≤4294967) {c:Conf} (kn:Ctr Tryz.prog 101 [.ag (s.at i).enc,.ag a.enc] (.ag c.enc) []) {R:Rft} (hR:R.small) (hE:ActE (s.at i) a c kd R) :
    CtrE Tryz.prog 43 [.pt 9990 0,.ag a.enc,iv i,.ag q.enc,bv false] [(9990,someI s M)] (someO M) (bv true)
     [(9990,someI (s.put i R) M)] (someO M):=by
 have hself:=z4h s hi
 obtain ⟨xv,n,e,l,hO,hx⟩:=askO_of hE
 clear hE
 subst hq
 refine zay mixed Tryz.func43 rfl (by kernel_rfl) (by kernel_rfl) ?_
 refine tQ ?_
 refine tCut (fun _:Unit=>True) (fun _=>[(11,.pt 11 0)]) (fun _=>[(9990,someI s M),(6,a.enc),(8,(s.at i).enc),(11,(s.at i).enc)]) (fun _=>someO M) ?_ ?_
 ·conv=>whnf
  refine ⟨⟨Int.natCast_nonneg _,Int.ofNat_lt.2 hi⟩,?_⟩
  conv=>whnf
  refine ze7 hi (by first | (show 0+0+((i:Nat):Int).toNat * 40=i * 40;omega) | (show 0+((i:Nat):Int).toNat * 40=i * 40;omega)) ?_
  conv=>whnf
  refine ⟨(),[(9990,9990)],True.intro,?_⟩
  exact wkE
 rintro _ _
 generalize hrr:s.at i=r at *
 conv=>whnf
 refine tQ ?_
 refine tQ ?_
 refine tCut (fun _:Unit=>True) (fun _=>[(11,.pt 11 0),(12,.pt 12 0),(13,iv n),(14,iv e),(15,l)]) (fun _=>[(9990,someI s M),(6,a.enc),(8,r.enc),(11,r.enc),(12,xv)]) (fun _=>someO M) ?_ ?_
 ·conv=>whnf
  refine ⟨⟨by decide,by decide⟩,?_⟩
  rw [hd]
  clear hx
  cases hO with
  | prop he =>
   have kp:=zw8 r a.call hl hr he
   refine tC kp ?_
   refine tN0 ?_
   refine ⟨(),[(9990,9990)],True.intro,?_⟩
   exact wkE
  | chg he =>
   have kp:=zzx r c hl hr he
   refine tC kn ?_
   refine tC kp ?_
   refine tN0 ?_
   refine ⟨(),[(9990,9990)],True.intro,?_⟩
   exact wkE
  | ask he =>
   have kp:=z1r r a.call hl hr he
   refine tC kp ?_
   refine tN0 ?_
   refine ⟨(),[(9990,9990)],True.intro,?_⟩
   exact wkE
  | ready =>
   have kt:=za4 r hsm
   have kc:=zb6 r (zad (by omega))
   have kp:Ctr Tryz.prog 103 [.sl 13 (r.reads.map Rd.enc),.ag (zab r).enc,iv r.commit] (.tu [.sl 13 ((r.reads.filter (rdy (zab r) r.commit)).map Rd.enc),.sl 13 ((r.reads.filter fun x=>!rdy (zab r) r.commit x).map Rd.enc)]) [] :=
    Ctr.frz (z3e r.reads hrd (zab r) r.commit) (zat ⟨zba (b:=false) (List.Mem.head _) rfl,zba (b:=false) (List.Mem.tail _ (List.Mem.head _)) rfl,rfl⟩)
   refine tC kt ?_
   refine tN0 ?_
   refine tC kc ?_
   refine tC kp ?_
   refine tN0 ?_
   refine ⟨(),[(9990,9990)],True.intro,?_⟩
   exact wkE
  | comp he =>
   have kt:=za4 r hsm
   have kp:=zlp r.hard (by omega) hI.2 r.commit hI.1 (byteL a.n) (by show 1≤4294967296;decide)
   rw [(zdt he).2.2] at kp
   refine tC kt ?_
   refine tN0 ?_
   refine tCR kp ?_
   refine tN0 ?_
   refine ⟨(),[(9990,9990)],True.intro,?_⟩
   exact wkE
  | propN he _ =>
   have kp:=zri r a.call hl he
   refine tC kp ?_
   refine ⟨(),[(9990,9990)],True.intro,?_⟩
   exact wkE
  | chgN he _ =>
   have kp:=zv1 r c hl hr he
   refine tC kn ?_
   refine tC kp ?_
   refine ⟨(),[(9990,9990)],True.intro,?_⟩
   exact wkE
  | askN he _ =>
   have kp:=zwq r a.call hl hr he
   refine tC kp ?_
   refine ⟨(),[(9990,9990)],True.intro,?_⟩
   exact wkE
  | compN he _ =>
   have kt:=za4 r hsm
   have kp:=zlp r.hard (by omega) hI.2 r.commit hI.1 (byteL a.n) (by show 1≤4294967296;decide)
   rw [(zb9 he).2.2] at kp
   generalize compE r.hard r.commit (byteL a.n)=e at *
   refine tC kt ?_
   refine tN0 ?_
   refine tCR kp ?_
   refine tS ?_ ?_<;>intro h
   ·refine ⟨(),[(9990,9990)],True.intro,?_⟩
    exact wkE
   ·exact absurd (by first | exact h | (simpa using h)) he
 rintro _ _
 conv=>whnf
 refine tQ ?_
 -- the program
 refine zfo (fun _:Unit=>True) (fun _=>[(16,bv true)]) (fun _=>[(9990,someI s M),(6,a.enc),(8,r.enc),(11,r.enc),(12,xv)]) (fun _=>someO M) ?_ ?_
 ·refine tQ ?_
  refine zei ?_
  conv=>whnf
  refine tQ ?_
  refine tQ ?_
  have kR:=ze5 R (zad hR.snap) (zad hR.log) (zad hR.reads)
  have spR:=z1n R (by have:=hR.snap;omega) (by have:=hR.log;omega) (by have:=hR.reads;omega)
  have kL:∀ k:List Rd,k.length≤r.reads.length→Ctr Tryz.prog 84 [.sl 13 (k.map Rd.enc),.sl 13 (k.map Rd.enc)] (bv true) []:=fun k h=>zsi k (zad (by omega))
  cases hO with
  | prop he =>
   have kp:=c_PropN r a.call ((zd8 hr).fit hl) hr he
   refine tQ ?_
   refine ⟨⟨by decide,by decide⟩,?_⟩
   rw [hd]
   conv=>whnf
   refine Exists.intro (some ([],[],[(999997,0)])) ?_
   conv=>whnf
   refine zhu kp ?_
   conv=>whnf
   refine tQ ?_
   refine tSame ?_
   refine tB0 kR ?_
   refine tB0 s_rdn ?_
   refine zcw (kb:=17) spR ?_
   refine ⟨(),[(9990,9990)],True.intro,?_⟩
   exact wkE
  | chg he =>
   have kp:=c_ChgN r c hl hr he
   refine tQ ?_
   refine ⟨⟨by decide,by decide⟩,?_⟩
   rw [hd]
   refine tC kn ?_
   refine Exists.intro (some ([],[],[(999997,0)])) ?_
   conv=>whnf
   refine zhu kp ?_
   conv=>whnf
   refine tQ ?_
   refine tSame ?_
   refine tB0 kR ?_
   refine tB0 s_rdn ?_
   refine zcw (kb:=17) spR ?_
   refine ⟨(),[(9990,9990)],True.intro,?_⟩
   exact wkE
  | ask he =>
   have kp:=c_AskN r a.call hl hr he
   refine tQ ?_
   refine ⟨⟨by decide,by decide⟩,?_⟩
   rw [hd]
   conv=>whnf
   refine Exists.intro (some ([],[],[(999997,0)])) ?_
   conv=>whnf
   refine zhu kp ?_
   conv=>whnf
   refine tQ ?_
   refine tB0 kR ?_
   refine tB0 s_rdn ?_
   refine zcw (kb:=17) spR ?_
   refine ⟨(),[(9990,9990)],True.intro,?_⟩
   exact wkE
  | ready =>
   have kp:=z26 r hl hr r.commit
   have kL:=kL _ (List.length_filter_le (rdy (zab r) r.commit) r.reads)
   refine tQ ?_
   refine ⟨⟨by decide,by decide⟩,?_⟩
   rw [hd]
   conv=>whnf
   refine Exists.intro (some ([],[],[(999997,0)])) ?_
   conv=>whnf
   refine zhu kp ?_
   conv=>whnf
   refine tQ ?_
   refine tB0 kR ?_
   refine tB0 kL ?_
   refine zcw (kb:=17) spR ?_
   refine ⟨(),[(9990,9990)],True.intro,?_⟩
   exact wkE
  | comp he =>
   have kp:=c_CompN r hl hr (byteL a.n) (by show 1≤4294967296;decide) he
   refine tQ ?_
   refine ⟨⟨by decide,by decide⟩,?_⟩
   rw [hd]
   conv=>whnf
   refine Exists.intro (some ([],[],[(999997,0)])) ?_
   conv=>whnf
   refine zhu kp ?_
   conv=>whnf
   refine tQ ?_
   refine tB0 kR ?_
   refine tB0 s_rdn ?_
   refine zcw (kb:=17) spR ?_
   refine ⟨(),[(9990,9990)],True.intro,?_⟩
   exact wkE
  | propN he _ =>
   have kp:=zv3 r a.call ((zd8 hr).fit hl) hr he
   refine tQ ?_
   refine ⟨⟨by decide,by decide⟩,?_⟩
   rw [hd]
   refine tB0 kp ?_
   refine tQ ?_
   refine tSame ?_
   refine tB0 s_rz ?_
   refine tB0 s_rdn ?_
   refine zcw (kb:=17) sp_rz ?_
   refine ⟨(),[(9990,9990)],True.intro,?_⟩
   exact wkE
  | chgN he _ =>
   have kp:=z0o r c hl hr he
   refine tQ ?_
   refine ⟨⟨by decide,by decide⟩,?_⟩
   rw [hd]
   refine tC kn ?_
   refine tB0 kp ?_
   refine tQ ?_
   refine tSame ?_
   refine tB0 s_rz ?_
   refine tB0 s_rdn ?_
   refine zcw (kb:=17) sp_rz ?_
   refine ⟨(),[(9990,9990)],True.intro,?_⟩
   exact wkE
  | askN he _ =>
   have kp:=zzk r a.call hl hr he
   refine tQ ?_
   refine ⟨⟨by decide,by decide⟩,?_⟩
   rw [hd]
   refine tB0 kp ?_
   refine tQ ?_
   refine tSame ?_
   refine tB0 s_rz ?_
   refine tB0 s_rdn ?_
   refine zcw (kb:=17) sp_rz ?_
   refine ⟨(),[(9990,9990)],True.intro,?_⟩
   exact wkE
  | compN he _ =>
   have kp:=zq4 r hl hr (byteL a.n) (by show 1≤4294967296;decide)
   rw [if_neg he] at kp
   refine tQ ?_
   refine ⟨⟨by decide,by decide⟩,?_⟩
   rw [hd]
   refine tB0 kp ?_
   refine tQ ?_
   refine tSame ?_
   refine tB0 s_rz ?_
   refine tB0 s_rdn ?_
   refine zcw (kb:=17) sp_rz ?_
   refine ⟨(),[(9990,9990)],True.intro,?_⟩
   exact wkE
 rintro _ _
 clear hO
 conv=>whnf
 refine pwS ?_
 rcases hx with ⟨rfl,rfl⟩ | ⟨he,rfl,hRr⟩
 ·conv=>whnf
  refine ⟨⟨Int.natCast_nonneg _,Int.ofNat_lt.2 hi⟩,?_⟩
  conv=>whnf
  refine zol hi (by first | (show 0+0+((i:Nat):Int).toNat * 40=i * 40;omega) | (show 0+((i:Nat):Int).toNat * 40=i * 40;omega)) ?_
  conv=>whnf
  exact eX [(9990,9990)]
 ·rw [hRr,hself]
  refine tK ?_
  exact eX [(9990,9990)]
theorem MyOk.small2 {n:Nat}{y:My} (h:MyOk n y):y.mg.snap.length≤4294967∧y.mg.entries.length≤4294967:=by
 have h1:=h.sn
 have h2:=h.es
 exact ⟨by show y.bd.snp.length≤_;omega,by show y.bd.ents.length≤_;omega⟩
inductive DoF (s:Svn) (ms:List My) (a:Act) (s':Svn) (ms':List My):Prop where
 | same (e:ms'=ms) (h:CtrE Tryz.prog 11 [.pt 9990 0,.ag a.enc,bv false] [(9990,someI s (ms.map My.enc))] (someO (ms.map My.enc)) (bv true) [(9990,someI s' (ms'.map My.enc))] (someO (ms'.map My.enc)))
 | lost (h:CtrE Tryz.prog 11 [.pt 9990 0,.ag a.enc,bv false] [(9990,someI s (ms.map My.enc))] (someO (ms.map My.enc)) (bv true) [(9990,someV s' (.ow 1 0 (ms'.map My.enc).length))] [(9990,none),(1,some (false,16,ms'.map My.enc))])
 | kept (h:CtrE Tryz.prog 11 [.pt 9990 0,.ag a.enc,bv false] [(9990,someI s (ms.map My.enc))] (someO (ms.map My.enc)) (bv true) [(9990,someV s' (.ow 1 0 (ms'.map My.enc).length))] [(9990,some (false,16,ms.map My.enc)),(1,some (false,16,ms'.map My.enc))])
theorem z3k (r:Rft) (hf:Fit r):Ctr Tryz.prog 33 [.ag r.enc] (.tu [.ag (tkR r).enc,.sl 16 (tkO r)]) []:=by
 unfold tkR tkO
 by_cases h:r.role=3
 ·rw [if_pos h,if_pos h];exact z2q r hf h
 ·rw [if_neg h,if_neg h];exact c_zTick r hf h
theorem zq9 {r:Rft}{m:Mg} (h:zfg r m=true):(0≤m.logTerm∧m.logTerm≤far)∧(0≤m.round∧m.round≤far):=by
 unfold zfg at h
 simp only [Bool.and_eq_true,decide_eq_true_eq] at h
 obtain ⟨_,_,_,_,_,⟨_,h7⟩,_,h8⟩:=h
 exact ⟨zda h7,zda h8⟩
theorem act_ex (r:Rft) (a:Act) (c:Conf) {kd:Int} (hk:12≤kd∧kd≤16):∃ R,ActE r a c kd R:=by
 rcases (by omega:kd=12∨kd=13∨kd=14∨kd=15∨kd=16) with rfl | rfl | rfl | rfl | rfl
 ·by_cases h:propE r a.call=0
  ·exact ⟨_,.inl (.prop h)⟩
  ·exact ⟨_,.inr ⟨.prop h,rfl⟩⟩
 ·by_cases h:chgE r c=0
  ·exact ⟨_,.inl (.chg h)⟩
  ·exact ⟨_,.inr ⟨.chg h,rfl⟩⟩
 ·by_cases h:askE r a.call=0
  ·exact ⟨_,.inl (.ask h)⟩
  ·exact ⟨_,.inr ⟨.ask h,rfl⟩⟩
 ·exact ⟨_,.inl .ready⟩
 ·by_cases h:compE r.hard r.commit (byteL a.n)=0
  ·exact ⟨_,.inl (.comp h)⟩
  ·exact ⟨_,.inr ⟨.comp h,rfl⟩⟩
theorem do_exF {n:Nat}{s:Svn}{ms:List My} (h:Ply n s ms) (hn:n≤199) (a:Act):∃ s' ms',Step n s ms a s' ms'∧DoF s ms a s' ms':=by
 obtain ⟨k,hk,hki0⟩:=zl0 a.i (m:=7) (by decide) (by decide)
 have hki:IntKind.i64.wrap ((IntKind.u64.wrap a.i).tmod 7)=(k:Int):=by
  rw [← hki0,zbz (n:=((7:Nat):Int)) (by omega) (by omega)];rfl
 have g0:=zfd a.doo
 have b1:=Int.emod_nonneg (IntKind.u64.wrap a.doo) (show (18:Int) ≠ 0 by decide)
 have b2:=Int.emod_lt_of_pos (IntKind.u64.wrap a.doo) (show (0:Int) < 18 by decide)
 rw [← Int.tmod_eq_emod_of_nonneg g0] at b1 b2
 generalize hd:(IntKind.u64.wrap a.doo).tmod 18=kd at *
 have hr:=h.rp k hk
 have hlg:=hr.log
 have hf:=hr.rgt.fit (show (s.at k).hard.log.length < 4294967 by omega)
 have hsm:=hr.small (by omega)
 have hlen:=h.len
 have hM:(ms.map My.enc).length≤100:=by rw [List.length_map];exact hlen
 have hnone:ms=[]→4≤kd∧kd≤11→∃ s' ms',Step n s ms a s' ms'∧DoF s ms a s' ms':=fun e hkd=>by
  refine ⟨s,ms,.none,.same rfl ?_⟩
  exact zwr s (ms.map My.enc) hM a k hk hki kd hd hsm false (by rw [e];rfl) hkd
 rcases (by omega:kd < 4∨(4≤kd∧kd < 10)∨kd=10∨kd=11∨(12≤kd∧kd≤16)∨kd=17) with hc | hc | hc | hc | hc | hc
 ·have g:=tk_stp hr.id' hn
  obtain ⟨L,e2,hL,hLl⟩:=g.rows
  have kz:=z3k (s.at k) hf
  have kp:=c_TickE (s.at k) (zh6 hr.rgt) hf.log
  rw [e2] at kz kp
  refine ⟨_,_,.tick k hk L e2,.lost ?_⟩
  rw [← znx]
  exact zwm s (ms.map My.enc) hM a k hk hki kd hd hsm ⟨b1,hc⟩ (tkR (s.at k)) (g.rp.small (by omega)) L (fun y h=>(hL y h).ok.small2) (by omega) kz kp
 ·by_cases e:ms=[]
  ·exact hnone e ⟨hc.1,by omega⟩
  ·obtain ⟨j,hj,hdr⟩:=zl0 a.n (m:=ms.length) (List.length_pos_iff.2 e) (by omega)
   have hy:=h.my _ (List.getElem_mem hj)
   obtain ⟨t,ht⟩:∃ t:Nat,(ms[j]'hj).to=t:=⟨(ms[j]'hj).to.toNat,by have:=hy.tor;omega⟩
   have ht7:t < 7:=by have:=hy.tor;omega
   have hrt:=h.rp t ht7
   have hlt:=hrt.log
   have hft:=hrt.rgt.fit (show (s.at t).hard.log.length < 4294967 by omega)
   have hst:=hrt.small (by omega)
   cases hm:zfg (s.at t) (ms[j]'hj).mg with
   | false =>
    have kz:=zrk (s.at t) (ms[j]'hj).mg hm
    have kp:=zr4 (s.at t) (ms[j]'hj).mg (by have:=hrt.snap;omega) (by omega) (by have:=hft.reads;omega) (zh6 hrt.rgt) hm
    exact ⟨_,_,.lose j,.kept (zuy s ms hlen a k hk hki kd hd hsm j hj hdr _ rfl hc t ht7 ht hst hy.small2 1 (by decide) kz kp)⟩
   | true =>
    have hMg:=zq0 hm
    obtain ⟨hL,hR⟩:=zq9 hm
    obtain ⟨R,O,E,hk2⟩:=tk_ex (s.at t) (ms[j]'hj).mg hMg.kind
    have hes:=hy.es
    have hsn:=hy.sn
    have kp:=z19 (s.at t) (ms[j]'hj).mg hrt (by omega) hm hes hsn hk2
    have kz:=zvo (s.at t) (ms[j]'hj).mg hrt.rgt (by omega) hMg hL hR (by show (ms[j]'hj).bd.ents.length≤1000;omega) (by show (ms[j]'hj).bd.snp.length≤40000;omega) hk2
    by_cases hE:E=0
    ·subst hE
     rw [zcg] at kz
     have g:=zu3 hrt.id' hn hMg hsn hy.ix hk2 rfl
     obtain ⟨L,e2,hL,hLl⟩:=g.rows
     rw [if_pos rfl] at kp
     rw [e2] at kz hk2 kp
     refine ⟨_,_,.take j hj t ht7 ht hMg R L hk2,.kept ?_⟩
     rw [← znx]
     exact zwf s ms hlen a k hk hki kd hd hsm j hj hdr _ rfl hc t ht7 ht hst hy.small2 R (g.rp.small (by omega)) L (fun y h=>(hL y h).ok.small2) (by omega) kz kp
    ·rw [zkr _ _ hE] at kz
     rw [if_neg hE] at kp
     exact ⟨_,_,.lose j,.kept (zuy s ms hlen a k hk hki kd hd hsm j hj hdr _ rfl hc t ht7 ht hst hy.small2 E hE kz kp)⟩
 ·by_cases e:ms=[]
  ·exact hnone e (by omega)
  ·obtain ⟨j,hj,hdr⟩:=zl0 a.n (m:=ms.length) (List.length_pos_iff.2 e) (by omega)
   exact ⟨_,_,.lose j,.kept (zvx s ms hlen a k hk hki kd hd hsm j hj hdr _ rfl false hc)⟩
 ·by_cases e:ms=[]
  ·exact hnone e (by omega)
  ·obtain ⟨j,hj,hdr⟩:=zl0 a.n (m:=ms.length) (List.length_pos_iff.2 e) (by omega)
   refine ⟨_,_,.double j hj,.lost ?_⟩
   rw [← znx]
   exact zp2 s ms hlen a k hk hki kd hd hsm j hj hdr _ rfl false hc
 ·have hA:=zaq hr.rgt.hard
  have hla:=hr.last (by omega)
  have hbn:=hr.base
  have hcm:=hr.rgt.com
  have hb:=hA.1.b
  have hck:Cok (zab (s.at k)):=by
   refine (zci _).1 ?_
   exact zox hA.2.1 hA.2.2.2 _ _ (Nat.le_refl _)
  obtain ⟨c,kn⟩:=z3t (s.at k) a (zad (by omega)) hck
  obtain ⟨R,hE⟩:=act_ex (s.at k) a c hc
  have hI:isI (s.at k).commit∧isI (s.at k).hard.base:=⟨by unfold isI;omega,by unfold isI;omega⟩
  have hrd:(s.at k).reads.length≤4294967:=by have:=hf.reads;omega
  have ka:=c_askF s (ms.map My.enc) a k hk (s.at k) kd hd rfl hf.log hsm (zh6 hr.rgt) hI hrd kn ((act_rp hr hn hE).small (by omega)) hE
  exact ⟨_,_,.act k hk c kd R hE hd,.same rfl (zzs s (ms.map My.enc) hM a k hk hki kd hd hsm false hc R ka)⟩
 ·exact ⟨_,_,.crash k hk,.same rfl (zss s (ms.map My.enc) hM a k hk hki kd hd hsm false hc)⟩
end Go.Proofs
