import Derived.Test.YtbhfokahocgndabGreatR3
/- Contracts of functions: the program's tick of a leader; of anyone. -/
set_option linter.unusedSimpArgs false
set_option linter.unusedVariables false
namespace Go.Proofs
open Go.Pv
set_option maxRecDepth 100000
theorem c_TickL (r : Rft) (hr : zcw r = true) (hm : r.hard.log.length < 4294967) (hn : r.role = 3) :
    Ctr Tryz.prog 12 [.ag r.enc] (.tu [.ag (beatF r).enc,.sl 16 (beatO r),iv 0]) []:=by
 have hg:=zh4 hr
 have hf:=hg.fit hm
 have ko:=c_of r hf.snap (by omega) (by have:=hf.reads;omega) hr
 have kt:=zn0 r hf [] (by decide)
 refine sBody Tryz.func12 ?_;conv=>whnf
 ((refine Exists.intro (some ([(28,500)],[],[(0,600),(1,601),(2,602),(3,603)])) ?_);(conv=>whnf);first | ((with_reducible refine zam (ko) ?_);conv=>whnf))
 (refine tSp (fun h=>?_) (fun h=>?_)<;>conv=>whnf)
 ·((refine Exists.intro (some ([(1000000,500)],[(1000000,600),(1000001,601),(1000002,602),(1000003,603)],[])) ?_);(conv=>whnf);refine zax (kt) (by kernel_rfl) (by kernel_rfl) (by kernel_rfl) ?_;conv=>whnf)
  exact zab rfl rfl
 ·exact absurd hn h
noncomputable def tkR (r:Rft):Rft:=if r.role=3 then beatF r else tickR r
noncomputable def tkO (r:Rft):List (List PV):=if r.role=3 then beatO r else tickO r
theorem c_TickA (r:Rft) (hr:zcw r=true) (hm:r.hard.log.length < 4294967):Ctr Tryz.prog 12 [.ag r.enc] (.tu [.ag (tkR r).enc,.sl 16 (tkO r),iv 0]) []:=by
 unfold tkR tkO
 by_cases h:r.role=3
 ·rw [if_pos h,if_pos h];exact c_TickL r hr hm h
 ·rw [if_neg h,if_neg h];exact zus r hr hm h
theorem zxg {n:Nat}{r:Rft} (h:Rp n r.id r) (hn:n≤199):Stp n r (tkR r) (tkO r):=by
 unfold tkR tkO
 by_cases hr:r.role=3
 ·rw [if_pos hr,if_pos hr];exact zy2 h hn
 ·rw [if_neg hr,if_neg hr];exact zyh h hn hr
end Go.Proofs
