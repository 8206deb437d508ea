import Derived.Test.YtbhfokahocgndabGreatPvQ3
import Derived.Test.YtbhfokahocgndabGreatC59
/- Contracts of functions: grow.Feed. -/
set_option linter.unusedSimpArgs false
set_option linter.unusedVariables false
namespace Go.Proofs
open Go.Pv
set_option maxRecDepth 100000
abbrev feedS (g:Hrd):List PV:=[iv 7,iv 0,iv 0,iv 0,iv g.base,iv g.baseTerm,iv 0,iv 0,bv false,.nl,iv g.baseConf.full,iv g.baseConf.wit,iv g.baseConf.learn,iv g.baseConf.lwit,.sl 1 (g.snap.map encB),.nl]
abbrev feedA (g:Hrd) (next:Int):List PV:=[iv 5,iv 0,iv 0,iv 0,iv (feedP g next),iv (zau g (feedP g next)),iv 0,iv 0,bv false,.sl 16 ((feedL g next).map Ent.enc),iv 0,iv 0,iv 0,iv 0,.nl,.nl]
theorem c_FeedS (g:Hrd) (h1:g.snap.length≤4294967296) (next:Int) (hn:next≤g.base):Ctr Tryz.prog 179 [.ag g.enc,iv next] (.ag (feedS g)) []:=by
 have h':(g.snap.map encB).length≤4294967296:=by simpa using h1
 refine sBody Tryz.func179 ?_;conv=>whnf
 refine tS ?_ ?_<;>intro h
 ·refine ⟨rfl,?_⟩
  conv=>whnf
  refine ⟨⟨⟨small h' (by kernel_rfl),zad h'⟩,rfl⟩,?_⟩
  conv=>whnf
  refine za7 [(336,false,1,g.snap.map encB)] ?_ (zao ?_)
  ·intro q hq
   rw [List.mem_singleton.1 hq]
   rfl
  conv=>whnf
  repeat' (first | exact rfl | ((with_reducible refine And.intro ?_ ?_)<;>(first | (with_reducible exact zae _ rfl) | exact zba (b:=false) (List.Mem.head _) rfl | (conv=>whnf))))
 ·exfalso;omega
theorem c_FeedA (g:Hrd) (h1:g.snap.length≤4294967296) (h2:g.log.length≤4294967) (hb:isI g.base) (next:Int) (hn:g.base < next) (hnI:isI next) (h0:0≤g.base∧g.base≤1099511627776):Ctr Tryz.prog 179 [.ag g.enc,iv next] (.ag (feedA g next)) []:=by
 have hm:g.log.length≤maxLen:=zad (by omega)
 have hla:lastI g=g.base+g.log.length:=zax h0.1 (by omega)
 have hp:feedP g next=min (next - 1) (lastI g):=zk1 _ _
 unfold isI at hnI
 have ew:IntKind.i64.wrap (next - 1)=next - 1:=zaf (by omega) (by omega)
 have ew2:IntKind.i64.wrap (feedP g next+1)=feedP g next+1:=zaf (by omega) (by omega)
 have c1:=zm2 g hm hb (feedP g next) (by unfold isI;omega)
 have c2:=z1w g (by omega) hb (feedP g next+1) (by unfold isI;omega) 8
 refine sBody Tryz.func179 ?_;conv=>whnf
 refine tS ?_ ?_<;>intro h
 ·exfalso;omega
 ·refine tC (zc1 g hm) ?_
  rw [ew,show (if lastI g < next - 1 then lastI g else next - 1)=feedP g next from rfl]
  refine tC c1 ?_
  rw [ew2]
  refine tC c2 ?_
  refine tN0 ?_
  exact zaa rfl rfl
theorem z2f (g:Hrd) (h1:g.snap.length≤4294967296) (next:Int) (hn:next≤g.base):Ctr Tryz.prog 197 [.ag g.enc,iv next] (.ag (feedS g)) []:=by
 have t3:=(zqn g.snap h1).frz (zba (b:=false) (List.Mem.head _) rfl)
 refine sBody Tryz.func197 ?_;conv=>whnf
 refine tS ?_ ?_<;>intro h
 ·refine tC t3 ?_
  refine tN0 ?_
  exact zaa rfl rfl
 ·exfalso;omega
theorem z3z (g:Hrd) (h2:g.log.length≤4294967) (hb:isI g.base) (next:Int) (hn:g.base < next) (hnI:isI next) (h0:0≤g.base∧g.base≤1099511627776):Ctr Tryz.prog 197 [.ag g.enc,iv next] (.ag (feedA g next)) []:=by
 have hm:g.log.length≤maxLen:=zad (by omega)
 have hla:lastI g=g.base+g.log.length:=zax h0.1 (by omega)
 have hp:feedP g next=min (next - 1) (lastI g):=zk1 _ _
 unfold isI at hnI
 have ew:IntKind.i64.wrap (next - 1)=next - 1:=zaf (by omega) (by omega)
 have ew2:IntKind.i64.wrap (feedP g next+1)=feedP g next+1:=zaf (by omega) (by omega)
 have c1:=zl6 g hm h0.1 (by omega) (feedP g next) (by unfold isI;omega)
 have c2:=(c_rFrom g (by omega) h0 (feedP g next+1) (by unfold isI;omega) 8).frz (zba (b:=false) (List.Mem.head _) rfl)
 refine sBody Tryz.func197 ?_;conv=>whnf
 refine tS ?_ ?_<;>intro h
 ·exfalso;omega
 ·refine tC (zbr g hm) ?_
  rw [ew,show (if lastI g < next - 1 then lastI g else next - 1)=feedP g next from rfl]
  refine tC c1 ?_
  rw [ew2]
  refine tC c2 ?_
  refine tN0 ?_
  exact zaa rfl rfl
end Go.Proofs
