import Derived.Test.YtbhfokahocgndabGreatPvU
/-
  clear, of an own slice. Generic over the program.
-/
set_option linter.unusedSimpArgs false
set_option linter.unusedVariables false
namespace Go.Pv
theorem zvp {M:Mem}{w:World}:∀ (n:Nat) (cs:List Value),cs.length=n→RVL M w (List.replicate n .bad) cs
 | 0,cs,h=>by simp only [List.replicate_zero,RVL];exact List.eq_nil_of_length_eq_zero h
 | n+1,[],h=>by simp at h
 | n+1,c :: cs,h=>by
  simp only [List.replicate_succ,RVL]
  exact ⟨c,cs,rfl,by simp [RV],zvp n cs (by simpa using h)⟩
theorem zto {M:Mem}{w:World} (sz:Nat):∀ (n:Nat) (cs:List Value),cs.length=n * sz→RVR M w sz (List.replicate n (List.replicate sz .bad)) cs
 | 0,cs,h=>by simp [RVR]
 | n+1,cs,h=>by
  simp only [List.replicate_succ,RVR]
  have hl:cs.length=sz+n * sz:=by rw [h,Nat.add_mul,Nat.one_mul,Nat.add_comm]
  exact ⟨cs.take sz,cs.drop sz,by simp,by simp,zvp sz _ (by simp;omega),zto sz n _ (by simp;omega)⟩
theorem zzn {M : Mem} {w : World} {sz lo len : Nat} {rows : List (List PV)} {cs ds : List Value} (h : RVR M w sz rows cs) (hd : ds.length = len * sz) (hle : lo + len ≤ rows.length) :
    RVR M w sz (rows.take lo++List.replicate len (List.replicate sz .bad)++rows.drop (lo+len)) (cs.take (lo * sz)++ds++cs.drop ((lo+len) * sz)):=by
 obtain ⟨hlen,_⟩:=RVR.exact h
 have h1:=RVR.takeRows lo h
 obtain ⟨a1,a2⟩:=RVR.exact h1
 have e1:(rows.take lo).length=lo:=by simp;omega
 rw [e1] at a1 a2
 have h2:=zto (M:=M) (w:=w) sz len ds hd
 have h3:=RVR.dropRows (lo+len) h
 refine RVR.append (RVR.append a2 (by rw [e1,List.length_take];omega) h2) ?_ h3
 simp only [List.length_append,List.length_replicate,e1,List.length_take,hd,Nat.add_mul]
 omega
theorem zka {z:Array Value}{n:Nat} (h:∀ v ∈ z.toList,v.oneCell'=true):∀ v ∈ (Builtin.zeroCells z n).toList,v.oneCell'=true:=by
 intro v hv
 unfold Builtin.zeroCells at hv
 simp only [Array.toList_map,Array.toList_range,List.mem_map,List.mem_range] at hv
 obtain ⟨i,hi,rfl⟩:=hv
 have hpos:0 < z.size:=by
  apply Nat.pos_of_ne_zero
  intro e;rw [e] at hi;omega
 have hlt:=Nat.mod_lt i hpos
 rw [getElem!_pos z (i % z.size) hlt]
 exact h _ (by simp)
theorem zxw {P : Program} {o : Oper} {ts : List PV} {x : Operand} {t e : TypeId} {inf : TypeInfo} {z : Value} {k lo len sz : Nat} {all : List (List PV)} (ho : o.op = .call ⟨.builtin .clear, #[x], #[t]⟩) (ht : P.underlying t = some (.slice e)) (hi : P.info? e = some inf) (hz : inf.zero = some z)
    (hzs:z.cells.size=inf.size) (hz1:(z.cells.toList.map zleaf).all leaf1=true) (hx:aev ts x=.ow k lo len) (hsz:inf.size=sz) (hle:lo+len≤all.length) :
    OpSem P o ⟨.tu [],[],[(k,false,sz,all)],[],[],[],[(k,some (false,sz,all.take lo++List.replicate len (List.replicate sz .bad)++all.drop (lo+len)))]⟩ ts:=by
 intro w0 X S0 M s a w Q K hr hl hs hk
 rw [ho] at hl
 have h2:=ev_of hr hl (x:=x) (by simp [Op.operands,Call.operands]) hx
 simp only [RV] at h2
 obtain ⟨L,hL,hcase⟩:=h2
 have hO:=hs.2.1 (k,false,sz,all) (by simp)
 obtain ⟨hLs,hc⟩:=hr.toHRel.obj' hO hL
 unfold Oper.wp
 have put:∀ (w':World),HRel w0 X S0 M s.B (upd s.O [(k,some (false,sz,all.take lo++List.replicate len (List.replicate sz .bad)++all.drop (lo+len)))]) w'→M.Le M w w'→K (a.put o.dst (.tuple #[])) w':=by
  intro w' hnew hle'
  refine hk M _ _ ?_
  have hr':Rel w0 X S0 M ⟨s.tmps,s.B,upd s.O [(k,some (false,sz,all.take lo++List.replicate len (List.replicate sz .bad)++all.drop (lo+len)))]⟩ a w':=⟨hnew,hr.dfr,hr.len,fun t=>RV.mono hle' _ _ (hr.tmp t)⟩
  have:=zb6 hr' o.dst (p:=.tu []) (v:=.tuple #[]) (by simp only [RV];exact ⟨#[],rfl,by simp [RVL]⟩)
  simpa [St.apply,zcg] using this
 have stay:len=0→K (a.put o.dst (.tuple #[])) w:=by
  intro e
  refine put w ?_ (Mem.Le.refl M w)
  have e2:upd s.O [(k,some (false,sz,all.take lo++List.replicate len (List.replicate sz .bad)++all.drop (lo+len)))]=s.O:=by
   funext j
   rw [zbg]
   by_cases ej:j=k
   ·subst ej
    rw [if_pos rfl,hO,e];simp
   ·rw [if_neg ej]
  rw [e2];exact hr.toHRel
 by_cases h0:len=0
 ·have hv : ∃ ad c, a.eval x = .slice ad 0 c := by
    rcases hcase with ⟨_,_,ad,hv⟩ | ⟨_,_,ad,hv,_⟩
    ·exact ⟨ad,0,hv⟩
    ·exact ⟨ad,_,by rw [h0] at hv;exact hv⟩
  obtain ⟨ad,c,hv⟩:=hv
  have hex:(execOp a.eval o).run P w=.ok (.value (.tuple #[])) w:=by
   cases ad<;>simp [execOp,ho,resolve,invoke,builtin,Builtin.clear_,run_underlying ht,hv,Result.andThen]
  rw [hex,Oper.upon_value]
  exact stay h0
 ·rcases hcase with ⟨_,e,_⟩ | ⟨hn,hcap,ad,hv,had⟩
  ·exact absurd e h0
  ·rcases hc with ⟨e,_⟩ | ⟨_,_,_,cs,E,hh,hcs,hlen0,_,hR⟩
   ·rw [hn] at e;cases e
   have had:=had (by omega)
   have hzl:∀ v ∈ (Builtin.zeroCells z.cells len).toList,v.oneCell'=true:=zka (zct hz1 (zcp (M:=M) (w:=w) z.cells.toList))
   have hzn:(Builtin.zeroCells z.cells len).toList.length=len * sz:=by simp [Builtin.zeroCells,hzs,hsz]
   have hmul:lo * sz+len * sz≤L.cap * sz:=by rw [← Nat.add_mul];exact Nat.mul_le_mul_right _ hcap
   have hrun:=run_storeCells_at P L.b (lo * sz) E (Builtin.zeroCells z.cells len).toList 0 cs w hh (by rw [Nat.add_zero,hzn,hcs];exact hmul) hzl
   simp only [Nat.add_zero] at hrun
   have hex:(execOp a.eval o).run P w=.ok (.value (.tuple #[])) (w.setRow L.b (cs.toList.take (lo * sz)++(Builtin.zeroCells z.cells len).toList++cs.toList.drop (lo * sz+(Builtin.zeroCells z.cells len).toList.length)).toArray):=by
    obtain ⟨len',rfl⟩:∃ n,len=n+1:=⟨len - 1,by omega⟩
    simp only [execOp,ho,resolve,invoke,builtin,Builtin.clear_,List.map_cons,List.map_nil]
    simp [run_underlying ht,hv,had,hLs,zeroValue,typeInfo,hi,hz,Result.andThen]
    simp at hrun
    rw [hrun]
   rw [hex,Oper.upon_value]
   obtain ⟨hnew,hle'⟩:=hr.toHRel.setObj (rows':=all.take lo++List.replicate len (List.replicate sz .bad)++all.drop (lo+len)) (cs':=(cs.toList.take (lo * sz)++(Builtin.zeroCells z.cells len).toList++cs.toList.drop (lo * sz+(Builtin.zeroCells z.cells len).toList.length)).toArray) hO hL hn hh
    (by
     rw [List.size_toArray,List.length_append,List.length_append,hzn,List.length_take,List.length_drop,Array.length_toList,hcs]
     omega)
    (by simp only [List.length_append,List.length_take,List.length_replicate,List.length_drop];omega)
    (by rw [hzn,← Nat.add_mul];exact zzn hR hzn hle)
   exact put _ hnew hle'
end Go.Pv
