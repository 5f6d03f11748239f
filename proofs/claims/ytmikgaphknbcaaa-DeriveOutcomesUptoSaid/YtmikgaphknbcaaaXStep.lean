/- A store into a block, as one step inside a region that draws its order. -/
import Derived.Test.YtmikgaphknbcaaaXCore
namespace Go.X
open Go Go.RowKit
section
variable {P : Program} {ops : Array Oper} {o : Oper} {a : Act} {w : World} {K : Act → World → Prop} {Q : Exit → Act → World → Prop} {E : Prop}
theorem step_store (hgd : o.guard = none) (ty : TypeId) (x y : Operand) (ho : o.op = .store ty x y) (b off : Nat) (v : Value) (hx : a.eval x = .pointer (some ⟨b, off, none⟩)) (hy : a.eval y = v)
    (cur : List Value) (t : TypeId) (hg : Blk w b t cur) (hi : (P.info? ty).map (·.size) = some v.cells.size) (hfit : off + v.cells.size ≤ cur.length) (h1 : ∀ u ∈ v.cells.toList, u.oneCell' = true)
    (h : ∀ w', Blk w' b t (splice cur off v.cells.toList) → w.grownBy w' (some b) → K (a.put o.dst undef) w') :
    if Region.wanted o (yielded ops a.tmps) = true then Oper.wp P o a w K Q else E := by
  have hw : Region.wanted o (yielded ops a.tmps) = true := by simp [Region.wanted, hgd]
  rw [if_pos hw]
  have hst := run_storeCells_at P b off t v.cells.toList 0 cur.toArray w hg (by simpa using hfit) h1
  have hsp : (splice cur off v.cells.toList).toArray = (cur.take off ++ v.cells.toList ++ cur.drop (off + v.cells.toList.length)).toArray := by simp [splice]
  have hrun : (Instr.storeAt ty (.pointer (some ⟨b, off, none⟩)) v).run P w = .ok () (w.setRow b (splice cur off v.cells.toList).toArray) := by
    cases hq : P.info? ty with
    | none => simp [hq] at hi
    | some i =>
      have hs : i.size = v.cells.size := by simpa [hq] using hi
      simp only [Nat.add_zero] at hst
      rw [hsp]
      simp only [Instr.storeAt, Instr.sureAddr, Sem.run_bind, Sem.run_pure, Result.andThen_ok]
      simp [storeVar, sizeOf, typeInfo, hq, hs, hst]
  unfold Oper.wp
  simp [execOp, ho, hx, hy, hrun]
  exact h _ (setRow_heap w b _ _ t _ hg) (grown_setRow b _)
end
end Go.X
