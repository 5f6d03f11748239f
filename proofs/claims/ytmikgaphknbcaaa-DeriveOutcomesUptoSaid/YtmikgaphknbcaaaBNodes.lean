/- dowelbook.LendNodes: a copy in new memory, its holder's node behind its end. -/
import Derived.Test.YtmikgaphknbcaaaXKd
import Derived.Test.YtmikgaphknbcaaaFx0
import Derived.WalkKit
import Derived.Lib.Hide
namespace Go.Proofs.Ytmikgaphknbcaaa.B
open Go Go.RowKit Go.Proofs.YtmikgaphknbcaaaW.PrintWords Go.Proofs.Ytmikgaphknbcaaa.F

def holdNode : List Value := [.int .i64 (-77), .int .i64 0, .string ⟨#[]⟩, .bool false, .int .u64 0, .int .u64 0, .int .u64 0, .int .u64 0, .int .i64 0, .int .i64 0]

def LentPost {α : Type} (d : Kd α) (t : TypeId) (w : World) (xs : List α) (hold : List Value) (e : Ending) (w' : World) : Prop :=
  ∃ b, e = .returned (.slice (some ⟨b, 0, none⟩) xs.length (xs.length + 1)) ∧ X.Lent d t w' b xs hold ∧ w.heap.size ≤ b ∧ Below w.heap.size w w'

theorem sz47 : (Try.prog.info? 47).map (·.size) = some 10 := by kernel_rfl
set_option maxRecDepth 100000 in
set_option maxHeartbeats 1000000 in
theorem LendNodes.calls (A : Option Addr) (c : Nat) (xs : List S47) (w : World) (hr : Kd.C k47 w A xs.length xs) (hm : xs.length ≤ 1048576) :
    Calls Try.prog 20 #[.slice A xs.length c] w (LentPost k47 47 w xs holdNode) := by
  obtain ⟨cs, hreps, hcells⟩ := X.C_cells hr
  have hlen : cs.length = xs.length * 10 := hreps.1
  have hone := X.Reps_oneCell hreps
  have HR := Lib.hid hreps; clear hreps
  have HL := Lib.hid hlen; clear hlen
  have HC := Lib.hid hcells; clear hcells
  have HO := Lib.hid hone; clear hone
  go_enter Try.func20, Try.ntmps20
  go_wp2_with (first
    | (at_make; refine X.make rfl _ _ 32 rfl 47 _ 10 88 Try.underlying32 info47 .i64 .i64 _ _ (xs.length + 1) rfl rfl (by simp) (by simp) (by omega) (by simp only [maxLen]; omega) ?_; intro w1 hb1 hg1; obtain ⟨z, hz, hz1⟩ := X.Blk.ex hb1 (size_madeCells _ _); clear hb1; have HZ := Lib.hid hz; clear hz; have HB1 := Lib.hid hz1; clear hz1; have HG1 := Lib.hid hg1; clear hg1)
    | (with_reducible refine X.copy rfl (.tmp 8) (.tmp 9) 32 32 rfl 47 10 Try.underlying32 sz47 w.heap.size 0 _ _ _ _ _ rfl rfl _ _ HB1.out cs ?_ ?_ ?_ ?_ ?_)
    | fail)
  · have := HL.out; rw [show xs.length.min (xs.length + 1) = xs.length from Nat.min_eq_left (by omega)]; exact this
  · intro h0
    obtain ⟨ad, e, hc⟩ := HC.out h0
    exact ⟨ad, e, fun j v hj => HG1.out.cell (hc j v hj) (by simp)⟩
  · have := HL.out; have := HZ.out; omega
  · exact HO.out
  intro w2 hb2 hg2
  have HB2 := Lib.hid hb2; clear hb2
  have HG2 := Lib.hid hg2; clear hg2
  go_wp2_with (first
    | (with_reducible refine X.store rfl 47 (.tmp 15) (.tmp 14) rfl w.heap.size (xs.length * 10) (.agg holdNode.toArray) ?_ ?_ _ _ HB2.out ?_ ?_ ?_ ?_)
    | fail)
  · rfl
  · rfl
  · exact sz47
  · have h1 := HL.out; have h2 := HZ.out
    rw [length_splice _ _ _ (by omega), h2]
    show xs.length * 10 + 10 ≤ _
    omega
  · intro u hu
    simp [Value.cells, holdNode] at hu
    rcases hu with rfl | rfl | rfl | rfl | rfl | rfl <;> rfl
  intro w3 hb3 hg3
  have HB3 := Lib.hid hb3; clear hb3
  have HG3 := Lib.hid hg3; clear hg3
  go_wp2
  go_ret
  have h1 := HL.out; have h2 := HZ.out
  have bel : Below w.heap.size w w3 := (((Below.refl _ _).grown HG1.out (Nat.le_refl _) (by simp)).grown HG2.out HG1.out.size (by simp)).grown HG3.out (Nat.le_trans HG1.out.size HG2.out.size) (by simp)
  refine ⟨w.heap.size, by rfl, ⟨cs, HR.out.imp_ (fun _ _ hk => k47.K_below bel hk), ?_⟩, Nat.le_refl _, bel⟩
  have e : splice (splice z 0 cs) (xs.length * 10) holdNode = cs ++ holdNode := by
    rw [X.splice_begin, ← h1, X.splice_end]
    rw [List.length_drop, h2, h1]
    show _ = 10
    omega
  rw [← e]
  exact HB3.out
end Go.Proofs.Ytmikgaphknbcaaa.B
