/- dowelbook.LendTexts: a copy in new memory, its holder's text behind its end. -/
import Derived.Test.YtmikgaphknbcaaaBNodes
namespace Go.Proofs.Ytmikgaphknbcaaa.B
open Go Go.RowKit Go.Proofs.YtmikgaphknbcaaaW.PrintWords Go.Proofs.Ytmikgaphknbcaaa.F

def holder : ByteArray := { data := #[45, 104, 111, 108, 100, 101, 114, 45] }
def holdText : List Value := [.string holder]
theorem info9x : (Try.prog.info? 9).map (fun i => (i.zero, i.size, i.bytes)) = some (some (.string ⟨#[]⟩), 1, 16) := by kernel_rfl
theorem sz9 : (Try.prog.info? 9).map (·.size) = some 1 := by kernel_rfl
set_option maxRecDepth 100000 in
set_option maxHeartbeats 1000000 in
theorem LendTexts.calls (A : Option Addr) (c : Nat) (xs : List ByteArray) (w : World) (hr : Kd.C Kd.string w A xs.length xs) (hm : xs.length ≤ 1048576) :
    Calls Try.prog 40 #[.slice A xs.length c] w (LentPost Kd.string 9 w xs holdText) := by
  obtain ⟨cs, hreps, hcells⟩ := X.C_cells hr
  have hlen : cs.length = xs.length * 1 := hreps.1
  have hone := X.Reps_oneCell hreps
  have HR := Lib.hid hreps; clear hreps
  have HL := Lib.hid hlen; clear hlen
  have HC := Lib.hid hcells; clear hcells
  have HO := Lib.hid hone; clear hone
  go_enter Try.func40, Try.ntmps40
  go_wp2_with (first
    | (at_make; refine X.make rfl _ _ 30 rfl 9 _ 1 16 Try.underlying30 info9x .i64 .i64 _ _ (xs.length + 1) rfl rfl (by simp) (by simp) (by omega) (by simp only [maxLen]; omega) ?_; intro w1 hb1 hg1; obtain ⟨z, hz, hz1⟩ := X.Blk.ex hb1 (size_madeCells _ _); clear hb1; have HZ := Lib.hid hz; clear hz; have HB1 := Lib.hid hz1; clear hz1; have HG1 := Lib.hid hg1; clear hg1)
    | (with_reducible refine X.copy rfl (.tmp 8) (.tmp 9) 30 30 rfl 9 1 Try.underlying30 sz9 w.heap.size 0 _ _ _ _ _ rfl rfl _ _ HB1.out cs ?_ ?_ ?_ ?_ ?_)
    | fail)
  · have := HL.out; rw [show xs.length.min (xs.length + 1) = xs.length from Nat.min_eq_left (by omega)]; exact this
  · intro h0
    obtain ⟨ad, e, hc⟩ := HC.out h0
    exact ⟨ad, e, fun j v hj => HG1.out.cell (hc j v hj) (by simp)⟩
  · have := HL.out; have := HZ.out; omega
  · exact HO.out
  intro w2 hb2 hg2
  have HB2 := Lib.hid hb2; clear hb2
  have HG2 := Lib.hid hg2; clear hg2
  go_wp2_with (first
    | (with_reducible refine X.store rfl 9 (.tmp 14) (.const (.string holder)) rfl w.heap.size xs.length (.string holder) ?_ ?_ _ _ HB2.out ?_ ?_ ?_ ?_)
    | fail)
  · rfl
  · rfl
  · exact sz9
  · have h1 := HL.out; have h2 := HZ.out
    rw [length_splice _ _ _ (by omega), h2]
    show xs.length + 1 ≤ _
    omega
  · intro u hu
    simp [Value.cells] at hu
    subst hu
    rfl
  intro w3 hb3 hg3
  have HB3 := Lib.hid hb3; clear hb3
  have HG3 := Lib.hid hg3; clear hg3
  go_wp2
  go_ret
  have h1 := HL.out; have h2 := HZ.out
  have bel : Below w.heap.size w w3 := (((Below.refl _ _).grown HG1.out (Nat.le_refl _) (by simp)).grown HG2.out HG1.out.size (by simp)).grown HG3.out (Nat.le_trans HG1.out.size HG2.out.size) (by simp)
  refine ⟨w.heap.size, by rfl, ⟨cs, HR.out.imp_ (fun _ _ hk => Kd.string.K_below bel hk), ?_⟩, Nat.le_refl _, bel⟩
  have e : splice (splice z 0 cs) xs.length holdText = cs ++ holdText := by
    rw [X.splice_begin, show xs.length = cs.length by omega, X.splice_end]
    rw [List.length_drop, h2]
    show _ = 1
    omega
  rw [← e]
  exact HB3.out
end Go.Proofs.Ytmikgaphknbcaaa.B
