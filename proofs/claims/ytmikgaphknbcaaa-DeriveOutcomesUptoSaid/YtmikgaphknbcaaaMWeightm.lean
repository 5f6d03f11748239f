/- dowellaw06.Weight and dowellaw08's heavy: how many parts a grammar has together, with an early end. -/
import Derived.Test.YtmikgaphknbcaaaBKeptm
import Derived.Test.YtmikgaphknbcaaaBSize
namespace Go.Proofs.Ytmikgaphknbcaaa.B
open Go Go.RowKit Go.X Go.Proofs.YtmikgaphknbcaaaW.PrintWords Go.Proofs.Ytmikgaphknbcaaa.F

def wt : List S34 → Int → Int
  | [], n => n
  | x :: r, n => if n < 4194304 then wt r (n + (1 + (x.f2.length : Int) + x.f1.length)) else n
theorem wt_ge : ∀ (rs : List S34) (n : Int), n ≤ wt rs n
  | [], n => Int.le_refl _
  | x :: r, n => by
    rw [wt]
    split
    · have := wt_ge r (n + (1 + (x.f2.length : Int) + x.f1.length))
      omega
    · omega
/-- A grammar that is not heavy is of sizes that may be. -/
theorem wt_small : ∀ (rs : List S34) (n : Int), 0 ≤ n → wt rs n ≤ 1048576 → n + rs.length ≤ 1048576 ∧ ∀ x ∈ rs, x.f1.length ≤ 1048576 ∧ x.f2.length ≤ 1048576
  | [], n, h0, h => ⟨by simpa [wt] using h, by simp⟩
  | x :: r, n, h0, h => by
    rw [wt] at h
    split at h
    · obtain ⟨h1, h2⟩ := wt_small r _ (by omega) h
      refine ⟨by simp only [List.length_cons]; omega, fun y hy => ?_⟩
      rcases List.mem_cons.1 hy with rfl | hy
      · have := wt_ge r (n + (1 + (y.f2.length : Int) + y.f1.length))
        omega
      · exact h2 y hy
    · omega
theorem gramOK_of_wt {us : List S69} {rs : List S34} (h : wt rs us.length ≤ 1048576) : GramOK us rs := by
  obtain ⟨h1, h2⟩ := wt_small rs us.length (by omega) h
  exact ⟨by omega, by omega, h2⟩
set_option maxRecDepth 100000 in
set_option maxHeartbeats 4000000 in
theorem Weight.calls (Au Ar : Option Addr) (cu cr : Nat) (us : List S69) (rs : List S34) (w : World) (hr : Kd.C k34 w Ar rs.length rs) (hf : GramFit us rs) :
    Calls Try.prog 28 #[.agg #[.slice Au us.length cu, .slice Ar rs.length cr]] w fun e w' => e = .returned (.int .i64 (wt rs us.length)) ∧ Below w.heap.size w w' := by
  have HR := Lib.hid hr; clear hr
  obtain ⟨f1, f2, f3⟩ := hf
  have HF := Lib.hid f3; clear f3
  go_enter Try.func28, Try.ntmps28
  go_wp2
  have HB : Hid (Below w.heap.size w (w.alloc (.cells #[.slice Au us.length cu, .slice Ar rs.length cr] 26)) ∧ Blk (w.alloc (.cells #[.slice Au us.length cu, .slice Ar rs.length cr] 26)) w.heap.size 26 [.slice Au us.length cu, .slice Ar rs.length cr]) :=
    ⟨(Below.refl _ w).alloc (Nat.le_refl _) _, Blk.alloc w _ _⟩
  generalize w.alloc (.cells #[.slice Au us.length cu, .slice Ar rs.length cr] 26) = wa at *
  go_loopg [3, 4] rs.length (fun q n i wr => ∃ (k : Nat) (m : Int), q + k = rs.length ∧ n = .int .i64 m ∧ i = .int .i64 k ∧ 0 ≤ m ∧ m < 2 ^ 50 ∧ Hid (wt (rs.drop k) m = wt rs us.length) ∧ Hid (Below w.heap.size w wr ∧ Blk wr w.heap.size 26 [.slice Au us.length cu, .slice Ar rs.length cr]))
  case atStart => exact ⟨0, us.length, by simp, rfl, rfl, by omega, by omega, rfl, HB⟩
  case round =>
    clear HB
    obtain ⟨k, m, hk, rfl, rfl, m0, m1, HM, HW⟩ := hrel
    have a1 : wr.cell? ⟨w.heap.size, 1, none⟩ = some (.slice Ar rs.length cr) := HW.out.2.cell 1
    by_cases hlt : k < rs.length
    · have e1 : rs.drop k = rl rs k :: rs.drop (k + 1) := by
        rw [List.drop_eq_getElem_cons hlt, rl, List.getD_eq_getElem?_getD, List.getElem?_eq_getElem hlt]; rfl
      have HX := Lib.hid (HF.out _ (rl_mem hlt))
      have HM' := Lib.hid (e1 ▸ HM.out)
      obtain ⟨ad, A1, c1, A2, c2, eA, e0, e1, e2, l1, g1, l2, g2⟩ := rule_at (Kd.C_below HR.out HW.out.1) k hlt
      subst eA
      clear l1 l2 g1 g2 e0 HM
      generalize rl rs k = x at *
      by_cases hm : m < 4194304
      · have s1 : IntKind.i64.wrap (1 + (x.f2.length : Int)) = 1 + (x.f2.length : Int) := IntWalk.i64_in _ (by have := HX.out.2; omega)
        have s2 : IntKind.i64.wrap (1 + (x.f2.length : Int) + (x.f1.length : Int)) = 1 + (x.f2.length : Int) + (x.f1.length : Int) := IntWalk.i64_in _ (by have := HX.out; omega)
        have s3 : IntKind.i64.wrap (m + (1 + (x.f2.length : Int) + (x.f1.length : Int))) = m + (1 + (x.f2.length : Int) + (x.f1.length : Int)) := IntWalk.i64_in _ (by have := HX.out; omega)
        go_wp2
        go_quiet (fail)
        go_wp2
        go_roundg (rs.length - (k + 1))
        case measure => omega
        case rel =>
          clear s1 s2 s3
          refine ⟨k + 1, m + (1 + (x.f2.length : Int) + (x.f1.length : Int)), by omega, rfl, by go_num, by omega, by have := HX.out; omega, ?_, ⟨HW.out.1.trans (Below.mono (Below.drewQ ⟨_, rfl⟩) HW.out.1.size), HW.out.2.below (Below.drewQ ⟨_, rfl⟩) HW.out.2.lt⟩⟩
          have := HM'.out
          rw [wt, if_pos hm] at this
          exact this
      · go_wp2
        go_ret
        refine ⟨?_, HW.out.1⟩
        have := HM'.out
        rw [wt, if_neg (by omega)] at this
        rw [this]
        rfl
    · go_wp2
      go_ret
      refine ⟨?_, HW.out.1⟩
      have := HM.out
      rw [List.drop_of_length_le (by omega), wt] at this
      rw [this]
      rfl
set_option maxRecDepth 100000 in
set_option maxHeartbeats 4000000 in
theorem heavy08.calls (Au Ar : Option Addr) (cu cr : Nat) (us : List S69) (rs : List S34) (w : World) (hr : Kd.C k34 w Ar rs.length rs) (hf : GramFit us rs) :
    Calls Try.prog 15 #[.agg #[.slice Au us.length cu, .slice Ar rs.length cr]] w fun e w' => e = .returned (.bool (decide (1048576 < wt rs us.length))) ∧ Below w.heap.size w w' := by
  have HR := Lib.hid hr; clear hr
  have HF := Lib.hid hf; clear hf
  go_enter Try.func15, Try.ntmps15
  go_wp2_with (fail)
  have HB : Hid (Below w.heap.size w (w.alloc (.cells #[.slice Au us.length cu, .slice Ar rs.length cr] 26))) := (Below.refl _ w).alloc (Nat.le_refl _) _
  refine (Weight.calls _ _ _ _ us rs _ (Kd.C_below HR.out HB.out) HF.out).mono ?_
  rintro e w1 ⟨rfl, hb⟩
  have HB1 := Lib.hid (HB.out.trans (hb.mono HB.out.size))
  clear hb
  dsimp only
  go_wp2
  go_ret
  exact ⟨by rfl, HB1.out⟩
end Go.Proofs.Ytmikgaphknbcaaa.B
