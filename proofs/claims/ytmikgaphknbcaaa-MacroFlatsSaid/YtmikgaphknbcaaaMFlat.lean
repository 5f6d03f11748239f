/- macro.Flat and dowelref08.Flat: both say whether a grammar is flat. -/
import Derived.Test.YtmikgaphknbcaaaMWeight
namespace Go.Proofs.Ytmikgaphknbcaaa.B
open Go Go.RowKit Go.X Go.Proofs.YtmikgaphknbcaaaW.PrintWords Go.Proofs.Ytmikgaphknbcaaa.F

def plainN (n : S47) : Bool := !(decide (n.f0 = 4) && decide (0 < n.f1))
def flatR (x : S34) : Bool := decide (x.f1.length = 0) && x.f2.all plainN
def flatOf (rs : List S34) : Bool := rs.all flatR
theorem drop_rl {rs : List S34} {k : Nat} (h : k < rs.length) : rs.drop k = rl rs k :: rs.drop (k + 1) := by
  rw [List.drop_eq_getElem_cons h, rl, List.getD_eq_getElem?_getD, List.getElem?_eq_getElem h]; rfl
theorem drop_nd {xs : List S47} {k : Nat} (h : k < xs.length) : xs.drop k = nd xs k :: xs.drop (k + 1) := by
  rw [List.drop_eq_getElem_cons h, nd, List.getD_eq_getElem?_getD, List.getElem?_eq_getElem h]; rfl
theorem flat_step {rs : List S34} {k : Nat} (h : k < rs.length) (hk : (rs.drop k).all flatR = flatOf rs) :
    (flatR (rl rs k) = true → (rs.drop (k + 1)).all flatR = flatOf rs) ∧ (flatR (rl rs k) = false → flatOf rs = false) := by
  rw [drop_rl h, List.all_cons] at hk
  exact ⟨fun h => by rw [h] at hk; exact hk, fun h => by rw [h] at hk; exact hk.symm⟩
theorem plain_step {xs : List S47} {k : Nat} (h : k < xs.length) (hk : (xs.drop k).all plainN = xs.all plainN) :
    (plainN (nd xs k) = true → (xs.drop (k + 1)).all plainN = xs.all plainN) ∧ (plainN (nd xs k) = false → xs.all plainN = false) := by
  rw [drop_nd h, List.all_cons] at hk
  exact ⟨fun h => by rw [h] at hk; exact hk, fun h => by rw [h] at hk; exact hk.symm⟩
set_option maxRecDepth 100000 in
set_option maxHeartbeats 4000000 in
theorem Flat.calls (Au Ar : Option Addr) (nu cu cr : Nat) (rs : List S34) (w : World) (hr : Kd.C k34 w Ar rs.length rs) :
    Calls Try.prog 17 #[.agg #[.slice Au nu cu, .slice Ar rs.length cr]] w fun e w' => e = .returned (.bool (flatOf rs)) ∧ Below w.heap.size w w' := by
  have HR := Lib.hid hr; clear hr
  have hm : Hid (rs.length ≤ 9223372036854775807) := (Kd.C_max HR.out)
  go_enter Try.func17, Try.ntmps17
  go_wp2
  have HB : Hid (Below w.heap.size w (w.alloc (.cells #[.slice Au nu cu, .slice Ar rs.length cr] 26))) := (Below.refl _ w).alloc (Nat.le_refl _) _
  generalize w.alloc (.cells #[.slice Au nu cu, .slice Ar rs.length cr] 26) = wa at *
  go_loopg [10] rs.length (fun q i wr => ∃ (k : Nat), q + k = rs.length ∧ i = .int .i64 k ∧ Hid ((rs.drop k).all flatR = flatOf rs) ∧ Hid (Below w.heap.size w wr))
  case atStart => exact ⟨0, by simp, rfl, rfl, HB⟩
  case round =>
    clear HB
    obtain ⟨k, hk, rfl, HM, HW⟩ := hrel
    by_cases hlt : k < rs.length
    · have HS := Lib.hid (flat_step hlt HM.out)
      clear HM
      obtain ⟨ad, A1, c1, A2, c2, eA, e0, e1, e2, l1, g1, l2, g2⟩ := rule_at (Kd.C_below HR.out HW.out) k hlt
      subst eA
      clear l1 l2 g1
      generalize rl rs k = x at *
      have G := Lib.hid g2; clear g2
      have hm2 : Hid (x.f2.length ≤ 9223372036854775807) := (Kd.C_max G.out)
      by_cases hp : x.f1.length = 0
      · go_wp2
        clear e0 e1 e2
        go_loopg [21] x.f2.length (fun q i w' => ∃ (k : Nat), q + k = x.f2.length ∧ i = .int .i64 k ∧ Hid ((x.f2.drop k).all plainN = x.f2.all plainN) ∧ Hid (Below wr.heap.size wr w'))
        case atStart => exact ⟨0, by simp, rfl, rfl, (Below.refl _ wr).alloc (Nat.le_refl _) _⟩
        case round =>
          rename World => wo
          obtain ⟨k1, hk1, rfl, HM1, HI⟩ := hrel
          by_cases hlt1 : k1 < x.f2.length
          · obtain ⟨ad, eA, c0, c1, c2, c3, c4, c5, c6, c7, c8, c9⟩ := node_at (Kd.C_below G.out HI.out) k1 hlt1
            subst eA
            have HS1 := Lib.hid (plain_step hlt1 HM1.out)
            clear HM1
            generalize nd x.f2 k1 = y at *
            by_cases h4 : y.f0 = 4
            · by_cases h5 : 0 < y.f1
              · go_wp2
                go_ret
                have := HS1.out.2 (by simp [plainN, h4, h5])
                have := HS.out.2 (by simp [flatR, this])
                exact ⟨by rw [this]; rfl, HW.out.trans ((HI.out.alloc HI.out.size _).mono HW.out.size)⟩
              · go_wp2
                go_roundg (x.f2.length - (k1 + 1))
                case measure => omega
                case rel => exact ⟨k1 + 1, by omega, by rw [IntWalk.wrap64_in _ (by have := hm2.out; omega)]; rfl, HS1.out.1 (by simp [plainN, h5]), HI.out.alloc HI.out.size _⟩
            · go_wp2
              go_roundg (x.f2.length - (k1 + 1))
              case measure => omega
              case rel => exact ⟨k1 + 1, by omega, by rw [IntWalk.wrap64_in _ (by have := hm2.out; omega)]; rfl, HS1.out.1 (by simp [plainN, h4]), HI.out.alloc HI.out.size _⟩
          · go_wp2
            go_roundg (rs.length - (k + 1))
            case measure => omega
            case rel =>
              have : x.f2.all plainN = true := by
                have := HM1.out
                rw [List.drop_of_length_le (by omega)] at this
                rw [← this]
                rfl
              exact ⟨k + 1, by omega, by rw [IntWalk.wrap64_in _ (by have := hm.out; omega)]; rfl, HS.out.1 (by simp [flatR, hp, this]), HW.out.trans (HI.out.mono HW.out.size)⟩
      · go_wp2
        go_ret
        have := HS.out.2 (by simp [flatR, hp])
        exact ⟨by rw [this]; rfl, HW.out.alloc HW.out.size _⟩
    · go_wp2
      go_ret
      refine ⟨?_, HW.out⟩
      have := HM.out
      rw [List.drop_of_length_le (by omega)] at this
      rw [← this]
      rfl
set_option maxRecDepth 100000 in
set_option maxHeartbeats 4000000 in
theorem RefFlat.calls (Au Ar : Option Addr) (nu cu cr : Nat) (rs : List S34) (w : World) (hr : Kd.C k34 w Ar rs.length rs) :
    Calls Try.prog 18 #[.agg #[.slice Au nu cu, .slice Ar rs.length cr]] w fun e w' => e = .returned (.bool (flatOf rs)) ∧ Below w.heap.size w w' := by
  have HR := Lib.hid hr; clear hr
  have hm : Hid (rs.length ≤ 9223372036854775807) := (Kd.C_max HR.out)
  go_enter Try.func18, Try.ntmps18
  go_wp2
  have HB : Hid (Below w.heap.size w (w.alloc (.cells #[.slice Au nu cu, .slice Ar rs.length cr] 26)) ∧ Blk (w.alloc (.cells #[.slice Au nu cu, .slice Ar rs.length cr] 26)) w.heap.size 26 [.slice Au nu cu, .slice Ar rs.length cr]) :=
    ⟨(Below.refl _ w).alloc (Nat.le_refl _) _, Blk.alloc w _ _⟩
  generalize w.alloc (.cells #[.slice Au nu cu, .slice Ar rs.length cr] 26) = wa at *
  have a1 : wa.cell? ⟨w.heap.size, 1, none⟩ = some (.slice Ar rs.length cr) := HB.out.2.cell 1
  go_loopg [3] rs.length (fun q i wr => ∃ (k : Nat), q + k = rs.length ∧ i = .int .i64 k ∧ Hid ((rs.drop k).all flatR = flatOf rs) ∧ wr = wa)
  case atStart => exact ⟨0, by simp, rfl, rfl, rfl⟩
  case round =>
    obtain ⟨k, hk, rfl, HM, rfl⟩ := hrel
    by_cases hlt : k < rs.length
    · have HS := Lib.hid (flat_step hlt HM.out)
      clear HM
      obtain ⟨ad, A1, c1, A2, c2, eA, e0, e1, e2, l1, g1, l2, g2⟩ := rule_at (Kd.C_below HR.out HB.out.1) k hlt
      subst eA
      clear l1 l2 g1
      generalize rl rs k = x at *
      have G := Lib.hid g2; clear g2
      have hm2 : Hid (x.f2.length ≤ 9223372036854775807) := (Kd.C_max G.out)
      by_cases hp : x.f1.length = 0
      · go_wp2
        go_loopg [4] x.f2.length (fun q i w' => ∃ (k : Nat), q + k = x.f2.length ∧ i = .int .i64 k ∧ Hid ((x.f2.drop k).all plainN = x.f2.all plainN) ∧ w' = wr)
        case atStart => exact ⟨0, by simp, rfl, rfl, rfl⟩
        case round =>
          rename World => wo
          obtain ⟨k1, hk1, rfl, HM1, rfl⟩ := hrel
          by_cases hlt1 : k1 < x.f2.length
          · obtain ⟨ad, eA, c0, c1, c2, c3, c4, c5, c6, c7, c8, c9⟩ := node_at G.out k1 hlt1
            subst eA
            clear c2 c3 c4 c5 c6 c7 c8 c9
            have HS1 := Lib.hid (plain_step hlt1 HM1.out)
            clear HM1
            generalize nd x.f2 k1 = y at *
            by_cases h4 : y.f0 = 4
            · by_cases h5 : 0 < y.f1
              · go_wp2
                go_ret
                have := HS1.out.2 (by simp [plainN, h4, h5])
                have := HS.out.2 (by simp [flatR, this])
                exact ⟨by rw [this]; rfl, HB.out.1⟩
              · go_wp2
                go_roundg (x.f2.length - (k1 + 1))
                case measure => omega
                case rel => exact ⟨k1 + 1, by omega, by rw [IntWalk.wrap64_in _ (by have := hm2.out; omega)]; rfl, HS1.out.1 (by simp [plainN, h5]), rfl⟩
            · go_wp2
              go_roundg (x.f2.length - (k1 + 1))
              case measure => omega
              case rel => exact ⟨k1 + 1, by omega, by rw [IntWalk.wrap64_in _ (by have := hm2.out; omega)]; rfl, HS1.out.1 (by simp [plainN, h4]), rfl⟩
          · go_wp2
            go_roundg (rs.length - (k + 1))
            case measure => omega
            case rel =>
              have : x.f2.all plainN = true := by
                have := HM1.out
                rw [List.drop_of_length_le (by omega)] at this
                rw [← this]
                rfl
              exact ⟨k + 1, by omega, by rw [IntWalk.wrap64_in _ (by have := hm.out; omega)]; rfl, HS.out.1 (by simp [flatR, hp, this]), rfl⟩
      · go_wp2
        go_ret
        have := HS.out.2 (by simp [flatR, hp])
        exact ⟨by rw [this]; rfl, HB.out.1⟩
    · go_wp2
      go_ret
      refine ⟨?_, HB.out.1⟩
      have := HM.out
      rw [List.drop_of_length_le (by omega)] at this
      rw [← this]
      rfl
end Go.Proofs.Ytmikgaphknbcaaa.B
