/- '==' of arrays of whole numbers as one Bool. -/
import Derived.ChangeKeysEq
namespace Go
section
variable {P : Program} {w : World}
theorem xpart_one {e : TypeId} {k : IntKind} (he : P.underlying e = some (.int k)) (xs : Array Value) (j : Nat) {v : Value} (hv : xs[j]? = some v) :
    (part e xs j).run P w = .ok v w := by
  have hp : P.plainKey e = true := by simp [Program.plainKey, he]
  exact run_part_plain w hp hv
theorem xitems_cons {e : TypeId} {k : IntKind} (he : P.underlying e = some (.int k)) (hc : P.cellsOf e = 1) (d : Nat) (xs ys : Array Value) (i : Nat) (is : List Nat) {a b : Int}
    (ha : xs[i]? = some (.int k a)) (hb : ys[i]? = some (.int k b)) {r : Bool} (h : (Op.eqItems (d + 1) e (P.cellsOf e) xs ys is).run P w = .ok r w) :
    (Op.eqItems (d + 1) e (P.cellsOf e) xs ys (i :: is)).run P w = .ok (a == b && r) w := by
  have ea : (part e xs (i * 1)).run P w = .ok (.int k a) w := xpart_one he xs _ (by simpa using ha)
  have eb : (part e ys (i * 1)).run P w = .ok (.int k b) w := xpart_one he ys _ (by simpa using hb)
  have eq := run_equalIn_int (P := P) w d e k k a b he
  rw [hc] at h ⊢
  simp only [Op.eqItems, Sem.run_bind, ea, eb, eq, Result.andThen_ok]
  cases hab : (a == b)
  · simp
  · simpa using h
theorem eqArr4 {t e : TypeId} {k : IntKind} {i : TypeInfo} (hu : P.underlying t = some (.array 4 e)) (hi : P.info? e = some i) (hc : P.cellsOf e = 1) (he : P.underlying e = some (.int k))
    (d : Nat) (w : World) (x0 y0 x1 y1 x2 y2 x3 y3 : Int) :
    (Op.equalIn (d + 2) t (.agg #[.int k x0, .int k x1, .int k x2, .int k x3]) (.agg #[.int k y0, .int k y1, .int k y2, .int k y3])).run P w = .ok (x0 == y0 && (x1 == y1 && (x2 == y2 && (x3 == y3)))) w := by
  rw [run_equalIn_array (P := P) w (d + 1) _ _ hu hi]
  have h0 : (Op.eqItems (d + 1) e (P.cellsOf e) #[.int k x0, .int k x1, .int k x2, .int k x3] #[.int k y0, .int k y1, .int k y2, .int k y3] []).run P w = .ok true w := by simp [Op.eqItems]
  have h := xitems_cons he hc d #[.int k x0, .int k x1, .int k x2, .int k x3] #[.int k y0, .int k y1, .int k y2, .int k y3] 0 [1, 2, 3] rfl rfl
    (xitems_cons he hc d _ _ 1 [2, 3] rfl rfl (xitems_cons he hc d _ _ 2 [3] rfl rfl (xitems_cons he hc d _ _ 3 [] rfl rfl h0)))
  rw [Bool.and_true] at h
  exact h
end
end Go
