/- Texts joined and shortened (wip/tools/shrink.py): ShIs, Fx1, Fx12. -/
import Derived.Test.YtplknppmaepinaaChecked
import Derived.WalkKit
import Derived.LaidEql
import Derived.Stop.Asserts
import Derived.RowKitTokens
import Derived.Test.YtplknppmaepinaaQe1
/- errors.Is of two api.Errnos: are they one? -/
namespace Go.Proofs.Ytplknppmaepinaa.S
open Go Go.RowKit Go.Extern.Stop Go.Stop Go.Extern
theorem isTypeOf (v : Value) (w : World) : (Extern.ReflectliteType.typeOf #[.iface 42 v]).run Try.prog w = .ok (.iface 143 (.agg #[.pointer (some ⟨0, 42, none⟩)])) w := by kernel_rfl
/-- The model's own entry for Comparable. -/
def cmpE : Array Value → Sem Value := Extern.ReflectliteType.method fun t => do Rtype.noPackHeld "Comparable" t; pure (.bool (← typeInfo t).comparable)
theorem isComparable (w : World) : (cmpE #[.agg #[.pointer (some ⟨0, 42, none⟩)]]).run Try.prog w = .ok (.bool true) w := by kernel_rfl
theorem isMethodComparable (v : Value) (w : World) : (Go.method 288 143 v "Comparable").run Try.prog w = .ok (105, v) w := by kernel_rfl
theorem noIsE (v : Value) (xT : TypeId) (w : World) : (Instr.typeAssert (.iface 42 v) xT 145 true).run Try.prog w = .ok (.tuple #[.nilIface, .bool false]) w := run_typeAssert_lacksB Try.underlying145 (by kernel_rfl) (by kernel_rfl) v xT w
theorem noUnwrapE (v : Value) (xT : TypeId) (w : World) : (Instr.typeAssert (.iface 42 v) xT 148 true).run Try.prog w = .ok (.tuple #[.nilIface, .bool false]) w := run_typeAssert_lacksB Try.underlying148 (by kernel_rfl) (by kernel_rfl) v xT w
theorem noUnwrapsE (v : Value) (xT : TypeId) (w : World) : (Instr.typeAssert (.iface 42 v) xT 150 true).run Try.prog w = .ok (.tuple #[.nilIface, .bool false]) w := run_typeAssert_lacksB Try.underlying150 (by kernel_rfl) (by kernel_rfl) v xT w

theorem isComp : (Try.prog.info? 42).map (·.comparable) = some true := by kernel_rfl
set_option maxRecDepth 100000 in
theorem run_eql_iface_int (a b : Int) (w : World) : (binOp .eql 46 (.iface 42 (.int .i64 a)) (.iface 42 (.int .i64 b))).run Try.prog w = .ok (.bool (a == b)) w := by
  obtain ⟨i, hi, hcmp⟩ := Option.map_eq_some_iff.1 isComp
  have h : ∀ d : Nat, (Op.equalIn (d + 2) 46 (.iface 42 (.int .i64 a)) (.iface 42 (.int .i64 b))).run Try.prog w = .ok (a == b) w := fun d => by simp [Op.equalIn, run_underlying Try.underlying46, run_underlying Try.underlying42, typeInfo, hi, hcmp]
  simp only [binOp]
  simp [Op.equal, Op.maxDepth, h 9998]
set_option maxRecDepth 100000 in
theorem errIs.calls (a b : Int) (w : World) : Calls Try.prog 59 #[.iface 42 (.int .i64 a), .iface 42 (.int .i64 b)] w fun e w' => e = .returned (.bool (a == b)) ∧ w' = w := by
  obtain ⟨i, hi, hcmp⟩ := Option.map_eq_some_iff.1 isComp
  have h76 := @run_callFunc_extern Try.prog 76 _ Extern.ReflectliteType.typeOf Try.func76 (by kernel_rfl) (by kernel_rfl) (by kernel_rfl) (by kernel_rfl)
  have h105 := @run_callFunc_extern Try.prog 105 _ cmpE Try.func105 (by kernel_rfl) (by kernel_rfl) (by kernel_rfl) (by kernel_rfl)
  have tT := isTypeOf
  have cT := isComparable
  have mR := isMethodComparable
  have nE := noIsE
  have uE := noUnwrapE
  have vE := noUnwrapsE
  have hu46 := Try.underlying46
  have hu42 := Try.underlying42
  have heq := run_eql_iface_int a b w
  cases hab : (a == b)
  all_goals
    rw [hab] at heq
    go_enter Try.func59, Try.ntmps59
    go_wp2
    refine wp_loop_rounds 1 ?_
    rw [rounds_succ]
    go_wp2
    go_ret
    exact ⟨rfl, rfl⟩
end Go.Proofs.Ytplknppmaepinaa.S
namespace Go.Proofs.Ytplknppmaepinaa.F
open Go.RowKit Go.Proofs.YtplknppmaepinaaW.PrintWords Go.Proofs.YtplknppmaepinaaW.PrintLast Go.Proofs.YtplknppmaepinaaW.PrintMore
attribute [local go_sem] max2_int min2_int max_two min_two max_three min_three max_four min_four   -- for this text's walks alone
set_option linter.unusedVariables false
set_option linter.unusedSimpArgs false

theorem eqA102 (d : Nat) (w : World) (x0 y0 : Int) (x1 y1 : ByteArray) (x2 y2 : Int) :
    (Op.equalIn (d + 2) 102 (.agg #[.int .i64 x0, .string x1, .int .i64 x2]) (.agg #[.int .i64 y0, .string y1, .int .i64 y2])).run Try.prog w = .ok (x0 == y0 && (x1.toList == y1.toList && (x2 == y2))) w := by
  refine eqA_of Try.underlying102 (by kernel_rfl) ?_
  refine eqf_cons (by rfl) (by go_simp; rfl) (by go_simp; rfl) (by go_simp) ?_
  refine eqf_cons (by rfl) (by go_simp; rfl) (by go_simp; rfl) (by go_simp) ?_
  exact eqf_last (by rfl) (by go_simp; rfl) (by go_simp; rfl) (by go_simp)
end Go.Proofs.Ytplknppmaepinaa.F
namespace Go.Proofs.Ytplknppmaepinaa.F
open Go.RowKit Go.Proofs.YtplknppmaepinaaW.PrintWords Go.Proofs.YtplknppmaepinaaW.PrintLast Go.Proofs.YtplknppmaepinaaW.PrintMore
attribute [local go_sem] max2_int min2_int max_two min_two max_three min_three max_four min_four   -- for this text's walks alone
set_option linter.unusedVariables false
set_option linter.unusedSimpArgs false

attribute [local go_sem high] eqA102
-- NOT PRINTED: function 73 (slices_partitionOrdered_string)

-- NOT PRINTED: function 57 (slices_pdqsortOrdered_string)

-- NOT PRINTED: function 31 (slices_Sort_string_string)

-- NOT PRINTED: function 32 (shelf_fresh)

-- NOT PRINTED: function 11 (shelf_Shelf_Files)

-- NOT PRINTED: function 12 (dowelref01_Shelf_Files)

-- NOT PRINTED: function 13 (shelf_Shelf_Left)

-- NOT PRINTED: function 14 (dowelref01_Shelf_Left)

-- NOT PRINTED: function 15 (shelf_Shelf_Calls)

-- NOT PRINTED: function 3 (dowellaw01_ShelfMakes)

-- NOT PRINTED: function 38 (shelf_Shelf_ask)

/-! ### shelf_told: function 40 -/

-- NOT PRINTED: function 18 (shelf_Shelf_Write)

-- NOT PRINTED: function 19 (shelf_Shelf_Remove)

-- NOT PRINTED: function 20 (shelf_Shelf_Read)

-- NOT PRINTED: function 76 (reflectlite_TypeOf)

-- NOT PRINTED: function 77 (errors_is)

-- NOT PRINTED: function 59 (errors_Is)

-- NOT PRINTED: function 35 (dowelbook_Number)

-- NOT PRINTED: function 16 (dowellaw01_works)

-- NOT PRINTED: function 4 (dowellaw01_ShelfLast)

/-! ### dowellaw01_total: function 23 -/

-- NOT PRINTED: function 5 (dowellaw01_ShelfRoom)

/-! ### dowellaw01_sameCalls: function 25 -/

/-! ### dowelref01_Shelf_planned: function 60 -/

-- NOT PRINTED: function 61 (dowelref01_Shelf_noted)

-- NOT PRINTED: function 45 (dowelref01_Shelf_Read)

-- NOT PRINTED: function 46 (dowelref01_Shelf_Write)

-- NOT PRINTED: function 47 (dowelref01_Shelf_Remove)

-- NOT PRINTED: function 62 (maps_clone)

-- NOT PRINTED: function 50 (maps_Clone_map_string_byte_string_byte)

-- NOT PRINTED: function 78 (slices_AppendSeq_string_string)

-- NOT PRINTED: function 63 (slices_Collect_string)

-- NOT PRINTED: function 51 (slices_Sorted_string)

-- NOT PRINTED: function 52 (maps_Keys_map_string_byte_string_byte)

-- NOT PRINTED: function 27 (shelf_Shelf_Each)

-- NOT PRINTED: function 48 (dowellaw01_told_walked)

-- NOT PRINTED: function 24 (dowellaw01_told_asked)

-- NOT PRINTED: function 49 (dowelbook_FreeBytes)

-- NOT PRINTED: function 26 (dowellaw01_told_free)

-- NOT PRINTED: function 6 (dowellaw01_ShelfPlays)

-- NOT PRINTED: function 28 (dowellaw01_turn)

-- NOT PRINTED: function 7 (dowellaw01_ShelfLater)

end Go.Proofs.Ytplknppmaepinaa.F
