/- Texts joined and shortened (wip/tools/shrink.py): Shelf, MGiven. -/
import Derived.Shelf.Small.Utf8
import Derived.Shelf.Small.Strs
import Derived.Shelf.Strings.Search1
import Derived.Shelf.Strings.Runes
import Derived.Shelf.Strings.IndexAny
import Derived.Shelf.Strings.AsciiSet
import Derived.Shelf.Strings.IndexAnyAll
import Derived.Test.YtmpkkphohilkoaaProg
import Derived.Test.YtmpkkphohilkoaaQt7
/- strings.ContainsAny at this dump: the contract of the shelf, laid in plain words (by the kit's lay-plain). -/
namespace Go.Proofs
open Go.Shelf
def Try.lays150_ren : Go.Shelf.Ren := ⟨fun | 150 => 40 | 153 => 50 | 152 => 57 | 226 => 58 | 227 => 59 | 228 => 60 | 137 => 63 | 119 => 64 | 224 => 65 | 225 => 66 | 217 => 67 | 266 => 68 | n => n, fun | 9 => 9 | 4 => 4 | 3 => 3 | 5 => 5 | 21 => 21 | 117 => 119 | 116 => 118 | 0 => 0 | 46 => 123 | 124 => 124 | n => n, fun | n => n⟩
theorem Try.lays150 : Go.Proofs.Lays.n150 Try.prog Try.lays150_ren := {
  mixed := by kernel_rfl
  f119 := Try.func64.trans (congrArg some (by kernel_rfl))
  f137 := Try.func63.trans (congrArg some (by kernel_rfl))
  f150 := Try.func40.trans (congrArg some (by kernel_rfl))
  f152 := Try.func57.trans (congrArg some (by kernel_rfl))
  f153 := Try.func50.trans (congrArg some (by kernel_rfl))
  f217 := Try.func67.trans (congrArg some (by kernel_rfl))
  f224 := Try.func65.trans (congrArg some (by kernel_rfl))
  f225 := Try.func66.trans (congrArg some (by kernel_rfl))
  f226 := Try.func58.trans (congrArg some (by kernel_rfl))
  f227 := Try.func59.trans (congrArg some (by kernel_rfl))
  f228 := Try.func60.trans (congrArg some (by kernel_rfl))
  f266 := Try.func68.trans (congrArg some (by kernel_rfl))
  t0 := Try.underlying0
  a0 := Try.isAgg0
  z0 := Try.sizeOf0
  v0 := Try.zeroValue0
  t3 := Try.underlying3
  a3 := Try.isAgg3
  z3 := Try.sizeOf3
  v3 := Try.zeroValue3
  t4 := Try.underlying4
  a4 := Try.isAgg4
  z4 := Try.sizeOf4
  v4 := Try.zeroValue4
  t5 := Try.underlying5
  a5 := Try.isAgg5
  z5 := Try.sizeOf5
  v5 := Try.zeroValue5
  t9 := Try.underlying9
  a9 := Try.isAgg9
  z9 := Try.sizeOf9
  v9 := Try.zeroValue9
  t21 := Try.underlying21
  a21 := Try.isAgg21
  z21 := Try.sizeOf21
  v21 := Try.zeroValue21
  t46 := Try.underlying123
  a46 := Try.isAgg123
  z46 := Try.sizeOf123
  v46 := Try.zeroValue123
  t116 := Try.underlying118
  a116 := Try.isAgg118
  z116 := Try.sizeOf118
  t117 := Try.underlying119
  a117 := Try.isAgg119
  z117 := Try.sizeOf119
  v117 := Try.zeroValue119
  t124 := Try.underlying124
  a124 := Try.isAgg124
  z124 := Try.sizeOf124
  v124 := Try.zeroValue124 }
open Go.RowKit Go.Lib in
theorem Try.strings_ContainsAny_laid (s chars : ByteArray) (w : World) (hs : s.size < 4294967281) (hcs : chars.size < 4294967281) (has : ∀ (j : Nat) b, s.data.toList[j]? = some b → b.toNat < 128) (hac : ∀ (j : Nat) b, chars.data.toList[j]? = some b → b.toNat < 128) :
    Calls Try.prog 40 #[.string s, .string chars] w fun e w' => e = .returned (.bool (Lib.containsAny s.data.toList chars.data.toList)) ∧ Below w.heap.size w w' := Any.strings_ContainsAny_laid Try.lays150 (by kernel_rfl) s chars w hs hcs has hac
end Go.Proofs
/- Functions that are given to the print: lexis.Name, strings.ContainsAny. -/
namespace Go.Proofs.Ytmpkkphohilkoaa.F
open Go Go.RowKit Go.X Go.Proofs.YtmpkkphohilkoaaW.PrintWords Go.Proofs.Ytmpkkphohilkoaa.Nm

def lexis_Name.f (a0 : ByteArray) : Option Bool := some (nameOK a0)
theorem lexis_Name.calls (a0 : ByteArray) (r : Bool) (w : World) (h : lexis_Name.f a0 = some r) : Calls Try.prog 25 #[.string a0] w fun e w' => e = .returned (.bool r) ∧ Drawn0 w w' := by
  obtain rfl := Option.some.inj h
  exact (name.calls a0 w).mono fun e w' ⟨h1, h2⟩ => ⟨h1, h2 ▸ Drawn0.refl _⟩
def asc (s : ByteArray) : Bool := s.data.toList.all fun b => decide (b.toNat < 128)
theorem asc_at {s : ByteArray} (h : asc s = true) : ∀ (j : Nat) b, s.data.toList[j]? = some b → b.toNat < 128 := fun j b hj => by
  have := List.all_eq_true.1 h b (List.mem_of_getElem? hj)
  simpa using this
def strings_ContainsAny.f (a0 a1 : ByteArray) : Option Bool := if asc a0 = true ∧ asc a1 = true ∧ a0.size < 4294967281 ∧ a1.size < 4294967281 then some (Lib.containsAny a0.data.toList a1.data.toList) else none
theorem strings_ContainsAny.calls (a0 a1 : ByteArray) (r : Bool) (w : World) (h : strings_ContainsAny.f a0 a1 = some r) : Calls Try.prog 40 #[.string a0, .string a1] w fun e w' => e = .returned (.bool r) ∧ Below w.heap.size w w' := by
  unfold strings_ContainsAny.f at h
  split at h
  · rename_i hc
    obtain rfl := Option.some.inj h
    exact Try.strings_ContainsAny_laid a0 a1 w hc.2.2.1 hc.2.2.2 (asc_at hc.1) (asc_at hc.2.1)
  · cases h
end Go.Proofs.Ytmpkkphohilkoaa.F
