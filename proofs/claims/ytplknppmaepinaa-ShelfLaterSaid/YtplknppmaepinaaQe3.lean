/- Texts joined and shortened (wip/tools/shrink.py): ShIter, ShKey, ShMem, ShLeaf, ShNamed, ShF, ShLend, ShLent, ShRef1, ShPut, ShRefNew, ShMap. -/
import Derived.Shelf.SlIter.Nil
import Derived.Shelf.SortM.Plain
import Derived.Shelf.SortM.SortNone
import Derived.Shelf.SlMaps.Clone
import Derived.Test.YtplknppmaepinaaProg
import Derived.Maps.OwnSet
import Derived.DeepKeys4
import Derived.Test.YtplknppmaepinaaQe1
import Derived.WalkKit
import Derived.Lib.Hide
import Derived.Lib.SliceRun
import Derived.Deep.RegionHeld3
import Derived.RegionTactic
import Derived.BigQuiet
import Derived.Carry
/- slices.Sorted(maps.Keys(m)): the contracts of the shelf, laid in plain words (by the kit's lay-iter and lay-plain). -/
namespace Go.Proofs
open Go.RowKit Go.Maps Go.Sort Go.Shelf
def Try.keys52_ren : Go.Shelf.Ren := ⟨fun | 7 => 52 | 10 => 64 | n => n, fun | 23 => 80 | 26 => 9 | 3 => 39 | 28 => 107 | 0 => 0 | 27 => 106 | 33 => 90 | 4 => 4 | n => n, fun | n => n⟩
theorem Try.keys52 : Go.Proofs.SlLaysZ.n7 Try.prog Try.keys52_ren := {
  mixed := by kernel_rfl
  f7 := ⟨Try.f52.name, by decide, Try.func52.trans (congrArg some (by kernel_rfl))⟩
  f10 := ⟨Try.f64.name, by decide, Try.func64.trans (congrArg some (by kernel_rfl))⟩
  t0 := Try.underlying0
  a0 := Try.isAgg0
  z0 := Try.sizeOf0
  v0 := Try.zeroValue0
  t4 := Try.underlying4
  a4 := Try.isAgg4
  z4 := Try.sizeOf4
  v4 := Try.zeroValue4
  t23 := Try.underlying80
  a23 := Try.isAgg80
  z23 := Try.sizeOf80
  v23 := Try.zeroValue80
  t26 := Try.underlying9
  a26 := Try.isAgg9
  z26 := Try.sizeOf9
  v26 := Try.zeroValue9
  t27 := Try.underlying106
  a27 := Try.isAgg106
  z27 := Try.sizeOf106
  v27 := Try.zeroValue106
  t28 := Try.underlying107
  a28 := Try.isAgg107
  z28 := Try.sizeOf107
  v28 := Try.zeroValue107
  t33 := Try.underlying90
  a33 := Try.isAgg90
  z33 := Try.sizeOf90
  v33 := Try.zeroValue90 }
def Try.sorted51_ren : Go.Shelf.Ren := ⟨fun | 6 => 51 | 8 => 63 | 9 => 31 | 11 => 78 | 13 => 58 | 12 => 57 | 23 => 74 | 24 => 75 | 14 => 65 | 15 => 66 | 16 => 67 | 17 => 68 | 18 => 69 | 19 => 70 | 20 => 71 | 21 => 72 | 22 => 73 | 25 => 79 | 26 => 80 | 27 => 81 | 28 => 82 | 29 => 83 | 30 => 84 | 31 => 85 | n => n, fun | 26 => 9 | 28 => 107 | 24 => 79 | 0 => 0 | 3 => 3 | 37 => 114 | 48 => 128 | 50 => 130 | 4 => 4 | 40 => 121 | 39 => 120 | 45 => 54 | 5 => 5 | 9 => 9 | 51 => 136 | 55 => 140 | 57 => 153 | 58 => 154 | 33 => 90 | n => n, fun | n => n⟩
theorem Try.sorted51 : Go.Proofs.SlLaysZ.n6 Try.prog Try.sorted51_ren := {
  mixed := by kernel_rfl
  f6 := ⟨Try.f51.name, by decide, Try.func51.trans (congrArg some (by kernel_rfl))⟩
  f8 := ⟨Try.f63.name, by decide, Try.func63.trans (congrArg some (by kernel_rfl))⟩
  f11 := ⟨Try.f78.name, by decide, Try.func78.trans (congrArg some (by kernel_rfl))⟩
  t0 := Try.underlying0
  a0 := Try.isAgg0
  z0 := Try.sizeOf0
  v0 := Try.zeroValue0
  t24 := Try.underlying79
  a24 := Try.isAgg79
  z24 := Try.sizeOf79
  v24 := Try.zeroValue79
  t26 := Try.underlying9
  a26 := Try.isAgg9
  z26 := Try.sizeOf9
  v26 := Try.zeroValue9
  t28 := Try.underlying107
  a28 := Try.isAgg107
  z28 := Try.sizeOf107
  v28 := Try.zeroValue107
  i26 := by kernel_rfl }
def Try.sort31_ren : Go.Shelf.Ren := ⟨fun | 6 => 31 | 8 => 58 | 9 => 57 | 19 => 74 | 20 => 75 | 21 => 65 | 22 => 66 | 23 => 67 | 24 => 68 | 25 => 69 | 26 => 70 | 27 => 71 | 28 => 72 | 29 => 73 | 36 => 79 | 31 => 80 | 32 => 81 | 37 => 82 | 38 => 83 | 39 => 84 | 41 => 85 | n => n, fun | 27 => 79 | 29 => 9 | 3 => 3 | 32 => 114 | 26 => 79 | 0 => 0 | 44 => 128 | 46 => 130 | 4 => 4 | 36 => 121 | 35 => 120 | 41 => 54 | 5 => 5 | 9 => 9 | 53 => 136 | 57 => 140 | 63 => 153 | 64 => 154 | n => n, fun | n => n⟩
theorem Try.sort31 : Go.Proofs.SlLaysM.n6 Try.prog Try.sort31_ren := {
  mixed := by kernel_rfl
  f6 := ⟨Try.f31.name, by decide, Try.func31.trans (congrArg some (by kernel_rfl))⟩
  f8 := Try.func58.trans (congrArg some (by kernel_rfl))
  f9 := ⟨Try.f57.name, by decide, Try.func57.trans (congrArg some (by kernel_rfl))⟩
  f19 := Try.func74.trans (congrArg some (by kernel_rfl))
  f20 := Try.func75.trans (congrArg some (by kernel_rfl))
  f21 := ⟨Try.f65.name, by decide, Try.func65.trans (congrArg some (by kernel_rfl))⟩
  f22 := ⟨Try.f66.name, by decide, Try.func66.trans (congrArg some (by kernel_rfl))⟩
  f23 := ⟨Try.f67.name, by decide, Try.func67.trans (congrArg some (by kernel_rfl))⟩
  f24 := ⟨Try.f68.name, by decide, Try.func68.trans (congrArg some (by kernel_rfl))⟩
  f25 := ⟨Try.f69.name, by decide, Try.func69.trans (congrArg some (by kernel_rfl))⟩
  f26 := ⟨Try.f70.name, by decide, Try.func70.trans (congrArg some (by kernel_rfl))⟩
  f27 := ⟨Try.f71.name, by decide, Try.func71.trans (congrArg some (by kernel_rfl))⟩
  f28 := ⟨Try.f72.name, by decide, Try.func72.trans (congrArg some (by kernel_rfl))⟩
  f29 := ⟨Try.f73.name, by decide, Try.func73.trans (congrArg some (by kernel_rfl))⟩
  f31 := Try.func80.trans (congrArg some (by kernel_rfl))
  f32 := Try.func81.trans (congrArg some (by kernel_rfl))
  f36 := ⟨Try.f79.name, by decide, Try.func79.trans (congrArg some (by kernel_rfl))⟩
  f37 := ⟨Try.f82.name, by decide, Try.func82.trans (congrArg some (by kernel_rfl))⟩
  f38 := ⟨Try.f83.name, by decide, Try.func83.trans (congrArg some (by kernel_rfl))⟩
  f39 := ⟨Try.f84.name, by decide, Try.func84.trans (congrArg some (by kernel_rfl))⟩
  f41 := ⟨Try.f85.name, by decide, Try.func85.trans (congrArg some (by kernel_rfl))⟩
  t0 := Try.underlying0
  a0 := Try.isAgg0
  z0 := Try.sizeOf0
  v0 := Try.zeroValue0
  t3 := Try.underlying3
  a3 := Try.isAgg3
  z3 := Try.sizeOf3
  v3 := Try.zeroValue3
  t4 := Try.underlying4
  a4 := Try.isAgg4
  z4 := Try.sizeOf4
  v4 := Try.zeroValue4
  t5 := Try.underlying5
  a5 := Try.isAgg5
  z5 := Try.sizeOf5
  v5 := Try.zeroValue5
  t9 := Try.underlying9
  a9 := Try.isAgg9
  z9 := Try.sizeOf9
  v9 := Try.zeroValue9
  t26 := Try.underlying79
  a26 := Try.isAgg79
  z26 := Try.sizeOf79
  v26 := Try.zeroValue79
  t27 := Try.underlying79
  a27 := Try.isAgg79
  z27 := Try.sizeOf79
  v27 := Try.zeroValue79
  t29 := Try.underlying9
  a29 := Try.isAgg9
  z29 := Try.sizeOf9
  v29 := Try.zeroValue9
  t32 := Try.underlying114
  a32 := Try.isAgg114
  z32 := Try.sizeOf114
  v32 := Try.zeroValue114
  t35 := Try.underlying120
  a35 := Try.isAgg120
  z35 := Try.sizeOf120
  v35 := Try.zeroValue120
  t36 := Try.underlying121
  a36 := Try.isAgg121
  z36 := Try.sizeOf121
  v36 := Try.zeroValue121
  t41 := Try.underlying54
  a41 := Try.isAgg54
  z41 := Try.sizeOf54
  v41 := Try.zeroValue54
  t44 := Try.underlying128
  a44 := Try.isAgg128
  z44 := Try.sizeOf128
  v44 := Try.zeroValue128
  t46 := Try.underlying130
  a46 := Try.isAgg130
  z46 := Try.sizeOf130
  v46 := Try.zeroValue130
  t53 := Try.underlying136
  a53 := Try.isAgg136
  z53 := Try.sizeOf136
  v53 := Try.zeroValue136
  t57 := Try.underlying140
  a57 := Try.isAgg140
  z57 := Try.sizeOf140
  v57 := Try.zeroValue140
  t63 := Try.underlying153
  a63 := Try.isAgg153
  z63 := Try.sizeOf153
  v63 := Try.zeroValue153
  t64 := Try.underlying154
  a64 := Try.isAgg154
  z64 := Try.sizeOf154
  v64 := Try.zeroValue154 }
/-- slices.Sort's two contracts at this dump, at the fence that asks nothing. -/
theorem Try.sorts51 (m : Nat) : AnyZ.SortsIn Try.prog Try.sorted51_ren Fence.wide m :=
  ⟨fun blk off cap ss W hH hblk hsz => callsIn_wide.2 (AnyM.slices_Sort_string Try.sort31 blk off cap ss W hH hblk hsz),
   fun p cap W => callsIn_wide.2 (AnyM.slices_Sort_string_none Try.sort31 p cap W)⟩

/-- **maps.Keys[map[string][]byte,string,[]byte], at whatever map, the nil one too:** a function value over ONE NEW BLOCK, which holds the map. -/
theorem Try.maps_Keys_52 (mb : Option Nat) (W : World) : CallsIn Fence.wide 5 Try.prog 52 #[.map mb] W fun e w' => e = .returned (.func (.func 64) #[] #[.pointer (some ⟨W.heap.size, 0, none⟩)]) ∧ w' = W.alloc (.cells #[.map mb] 80) :=
  AnyZ.keys_in Try.keys52 Fence.wide 5 trivial rfl mb W

set_option maxHeartbeats 1000000 in
/-- **slices.Sorted[string] AT WHAT maps.Keys[map[string][]byte,string,[]byte] HANDED BACK FOR A MAP THAT IS NOT nil** ('w': the world AHEAD of maps.Keys' call): A NEW SLICE THAT HOLDS THE MAP's KEYS, SORTED; nil just where it has none; nothing that lay before has turned. -/
theorem Try.slices_Sorted_keys_51_52 {H : Type} (b nn : Nat) (D0 : DataW H) (R : Value → Option (DataW H × List MemPlace)) (w : World) (hown : w.ownsMap Try.prog 9 R b nn D0) (hmax : Maps.size D0 ≤ maxLen) (hbytes : Maps.size D0 * 16 ≤ 140737488355328) :
    CallsIn Fence.wide 5 Try.prog 51 #[.func (.func 64) #[] #[.pointer (some ⟨w.heap.size, 0, none⟩)]] (w.alloc (.cells #[.map (some b)] 80)) fun e w' => ∃ (v : Value) (ss : List (List UInt8)), e = .returned v ∧ ss.Perm (strKeys D0) ∧
      w'.ownsRow (w.alloc (.cells #[.map (some b)] 80)).heap.size 9 1 v ss.length ((ss.mergeSort (fun x y => decide (x ≤ y))).map encStr) ∧ (v = .slice none 0 0 ↔ ss = []) ∧ Below (w.alloc (.cells #[.map (some b)] 80)).heap.size (w.alloc (.cells #[.map (some b)] 80)) w' := by
  have hbl := hown.lt
  have hseq : SeqGives Fence.wide 2 Try.prog 64 #[.pointer (some ⟨w.heap.size, 0, none⟩)] encStr (fun ss => ss.Perm (strKeys D0)) (Maps.size D0) (w.alloc (.cells #[.map (some b)] 80)) :=
    AnyZ.keys_gives (ρ := Try.keys52_ren) { Try.keys52 with } Fence.wide _ trivial rfl (by omega) w.heap.size b nn D0 _ (by simp) (by simp) (by
      obtain ⟨es, clock, hb, Ft, hs, hD⟩ := hown
      exact ⟨es, clock, (Below.heap_alloc _ _ b hbl).trans hb, Ft, hs, hD⟩)
  exact AnyZ.sorted_in Try.sorted51 Fence.wide 5 trivial trivial trivial trivial rfl (by omega) (Try.sorts51 _) (enters_of Try.func31 (by kernel_rfl) rfl) 64 #[.pointer (some ⟨w.heap.size, 0, none⟩)] trivial (enters_of Try.func64 (by kernel_rfl) rfl) _ _ hmax hbytes _ hseq


def Try.clone50_ren : Go.Shelf.Ren := ⟨fun | 5 => 50 | 7 => 62 | n => n, fun | 23 => 80 | 25 => 9 | 3 => 39 | 4 => 4 | 20 => 20 | n => n, fun | n => n⟩
theorem Try.clone50 : Go.Proofs.SlLaysW.n5 Try.prog Try.clone50_ren := {
  mixed := by kernel_rfl
  f5 := ⟨Try.f50.name, by decide, Try.func50.trans (congrArg some (by kernel_rfl))⟩
  f7 := Try.func62.trans (congrArg some (by kernel_rfl))
  t4 := Try.underlying4
  a4 := Try.isAgg4
  z4 := Try.sizeOf4
  v4 := Try.zeroValue4
  t20 := Try.underlying20
  a20 := Try.isAgg20
  z20 := Try.sizeOf20
  v20 := Try.zeroValue20
  t23 := Try.underlying80
  a23 := Try.isAgg80
  z23 := Try.sizeOf80
  v23 := Try.zeroValue80 }
end Go.Proofs
/- The keys of the troubles' map: a struct of two whole numbers. -/
namespace Go.Proofs.Ytplknppmaepinaa.S
open Go Go.RowKit Go.Maps Go.Proofs.YtplknppmaepinaaW.PrintWords Go.Proofs.Ytplknppmaepinaa.F

set_option maxRecDepth 100000 in
theorem laidOut : laidOutB Try.prog = true := by kernel_rfl
set_option maxRecDepth 100000 in
theorem row92 : (92 : TypeId) < Try.prog.types.size := of_decide_eq_true (by kernel_rfl)
theorem wide92 : (match Try.prog.underlying 92 with | some (.array _ _) | some (.struct _) => true | _ => false) = true := by kernel_rfl
set_option maxRecDepth 100000 in
theorem lawT : Keyed Try.prog 92 := Keyed.of_law (deep_law_laid laidOut (m := 2) (by omega) row92 (by kernel_rfl) wide92)
def tkey (c n : Int) : Lit := .string (keyBytes [.int .i64 c, .int .i64 n])
theorem st92 : ∃ fs : Array Field, Try.prog.underlying 92 = some (.struct fs) ∧ fs.toList.map (fun f => (f.type, f.offset, Try.prog.cellsOf f.type)) = [(3, 0, 1), (3, 1, 1)] ∧ fs.all (·.name != "_") = true :=
  ⟨_, Try.underlying92, by kernel_rfl, by kernel_rfl⟩
theorem size_types : ∃ m, Try.prog.types.size + 1 = m + 2 := ⟨Try.prog.types.size - 1, by have : (92 : Nat) < Try.prog.types.size := row92; omega⟩
theorem key92 : Try.prog.keyType 92 = true := by kernel_rfl
theorem form92 (a b : Value) : (Value.agg #[a, b]).formed Try.prog 92 = true := by
  have h : Try.prog.cellsOf 92 = 2 := by kernel_rfl
  obtain ⟨fs, hu, _, _⟩ := st92
  simp [Value.formed, hu, h]
theorem lits3 (m : Nat) (a : Int) (h : (Lit.int .i64 a).wf = true) : Try.prog.keyLits (m + 1) 3 [.int .i64 a] = some [.int .i64 a] := by
  unfold Program.keyLits
  rw [Try.underlying3]
  simp [h]
theorem keyT {c n : Int} (hc : (Lit.int .i64 c).wf = true) (hn : (Lit.int .i64 n).wf = true) : keyOf Try.prog 92 (.agg #[.int .i64 c, .int .i64 n]) = some (tkey c n) := by
  obtain ⟨fs, hu, hfs, hall⟩ := st92
  have h3 : Try.prog.cellsOf 3 = 1 := by kernel_rfl
  unfold keyOf
  rw [hu]
  dsimp only
  rw [key92, form92]
  obtain ⟨m, hm⟩ := size_types
  rw [hm]
  have e : Try.prog.keyLits (m + 2) 92 (Value.agg #[.int .i64 c, .int .i64 n]).cells.toList = some [.int .i64 c, .int .i64 n] := by
    unfold Program.keyLits
    rw [hu]
    have h : Try.prog.cellsOf 92 = 2 := by kernel_rfl
    have h2 : (Value.agg #[.int .i64 c, .int .i64 n]).cells.toList = [.int .i64 c, .int .i64 n] := rfl
    rw [h2]
    dsimp only
    rw [h, if_pos ⟨rfl, hall⟩]
    have hf : ∀ (fs : List Field), fs.map (fun f => (f.type, f.offset, Try.prog.cellsOf f.type)) = [(3, 0, 1), (3, 1, 1)] →
        (fs.mapM fun f => Try.prog.keyLits (m + 1) f.type (([.int .i64 c, .int .i64 n].drop f.offset).take (Try.prog.cellsOf f.type))) = some [[.int .i64 c], [.int .i64 n]] := by
      intro fs he
      obtain ⟨f, r, rfl, hf, he⟩ := List.map_eq_cons_iff.1 he
      obtain ⟨g, r, rfl, hg, he⟩ := List.map_eq_cons_iff.1 he
      obtain rfl := List.map_eq_nil_iff.1 he
      simp only [Prod.mk.injEq] at hf hg
      obtain ⟨f1, f2, _⟩ := hf
      obtain ⟨g1, g2, _⟩ := hg
      have a1 := lits3 m c hc
      have a2 := lits3 m n hn
      simp only [List.mapM_cons, List.mapM_nil, f1, f2, g1, g2, h3]
      simp [a1, a2]
    rw [hf _ hfs]
    rfl
  rw [e]
  rfl
theorem tkey_inj {c n c' n' : Int} (hc : (Lit.int .i64 c).wf = true) (hn : (Lit.int .i64 n).wf = true) (hc' : (Lit.int .i64 c').wf = true) (hn' : (Lit.int .i64 n').wf = true) (h : tkey c n = tkey c' n') : c = c' ∧ n = n' := by
  have := lawT.inj (keyT hc hn) (h ▸ keyT hc' hn')
  simpa using this
end Go.Proofs.Ytplknppmaepinaa.S
/- A shelf in memory: the program's (ShelfAt) and the document's (RefAt); the blocks that it lies in are told (ok): what else turns, leaves it as it is. -/
namespace Go.Proofs.Ytplknppmaepinaa.S
open Go Go.RowKit Go.Maps Go.X Go.Proofs.YtplknppmaepinaaW.PrintWords Go.Proofs.Ytplknppmaepinaa.F

/-- On the blocks that ok names, w' is w. -/
def Keeps (ok : Nat → Prop) (w w' : World) : Prop := ∀ k, ok k → k < w.heap.size → w'.heap[k]? = w.heap[k]?
theorem Keeps.refl (ok : Nat → Prop) (w : World) : Keeps ok w w := fun _ _ _ => rfl
theorem Keeps.below {ok : Nat → Prop} {w w' : World} (h : Below w.heap.size w w') : Keeps ok w w' := fun k _ hk => h.block k hk
theorem Keeps.grown {ok : Nat → Prop} {w w' : World} {r : Option Nat} (h : w.grownBy w' r) (hr : ∀ k, ok k → some k ≠ r) : Keeps ok w w' := fun k hk hlt => h.block k hlt (hr k hk)
theorem Keeps.but {ok S : Nat → Prop} {w w' : World} (h : But S w w') (hr : ∀ k, ok k → ¬ S k) : Keeps ok w w' := fun k hk hlt => h.block k hlt (hr k hk)
theorem heap_keep {w w' : World} {k : Nat} {o : Obj} (h : w.heap[k]? = some o) (hk : k < w.heap.size → w'.heap[k]? = w.heap[k]?) : w'.heap[k]? = some o := (hk (Array.getElem?_eq_some_iff.1 h).1).trans h
theorem Blk.keep {ok : Nat → Prop} {w w' : World} {b : Nat} {t : TypeId} {cs : List Value} (h : Blk w b t cs) (hk : Keeps ok w w') (hb : ok b) : Blk w' b t cs := heap_keep h (hk b hb)
theorem ownsRow_keep {ok : Nat → Prop} {w w' : World} {base : Nat} {e : TypeId} {size n : Nat} {v : Value} {xs : List Value} (h : w.ownsRow base e size v n xs) (hk : Keeps ok w w') (hb : ∀ g, v.ownBlock = some g → ok g) : w'.ownsRow base e size v n xs :=
  own_move h fun g hg => hk g (hb g hg) (own_lt h g hg)
theorem ownsMap_keep {H : Type} {P : Program} {k : TypeId} {R : Value → Option (DataW H × List MemPlace)} {ok : Nat → Prop} {w w' : World} {b n : Nat} {D : DataW H} (h : w.ownsMap P k R b n D) (hk : Keeps ok w w') (hb : ok b) : w'.ownsMap P k R b n D := by
  obtain ⟨es, clock, h1, r⟩ := h
  exact ⟨es, clock, heap_keep h1 (hk b hb), r⟩
theorem ownsMap_tight {H : Type} {P : Program} {k : TypeId} {R : Value → Option (DataW H × List MemPlace)} {w : World} {b n : Nat} {D : DataW H} (h : w.ownsMap P k R b n D) : w.ownsMap P k R b (Maps.size D) D := by
  obtain ⟨es, clock, h1, h2, h3, h4⟩ := h
  refine ⟨es, clock, h1, h2, ?_, h4⟩
  rw [h4]
  simp [Maps.size, length_sorted]

/-! ### bytes -/
/-- Bytes: an empty slice, or a row in a block of bytes. -/
def DataAt (w : World) (ok : Nat → Prop) (v : Value) (bs : List Int) : Prop :=
  (bs = [] ∧ ∃ A c, v = .slice A 0 c) ∨ ∃ g c rest, v = .slice (some ⟨g, 0, none⟩) bs.length c ∧ bs.length ≤ c ∧ bs.length ≤ maxLen ∧ ok g ∧ Blk w g 5 (nums .u8 bs ++ rest)
theorem DataAt.keep {w w' : World} {ok : Nat → Prop} {v : Value} {bs : List Int} (h : DataAt w ok v bs) (hk : Keeps ok w w') : DataAt w' ok v bs := by
  rcases h with h | ⟨g, c, rest, h1, h2, h3, h4, h5⟩
  · exact .inl h
  · exact .inr ⟨g, c, rest, h1, h2, h3, h4, Blk.keep h5 hk h4⟩
theorem DataAt.mono {w : World} {ok ok' : Nat → Prop} {v : Value} {bs : List Int} (h : DataAt w ok v bs) (hi : ∀ k, ok k → ok' k) : DataAt w ok' v bs := by
  rcases h with h | ⟨g, c, rest, h1, h2, h3, h4, h5⟩
  · exact .inl h
  · exact .inr ⟨g, c, rest, h1, h2, h3, hi _ h4, h5⟩
theorem DataAt.bound {w : World} {ok : Nat → Prop} {v : Value} {bs : List Int} (h : DataAt w ok v bs) : DataAt w (fun k => ok k ∧ k < w.heap.size) v bs := by
  rcases h with h | ⟨g, c, rest, h1, h2, h3, h4, h5⟩
  · exact .inl h
  · exact .inr ⟨g, c, rest, h1, h2, h3, ⟨h4, h5.lt⟩, h5⟩
theorem DataAt.slice {w : World} {ok : Nat → Prop} {v : Value} {bs : List Int} (h : DataAt w ok v bs) : ∃ A c, v = .slice A bs.length c ∧ bs.length ≤ c ∧ Kd.C (Kd.int .u8) w A bs.length bs := by
  rcases h with ⟨rfl, A, c, rfl⟩ | ⟨g, c, rest, rfl, h2, h3, h4, h5⟩
  · exact ⟨A, c, rfl, Nat.zero_le _, rfl, by simp, fun h => absurd h (Nat.lt_irrefl _)⟩
  · refine ⟨_, c, rfl, h2, C_of_blk h5 ?_ (by simpa [maxLen] using h3)⟩
    refine ⟨by simp [nums, Kd.int, Kd.scalar], fun j p hj => ?_⟩
    have hl := (List.getElem?_eq_some_iff.1 hj).1
    show ((nums .u8 bs).drop (j * 1)).take 1 = [.int .u8 p]
    rw [Nat.mul_one, nums, ← List.map_drop, ← List.map_take]
    rw [List.drop_eq_getElem_cons hl]
    simp [(List.getElem?_eq_some_iff.1 hj).2]
theorem DataAt.of_own {w : World} {ok : Nat → Prop} {base : Nat} {v : Value} {bs : List Int} (h : w.ownsRow base 5 1 v bs.length (nums .u8 bs)) (hok : ∀ g, v.ownBlock = some g → ok g) : DataAt w ok v bs := by
  rcases h.2 with ⟨rfl, h0⟩ | ⟨g, cap, cur, rfl, _, hh, h1, h2, h3, h4⟩
  · refine .inl ⟨List.eq_nil_of_length_eq_zero h0, none, 0, ?_⟩
    rfl
  · refine .inr ⟨g, cap, cur.toList.drop bs.length, rfl, h1, Nat.le_trans h1 h2, hok g (by simp [Value.ownBlock]), ?_⟩
    unfold Blk
    rw [hh, ← h4, Nat.mul_one]
    simp

/-! ### rows of files -/
/-- The cells of files: a name, and what leads to the bytes. -/
inductive FileCells (w : World) (ok : Nat → Prop) : List S73 → List Value → Prop
  | nil : FileCells w ok [] []
  | cons {f : S73} {v : Value} {L : List S73} {cs : List Value} : DataAt w ok v f.f1 → FileCells w ok L cs → FileCells w ok (f :: L) (.string f.f0 :: v :: cs)
theorem FileCells.keep {w w' : World} {ok : Nat → Prop} {L : List S73} {cs : List Value} (h : FileCells w ok L cs) (hk : Keeps ok w w') : FileCells w' ok L cs := by
  induction h with
  | nil => exact .nil
  | cons hd _ ih => exact .cons (hd.keep hk) ih
theorem FileCells.mono {w : World} {ok ok' : Nat → Prop} {L : List S73} {cs : List Value} (h : FileCells w ok L cs) (hi : ∀ k, ok k → ok' k) : FileCells w ok' L cs := by
  induction h with
  | nil => exact .nil
  | cons hd _ ih => exact .cons (hd.mono hi) ih
theorem FileCells.bound {w : World} {ok : Nat → Prop} {L : List S73} {cs : List Value} (h : FileCells w ok L cs) : FileCells w (fun k => ok k ∧ k < w.heap.size) L cs := by
  induction h with
  | nil => exact .nil
  | cons hd _ ih => exact .cons hd.bound ih
theorem FileCells.length {w : World} {ok : Nat → Prop} {L : List S73} {cs : List Value} (h : FileCells w ok L cs) : cs.length = L.length * 2 := by
  induction h with
  | nil => rfl
  | cons _ _ ih => simp [ih]; omega
theorem FileCells.append {w : World} {ok : Nat → Prop} {L M : List S73} {cs ds : List Value} (h : FileCells w ok L cs) (h' : FileCells w ok M ds) : FileCells w ok (L ++ M) (cs ++ ds) := by
  induction h with
  | nil => exact h'
  | cons hd _ ih => exact .cons hd ih
theorem FileCells.take {w : World} {ok : Nat → Prop} {L : List S73} {cs : List Value} (h : FileCells w ok L cs) (n : Nat) : FileCells w ok (L.take n) (cs.take (n * 2)) := by
  induction h generalizing n with
  | nil => simpa using .nil
  | cons hd _ ih =>
    cases n with
    | zero => simpa using .nil
    | succ n =>
      rw [show (n + 1) * 2 = n * 2 + 1 + 1 by omega]
      exact .cons hd (ih n)
theorem FileCells.get {w : World} {ok : Nat → Prop} {L : List S73} {cs : List Value} (h : FileCells w ok L cs) {j : Nat} {f : S73} (hj : L[j]? = some f) : ∃ v, cs[j * 2]? = some (.string f.f0) ∧ cs[j * 2 + 1]? = some v ∧ DataAt w ok v f.f1 := by
  induction h generalizing j with
  | nil => simp at hj
  | @cons g v L cs hd _ ih =>
    cases j with
    | zero =>
      simp at hj
      subst hj
      exact ⟨v, rfl, rfl, hd⟩
    | succ j =>
      obtain ⟨u, h1, h2, h3⟩ := ih (by simpa using hj)
      rw [show (j + 1) * 2 = j * 2 + 1 + 1 by omega]
      exact ⟨u, h1, h2, h3⟩
theorem FileCells.reps {w : World} {ok : Nat → Prop} {L : List S73} {cs : List Value} (h : FileCells w ok L cs) : Reps (k73.K w) k73.sz L cs := by
  refine ⟨h.length, fun j f hj => ?_⟩
  obtain ⟨v, h1, h2, h3⟩ := h.get hj
  obtain ⟨A, c, rfl, hl, hc⟩ := h3.slice
  have hlt := (List.getElem?_eq_some_iff.1 h2).1
  have e : (cs.drop (j * k73.sz)).take k73.sz = [.string f.f0, .slice A f.f1.length c] := by
    show (cs.drop (j * 2)).take 2 = _
    have e1 := (List.getElem?_eq_some_iff.1 h1).2
    have e2 := (List.getElem?_eq_some_iff.1 h2).2
    rw [List.drop_eq_getElem_cons (by omega), List.drop_eq_getElem_cons hlt, e1, e2]
    rfl
  rw [e]
  exact k73_mk w f hl hc
/-- A row of files of the call's own. -/
def FilesAt (w : World) (ok : Nat → Prop) (v : Value) (L : List S73) : Prop := (∀ g, v.ownBlock = some g → ok g) ∧ ∃ cs, FileCells w ok L cs ∧ w.ownsRow 0 73 2 v L.length cs
theorem FilesAt.keep {w w' : World} {ok : Nat → Prop} {v : Value} {L : List S73} (h : FilesAt w ok v L) (hk : Keeps ok w w') : FilesAt w' ok v L := by
  obtain ⟨h0, cs, h1, h2⟩ := h
  exact ⟨h0, cs, h1.keep hk, ownsRow_keep h2 hk h0⟩
theorem FilesAt.mono {w : World} {ok ok' : Nat → Prop} {v : Value} {L : List S73} (h : FilesAt w ok v L) (hi : ∀ k, ok k → ok' k) : FilesAt w ok' v L := by
  obtain ⟨h0, cs, h1, h2⟩ := h
  exact ⟨fun g hg => hi g (h0 g hg), cs, h1.mono hi, h2⟩
theorem FilesAt.bound {w : World} {ok : Nat → Prop} {v : Value} {L : List S73} (h : FilesAt w ok v L) : FilesAt w (fun k => ok k ∧ k < w.heap.size) v L := by
  obtain ⟨h0, cs, h1, h2⟩ := h
  exact ⟨fun g hg => ⟨h0 g hg, own_lt h2 g hg⟩, cs, h1.bound, h2⟩
theorem ownsRow_len {w : World} {base : Nat} {e : TypeId} {size n : Nat} {v : Value} {xs : List Value} (h : w.ownsRow base e size v n xs) : n ≤ maxLen := by
  rcases h.2 with ⟨rfl, rfl⟩ | ⟨g, cap, cur, rfl, _, _, h1, h2, _⟩
  · exact Nat.zero_le _
  · exact Nat.le_trans h1 h2
/-- The row as one that is read. -/
theorem FilesAt.slice {w : World} {ok : Nat → Prop} {v : Value} {L : List S73} (h : FilesAt w ok v L) : ∃ A c, v = .slice A L.length c ∧ L.length ≤ c ∧ Kd.C k73 w A L.length L := by
  obtain ⟨_, cs, h1, h2⟩ := h
  have hm := ownsRow_len h2
  rcases h2.2 with ⟨rfl, h0⟩ | ⟨g, cap, cur, rfl, _, hh, h3, h4, h5, h6⟩
  · obtain rfl := List.eq_nil_of_length_eq_zero h0
    exact ⟨none, 0, rfl, Nat.le_refl _, rfl, by simp, fun h => absurd h (Nat.lt_irrefl _)⟩
  · refine ⟨_, cap, rfl, h3, C_of_blk (e := 73) (cs := cs) (rest := cur.toList.drop (L.length * 2)) ?_ h1.reps (by simpa [maxLen] using hm)⟩
    unfold Blk
    rw [hh, ← h6]
    simp

/-! ### calls -/
def callCells : List S102 → List Value
  | [] => []
  | x :: r => .int .i64 x.f0 :: .string x.f1 :: .int .i64 x.f2 :: callCells r
theorem callCells_append (xs ys : List S102) : callCells (xs ++ ys) = callCells xs ++ callCells ys := by
  induction xs with
  | nil => rfl
  | cons x r ih => simp [callCells, ih]
theorem callCells_length (xs : List S102) : (callCells xs).length = xs.length * 3 := by
  induction xs with
  | nil => rfl
  | cons x r ih => simp [callCells, ih]; omega
theorem callCells_one (xs : List S102) : ∀ u ∈ callCells xs, u.oneCell' = true := by
  induction xs with
  | nil => intro u hu; cases hu
  | cons x r ih =>
    intro u hu
    simp only [callCells, List.mem_cons] at hu
    rcases hu with rfl | rfl | rfl | hu
    · rfl
    · rfl
    · rfl
    · exact ih u hu
theorem callCells_reps (w : World) (xs : List S102) : Reps (k102.K w) k102.sz xs (callCells xs) := by
  refine ⟨callCells_length xs, fun j x hj => ?_⟩
  have e : ((callCells xs).drop (j * k102.sz)).take k102.sz = [.int .i64 x.f0, .string x.f1, .int .i64 x.f2] := by
    show ((callCells xs).drop (j * 3)).take 3 = _
    induction xs generalizing j with
    | nil => simp at hj
    | cons y r ih =>
      cases j with
      | zero => simp at hj; subst hj; rfl
      | succ j =>
        rw [show (j + 1) * 3 = j * 3 + 1 + 1 + 1 by omega]
        exact ih j (by simpa using hj)
  rw [e]
  exact k102_mk w x
def troubleCells : List S76 → List Value
  | [] => []
  | x :: r => .int .i64 x.f0 :: .int .i64 x.f1 :: .int .i64 x.f2 :: troubleCells r
theorem troubleCells_length (xs : List S76) : (troubleCells xs).length = xs.length * 3 := by
  induction xs with
  | nil => rfl
  | cons x r ih => simp [troubleCells, ih]; omega
theorem troubleCells_reps (w : World) (xs : List S76) : Reps (k76.K w) k76.sz xs (troubleCells xs) := by
  refine ⟨troubleCells_length xs, fun j x hj => ?_⟩
  have e : ((troubleCells xs).drop (j * k76.sz)).take k76.sz = [.int .i64 x.f0, .int .i64 x.f1, .int .i64 x.f2] := by
    show ((troubleCells xs).drop (j * 3)).take 3 = _
    induction xs generalizing j with
    | nil => simp at hj
    | cons y r ih =>
      cases j with
      | zero => simp at hj; subst hj; rfl
      | succ j =>
        rw [show (j + 1) * 3 = j * 3 + 1 + 1 + 1 by omega]
        exact ih j (by simpa using hj)
  rw [e]
  exact k76_mk w x

/-! ### the shelf of the program -/
/-- How an element of the files' map is read: as it stands. -/
def RH (v : Value) : Option (DataW Value × List MemPlace) := some (.held v, [])
def nilV : Value := .slice none 0 0
structure FMap (w : World) (ok : Nat → Prop) (fm : Nat) (L : List S73) : Prop where
  mk' ::
  out : ∃ D : DataW Value, w.ownsMap Try.prog 9 RH fm (Maps.size D) D ∧ Maps.size D = L.length ∧ (∀ n : ByteArray, Maps.has D (.string (ky n)) = hasN L n) ∧ ∀ f ∈ L, ∃ v, D.atKey (.string (ky f.f0)) (.held nilV) = .held v ∧ DataAt w ok v f.f1
theorem FMap.keep {w w' : World} {ok : Nat → Prop} {fm : Nat} {L : List S73} (h : FMap w ok fm L) (hk : Keeps ok w w') (hf : ok fm) : FMap w' ok fm L := by
  obtain ⟨D, h1, h2, h3, h4⟩ := h.out
  exact ⟨D, ownsMap_keep h1 hk hf, h2, h3, fun f hf' => by obtain ⟨v, h5, h6⟩ := h4 f hf'; exact ⟨v, h5, h6.keep hk⟩⟩
theorem FMap.mono {w : World} {ok ok' : Nat → Prop} {fm : Nat} {L : List S73} (h : FMap w ok fm L) (hi : ∀ k, ok k → ok' k) : FMap w ok' fm L := by
  obtain ⟨D, h1, h2, h3, h4⟩ := h.out
  exact ⟨D, h1, h2, h3, fun f hf' => by obtain ⟨v, h5, h6⟩ := h4 f hf'; exact ⟨v, h5, h6.mono hi⟩⟩
def PMap (w : World) (pm : Nat) (plan : List S76) : Prop :=
  ∃ D : DataW Value, w.ownsMap Try.prog 92 (plainElem Try.prog 42) pm (Maps.size D) D ∧ Maps.size D ≤ plan.length ∧ ∀ c n, (Lit.int .i64 c).wf = true → (Lit.int .i64 n).wf = true → D.atKey (tkey c n) (.lit (.int .i64 0)) = .lit (.int .i64 (planF plan c n))
def AMap (w : World) (am : Nat) (all : List S102) : Prop :=
  ∃ D : DataW Value, w.ownsMap Try.prog 3 (plainElem Try.prog 3) am (Maps.size D) D ∧ Maps.size D ≤ all.length ∧ ∀ c, D.atKey (.int .i64 c) (.lit (.int .i64 0)) = .lit (.int .i64 (cntL all c))
structure ShelfAt (w : World) (ok : Nat → Prop) (sb : Nat) (s : Sh) : Prop where
  mk' ::
  out : ∃ fm pm am cv, Blk w sb 84 [.map (some fm), .int .i64 s.room, .int .i64 (szL s.L), .map (some pm), .map (some am), cv] ∧ FMap w ok fm s.L ∧ PMap w pm s.plan ∧ AMap w am s.all ∧
    w.ownsRow 0 102 3 cv s.all.length (callCells s.all) ∧ (ok sb ∧ ok fm ∧ ok pm ∧ ok am ∧ ∀ g, cv.ownBlock = some g → ok g) ∧ fm ≠ pm ∧ fm ≠ am ∧ pm ≠ am
theorem ShelfAt.keep {w w' : World} {ok : Nat → Prop} {sb : Nat} {s : Sh} (h : ShelfAt w ok sb s) (hk : Keeps ok w w') : ShelfAt w' ok sb s := by
  obtain ⟨fm, pm, am, cv, h1, h2, ⟨D, h3, h3'⟩, ⟨E, h4, h4'⟩, h5, h6, h7⟩ := h.out
  exact ⟨fm, pm, am, cv, Blk.keep h1 hk h6.1, h2.keep hk h6.2.1, ⟨D, ownsMap_keep h3 hk h6.2.2.1, h3'⟩, ⟨E, ownsMap_keep h4 hk h6.2.2.2.1, h4'⟩, ownsRow_keep h5 hk h6.2.2.2.2, h6, h7⟩
theorem ShelfAt.mono {w : World} {ok ok' : Nat → Prop} {sb : Nat} {s : Sh} (h : ShelfAt w ok sb s) (hi : ∀ k, ok k → ok' k) : ShelfAt w ok' sb s := by
  obtain ⟨fm, pm, am, cv, h1, h2, h3, h4, h5, h6, h7⟩ := h.out
  exact ⟨fm, pm, am, cv, h1, h2.mono hi, h3, h4, h5, ⟨hi _ h6.1, hi _ h6.2.1, hi _ h6.2.2.1, hi _ h6.2.2.2.1, fun g hg => hi _ (h6.2.2.2.2 g hg)⟩, h7⟩
theorem ownsMap_ne_blk {H : Type} {P : Program} {k : TypeId} {R : Value → Option (DataW H × List MemPlace)} {w : World} {b n : Nat} {D : DataW H} (h : w.ownsMap P k R b n D) {b' : Nat} {t : TypeId} {cs : List Value} (hb : Blk w b' t cs) : b ≠ b' := by
  rintro rfl
  obtain ⟨es, clock, h1, _⟩ := h
  have h2 : w.heap[b]? = _ := hb
  rw [h1] at h2
  cases h2
theorem ownsMap_ne_row {H : Type} {P : Program} {k : TypeId} {R : Value → Option (DataW H × List MemPlace)} {w : World} {b n : Nat} {D : DataW H} (h : w.ownsMap P k R b n D) {base : Nat} {e : TypeId} {size m : Nat} {v : Value} {xs : List Value} (hr : w.ownsRow base e size v m xs) : some b ≠ v.ownBlock := by
  intro hv
  obtain ⟨es, clock, h1, _⟩ := h
  obtain ⟨cells, h2⟩ := own_typed hr b hv.symm
  rw [h1] at h2
  cases h2
/-! ### the document's shelf -/
end Go.Proofs.Ytplknppmaepinaa.S
/- Copies of bytes: fresh, copied, slices.Clone; names: named. -/
namespace Go.Proofs.Ytplknppmaepinaa.S
open Go Go.RowKit Go.X Go.Proofs.YtplknppmaepinaaW.PrintWords Go.Proofs.Ytplknppmaepinaa.F

theorem C_bytes {w : World} {A : Option Addr} {bs : List Int} (h : Kd.C (Kd.int .u8) w A bs.length bs) : nums .u8 bs ≠ [] → ∃ ad, A = some ad ∧ ∀ j u, (nums .u8 bs)[j]? = some u → w.cell? (ad.add j) = some u := by
  obtain ⟨cs, hr, hc⟩ := C_cells h
  have e : cs = nums .u8 bs := by
    have hl : cs.length = bs.length := by have := hr.1; simpa [Kd.int, Kd.scalar] using this
    apply List.ext_getElem?
    intro j
    rcases Nat.lt_or_ge j bs.length with hj | hj
    · have := hr.2 j bs[j] (List.getElem?_eq_getElem hj)
      have h1 : (cs.drop (j * 1)).take 1 = [.int .u8 bs[j]] := this
      rw [Nat.mul_one, List.drop_eq_getElem_cons (by omega), List.take_succ_cons] at h1
      have h2 := (List.cons.inj h1).1
      rw [List.getElem?_eq_getElem (by omega), h2]
      simp [nums, hj]
    · rw [List.getElem?_eq_none (by omega), List.getElem?_eq_none (by rw [nums_length]; omega)]
  rw [← e]
  exact hc
theorem nums_one (bs : List Int) : ∀ u ∈ nums .u8 bs, u.oneCell' = true := by
  intro u hu
  simp only [nums, List.mem_map] at hu
  obtain ⟨x, _, rfl⟩ := hu
  rfl
/-- A new copy of bytes, and nothing of what was there has turned. -/
def FreshPost (w : World) (bs : List Int) (e : Ending) (w' : World) : Prop := ∃ v, e = .returned v ∧ DataAt w' (fun k => w.heap.size ≤ k) v bs ∧ Below w.heap.size w w'
theorem own_ge {w : World} {base : Nat} {e : TypeId} {size n : Nat} {v : Value} {xs : List Value} (h : w.ownsRow base e size v n xs) : ∀ g, v.ownBlock = some g → base ≤ g := fun g hg => own_base h g hg

set_option maxRecDepth 100000 in
set_option maxHeartbeats 1000000 in
theorem fresh.calls (A : Option Addr) (c : Nat) (bs : List Int) (w : World) (hr : Kd.C (Kd.int .u8) w A bs.length bs) (hm : bs.length ≤ 140737488355328) :
    Calls Try.prog 32 #[.slice A bs.length c] w (FreshPost w bs) := by
  obtain ⟨i0, hi, hz0, hz1, hz2⟩ := info_parts info5
  have HC := Lib.hid (C_bytes hr); clear hr
  have HI := Lib.hid hi; clear hi
  have HZ0 := Lib.hid hz0; clear hz0
  have HZ1 := Lib.hid hz1; clear hz1
  have HZ2 := Lib.hid hz2; clear hz2
  go_enter Try.func32, Try.ntmps32
  go_wp2_with (first
    | (at_make; refine wpList_make_own _ rfl _ _ 39 rfl w.heap.size 5 i0 _ 1 Try.underlying39 HI.out HZ0.out HZ1.out .i64 .i64 _ bs.length rfl rfl rfl (by rw [HZ2.out]; omega) (by simp only [maxLen]; omega) (Nat.le_refl _) ?_; intro w1 hb1 hg1; have HB1 := Lib.hid hb1; clear hb1; have HG1 := Lib.hid hg1; clear hg1)
    | (at_builtin; refine appendAny rfl (.tmp 5) (.tmp 6) 39 5 rfl w.heap.size (.int .u8 0) 1 1 Try.underlying39 info5 rfl (by decide) _ 0 [] rfl HB1.out A bs.length c (nums .u8 bs) rfl (by rw [nums_length]; omega) ?_ (nums_one bs) (by simp only [maxLen]; omega) (by omega) (by have := HG1.out.size; omega) ?_)
    | fail)
  · intro h0
    obtain ⟨ad, e, hc⟩ := HC.out h0
    exact ⟨ad, e, fun j u hj => HG1.out.cell (hc j u hj) (by simp)⟩
  intro v' w2 ho2 ha2
  have HO2 := Lib.hid ho2; clear ho2
  have HA2 := Lib.hid ha2; clear ha2
  go_wp2
  go_ret
  exact ⟨v', rfl, DataAt.of_own HO2.out (own_ge HO2.out), ((Below.refl _ _).grown HG1.out (Nat.le_refl _) (by simp)).grown HA2.out.grown HG1.out.size (by simp [Value.ownBlock])⟩
set_option maxRecDepth 100000 in
set_option maxHeartbeats 1000000 in
theorem clone.calls (A : Option Addr) (c : Nat) (bs : List Int) (w : World) (hr : Kd.C (Kd.int .u8) w A bs.length bs) (hm : bs.length ≤ 140737488355328) :
    Calls Try.prog 37 #[.slice A bs.length c] w (FreshPost w bs) := by
  have hnil := hr
  have HC := Lib.hid (C_bytes hr); clear hr
  go_enter Try.func37, Try.ntmps37
  cases A with
  | none =>
    have h0 : bs = [] := by
      rcases Nat.eq_zero_or_pos bs.length with h | h
      · exact List.eq_nil_of_length_eq_zero h
      · obtain ⟨ad, e, _⟩ := hnil.2.2 h
        cases e
    subst h0
    have he := fun W : World => Lib.run_eql_slice_nil (P := Try.prog) W 39 5 none 0 c 0 0 Try.underlying39
    go_wp2
    go_ret
    exact ⟨_, rfl, .inl ⟨rfl, _, _, rfl⟩, Below.refl _ _⟩
  | some ad =>
    clear hnil
    have he := fun W : World => Lib.run_eql_slice_nil (P := Try.prog) W 39 5 (some ad) bs.length c 0 0 Try.underlying39
    have HG1 : Hid (w.grownBy (w.alloc (.cells #[] 5)) none) := World.grownBy_alloc w _ none
    go_wp2_with (first
      | (at_builtin; refine appendAny rfl (.tmp 5) (.tmp 6) 39 5 rfl w.heap.size (.int .u8 0) 1 1 Try.underlying39 info5 rfl (by decide) (.slice (some ⟨w.heap.size, 0, none⟩) 0 0) 0 [] rfl (own_empty w 5 1) (some ad) bs.length c (nums .u8 bs) rfl (by rw [nums_length]; omega) ?_ (nums_one bs) (by simp only [maxLen]; omega) (by omega) (by simp) ?_)
      | fail)
    · intro h0
      obtain ⟨ad, e, hc⟩ := HC.out h0
      exact ⟨ad, e, fun j u hj => HG1.out.cell (hc j u hj) (by simp)⟩
    intro v' w2 ho2 ha2
    have HO2 := Lib.hid ho2; clear ho2
    have HA2 := Lib.hid ha2; clear ha2
    go_wp2
    go_ret
    exact ⟨v', rfl, DataAt.of_own HO2.out (own_ge HO2.out), ((Below.refl _ _).grown HG1.out (Nat.le_refl _) (by simp)).grown HA2.out.grown (by simp) (by simp [Value.ownBlock])⟩
end Go.Proofs.Ytplknppmaepinaa.S
/- shelf.named: is a text a file's name. -/
namespace Go.Proofs.Ytplknppmaepinaa.S
open Go Go.RowKit Go.X Go.Proofs.YtplknppmaepinaaW.PrintWords Go.Proofs.Ytplknppmaepinaa.F

theorem size_zero {s : ByteArray} (h : s.size = 0) : s = ⟨#[]⟩ := by
  apply ky_inj
  unfold ky
  have : s.data.size = 0 := h
  rw [Array.size_eq_zero_iff.1 this]
theorem nmOK_big {s : ByteArray} (h : ¬ s.size ≤ 64) : nmOK s = false := by simp [nmOK, h]
theorem all_take_succ (l : List Int) (p : Int → Bool) (i : Nat) (h : i < l.length) : (l.take (i + 1)).all p = ((l.take i).all p && p l[i]) := by
  rw [List.take_succ_eq_append_getElem h, List.all_append]
  simp
theorem all_false_of {l : List Int} {p : Int → Bool} {i : Nat} (h : i < l.length) (hp : p l[i] = false) : l.all p = false := by
  rw [List.all_eq_false]
  exact ⟨l[i], List.getElem_mem h, by simp [hp]⟩
theorem byteOK_iff {b : Int} : byteOK b = true ↔ (97 ≤ b ∧ b ≤ 122) ∨ (65 ≤ b ∧ b ≤ 90) ∨ (48 ≤ b ∧ b ≤ 57) ∨ b = 46 ∨ b = 45 ∨ b = 95 ∨ b = 47 := by
  simp only [byteOK, Bool.or_eq_true, Bool.and_eq_true, decide_eq_true_eq]
  omega
theorem get_of {l : List Int} {i : Nat} {b : Int} (h : i < l.length) (hb : l.getD i 0 = b) : l[i] = b := by
  rw [List.getD_eq_getElem?_getD, List.getElem?_eq_getElem h] at hb
  exact hb
set_option maxRecDepth 100000 in
set_option maxHeartbeats 4000000 in
theorem named.calls (s : ByteArray) (w : World) : Calls Try.prog 36 #[.string s] w fun e w' => e = .returned (.bool (nmOK s)) ∧ Below w.heap.size w w' := by
  by_cases h0 : s.size = 0
  · obtain rfl := size_zero h0
    clear h0
    go_enter Try.func36, Try.ntmps36
    go_wp2
    go_ret
    exact ⟨rfl, Below.refl _ _⟩
  have hq : ¬ s.toList = [] := by
    rw [ByteArray.toList_eq]
    intro e
    apply h0
    have : s.data.toList.length = 0 := by rw [e]; rfl
    rw [data_length] at this
    exact this
  have hq2 : s.toList.isEmpty = false := by cases h : s.toList <;> simp_all
  by_cases h64 : s.size ≤ 64
  · have hg : ¬ (64 : Int) < s.size := by omega
    have kb := fun W => print_bytes (P := Try.prog) 9 39 5 Try.underlying9 Try.underlying39 Try.underlying5 s W
    have hread := bytes_reads w 5 s (by omega)
    have HBW := Lib.hid (bytes_below (Below.refl w.heap.size w) (Nat.le_refl _) 5 s)
    obtain ⟨wb, hwb⟩ : ∃ wb, Lib.bytesWorld w 5 s = wb := ⟨_, rfl⟩
    rw [hwb] at hread HBW
    have hkb := kb w
    rw [hwb] at hkb
    have HR := Lib.hid hread
    clear kb hwb hread
    have hlen : (bytesOf s).length = s.size := bytesOf_length s
    have HL := Lib.hid hlen; clear hlen
    go_enter Try.func36, Try.ntmps36
    go_wp2
    clear hkb hq hq2 hg
    go_loopg [15] s.size (fun q v wr => ∃ i : Nat, q + i = s.size ∧ v = .int .i64 i ∧ Hid (((bytesOf s).take i).all byteOK = true) ∧ wr = wb)
    case atStart => exact ⟨0, by omega, rfl, Lib.hid (by simp), rfl⟩
    case round =>
      obtain ⟨i, hi, rfl, HA, rfl⟩ := hrel
      by_cases hlt : i < s.size
      · have hil : i < (bytesOf s).length := by rw [HL.out]; exact hlt
        obtain ⟨b, hb⟩ : ∃ b, (bytesOf s).getD i 0 = b := ⟨_, rfl⟩
        have hc : wr.cell? ⟨w.heap.size, i, none⟩ = some (.int .u8 b) := by
          obtain ⟨ad, e, hcc⟩ := HR.out.2.2 (by omega)
          cases e
          have := hcc i hlt
          rw [add_plain, hb] at this
          exact this
        have HB := Lib.hid hb; clear hb
        have HIL := Lib.hid hil; clear hil
        go_wp2
        all_goals
          try have e46 : b ≠ 46 := beq_eq_false_iff_ne.1 (by assumption)
          try have e45 : b ≠ 45 := beq_eq_false_iff_ne.1 (by assumption)
          try have e95 : b ≠ 95 := beq_eq_false_iff_ne.1 (by assumption)
          try have e47 : b ≠ 47 := beq_eq_false_iff_ne.1 (by assumption)
          try have f46 : b = 46 := beq_iff_eq.1 (by assumption)
          try have f45 : b = 45 := beq_iff_eq.1 (by assumption)
          try have f95 : b = 95 := beq_iff_eq.1 (by assumption)
          try have f47 : b = 47 := beq_iff_eq.1 (by assumption)
          first
            | (have hk : byteOK b = true := byteOK_iff.2 (by omega)
               go_roundg (s.size - (i + 1))
               case measure => omega
               case rel => exact ⟨i + 1, by omega, by go_num, Lib.hid (by rw [all_take_succ _ _ _ HIL.out, HA.out, get_of HIL.out HB.out, hk]; rfl), rfl⟩)
            | (have hk : ¬ byteOK b = true := fun h => by have := byteOK_iff.1 h; omega
               go_ret
               refine ⟨?_, HBW.out⟩
               have h1 : (bytesOf s).all byteOK = false := all_false_of HIL.out (by rw [get_of HIL.out HB.out]; exact Bool.eq_false_iff.2 hk)
               simp [nmOK, h1])
      · go_wp2
        go_ret
        refine ⟨?_, HBW.out⟩
        have e : i = (bytesOf s).length := by rw [HL.out]; omega
        have h1 := HA.out
        rw [e, List.take_length] at h1
        simp [nmOK, h1, h64]
        omega
  · have hg : (64 : Int) < s.size := by omega
    go_enter Try.func36, Try.ntmps36
    go_wp2
    go_ret
    exact ⟨by rw [nmOK_big h64]; rfl, Below.refl _ _⟩
end Go.Proofs.Ytplknppmaepinaa.S
/- What the printed loops tell: weight, Bytes, sameFiles, Name. -/
namespace Go.Proofs.Ytplknppmaepinaa.S
open Go Go.RowKit Go.Proofs.YtplknppmaepinaaW.PrintWords Go.Proofs.Ytplknppmaepinaa.F

theorem wrap_in {x : Int} (h0 : -9223372036854775808 ≤ x) (h1 : x < 9223372036854775808) : wrap64 x = x := by unfold wrap64; omega
def wl : Int → List S73 → Int
  | n, [] => n
  | n, f :: r => if n < 134217728 then wl (n + (1 + f.f1.length)) r else n
theorem weight_l0 (l : List S73) (hl : l.length ≤ 140737488355328) (hb : ∀ f ∈ l, f.f1.length ≤ 140737488355328) : ∀ (k i : Nat) (n : Int), l.length < k + i → i ≤ l.length → 0 ≤ n → n < 200000000000000 → dowellaw01_weight.l0 k l n (i : Int) = some (wl n (l.drop i))
  | 0, i, n, hk, hi, _, _ => by omega
  | k + 1, i, n, hk, hi, h0, h1 => by
    unfold dowellaw01_weight.l0
    by_cases hlt : i < l.length
    · rw [if_pos (by omega)]
      rw [List.drop_eq_getElem_cons hlt, wl]
      split
      · rw [if_pos (by omega)]
        have e : rd_T73 l (i : Int) = l[i] := by simp [rd_T73, List.getD_eq_getElem?_getD, List.getElem?_eq_getElem hlt]
        have hq := hb l[i] (List.getElem_mem hlt)
        rw [e, wrap_in (x := 1 + _) (by omega) (by omega), wrap_in (by omega) (by omega), wrap_in (x := (i : Int) + 1) (by omega) (by omega)]
        exact weight_l0 l hl hb k (i + 1) _ (by omega) (by omega) (by omega) (by omega)
      · rfl
    · rw [if_neg (by omega), List.drop_of_length_le (by omega)]
      rfl
theorem weight_f (l : List S73) (hl : l.length ≤ 140737488355328) (hb : ∀ f ∈ l, f.f1.length ≤ 140737488355328) : dowellaw01_weight.f (l.length + 1) l = some (wl 0 l) := by
  have := weight_l0 l hl hb (l.length + 1) 0 0 (by omega) (by omega) (by omega) (by omega)
  simpa [dowellaw01_weight.f] using this
theorem wl_le : ∀ (l : List S73) (n : Int), wl n l ≤ 67108864 → n + szL l + l.length ≤ 67108864
  | [], n, h => by simpa [wl, szL] using h
  | f :: r, n, h => by
    unfold wl at h
    split at h
    · have := wl_le r _ h
      simp only [szL, List.length_cons]
      omega
    · omega
theorem bytes_l0 (l : List Int) (hl : l.length ≤ 9223372036854775806) : ∀ (k i : Nat), l.length < k + i → i ≤ l.length → dowelbook_Bytes.l0 k l l (i : Int) = some true
  | 0, i, hk, hi => by omega
  | k + 1, i, hk, hi => by
    unfold dowelbook_Bytes.l0
    by_cases hlt : i < l.length
    · rw [if_pos (by omega), if_pos (by omega), if_pos (by omega), if_pos rfl, wrap_in (by omega) (by omega)]
      exact bytes_l0 l hl k (i + 1) (by omega) (by omega)
    · rw [if_neg (by omega)]
theorem bytes_f (l : List Int) (hl : l.length ≤ 9223372036854775806) (k : Nat) (hk : l.length < k) : dowelbook_Bytes.f k l l = some true := by
  have := bytes_l0 l hl k 0 (by omega) (by omega)
  simpa [dowelbook_Bytes.f] using this
end Go.Proofs.Ytplknppmaepinaa.S
/- dowelbook.Lend, Kept: bytes that are lent, and looked at. -/
namespace Go.Proofs.Ytplknppmaepinaa.S
open Go Go.RowKit Go.X Go.Proofs.YtplknppmaepinaaW.PrintWords Go.Proofs.Ytplknppmaepinaa.F

theorem sz5 : (Try.prog.info? 5).map (·.size) = some 1 := by kernel_rfl
theorem splice_two (cs : List Value) (a b x y : Value) : splice (splice (cs ++ [a, b]) cs.length [x]) (cs.length + 1) [y] = cs ++ [x, y] := by
  rw [splice_one (cs ++ [a, b]) cs.length x (by simp), splice_one ((cs ++ [a, b]).set cs.length x) (cs.length + 1) y (by simp)]
  simp [List.set_append_right]
def holdB : List Value := [.int .u8 171, .int .u8 172]
def LendPost (w : World) (bs : List Int) (e : Ending) (w' : World) : Prop := ∃ g, e = .returned (.slice (some ⟨g, 0, none⟩) bs.length (bs.length + 2)) ∧ Blk w' g 5 (nums .u8 bs ++ holdB) ∧ w.heap.size ≤ g ∧ Below w.heap.size w w'
set_option maxRecDepth 100000 in
set_option maxHeartbeats 2000000 in
theorem lend.calls (A : Option Addr) (c : Nat) (bs : List Int) (w : World) (hr : Kd.C (Kd.int .u8) w A bs.length bs) (hm : bs.length ≤ 140737488355328) :
    Calls Try.prog 44 #[.slice A bs.length c] w (LendPost w bs) := by
  have HC := Lib.hid (C_bytes hr); clear hr
  go_enter Try.func44, Try.ntmps44
  go_wp2_with (first
    | (at_make; refine X.make rfl _ _ 39 rfl 5 _ 1 1 Try.underlying39 info5 .i64 .i64 _ _ (bs.length + 2) rfl rfl (by simp) (by simp) (by omega) (by simp only [maxLen]; omega) ?_; intro w1 hb1 hg1; obtain ⟨z, hz, hz1⟩ := X.Blk.ex hb1 (size_madeCells _ _); clear hb1; have HZ := Lib.hid hz; clear hz; have HB1 := Lib.hid hz1; clear hz1; have HG1 := Lib.hid hg1; clear hg1)
    | (with_reducible refine X.copy rfl (.tmp 8) (.tmp 9) 39 39 rfl 5 1 Try.underlying39 sz5 w.heap.size 0 _ _ _ _ _ rfl rfl _ _ HB1.out (nums .u8 bs) ?_ ?_ ?_ ?_ ?_)
    | fail)
  · rw [nums_length]; show _ = min bs.length (bs.length + 2) * 1; omega
  · intro h0
    obtain ⟨ad, e, hc⟩ := HC.out h0
    exact ⟨ad, e, fun j u hj => HG1.out.cell (hc j u hj) (by simp)⟩
  · have := HZ.out; rw [nums_length]; omega
  · exact nums_one bs
  intro w2 hb2 hg2
  have HB2 := Lib.hid hb2; clear hb2
  have HG2 := Lib.hid hg2; clear hg2
  go_wp2_with (first
    | (with_reducible refine X.store rfl 5 (.tmp 14) (.const (.int .u8 171)) rfl w.heap.size bs.length (.int .u8 171) ?_ ?_ _ _ HB2.out ?_ ?_ ?_ ?_)
    | fail)
  · rfl
  · rfl
  · exact sz5
  · have := HZ.out
    rw [length_splice _ _ _ (by rw [nums_length]; omega)]
    show bs.length + 1 ≤ _
    omega
  · intro u hu
    simp [Value.cells] at hu
    rw [hu]; rfl
  intro w3 hb3 hg3
  have HB3 := Lib.hid hb3; clear hb3
  have HG3 := Lib.hid hg3; clear hg3
  go_wp2_with (first
    | (with_reducible refine X.store rfl 5 (.tmp 19) (.const (.int .u8 172)) rfl w.heap.size (bs.length + 1) (.int .u8 172) ?_ ?_ _ _ HB3.out ?_ ?_ ?_ ?_)
    | fail)
  · rfl
  · rfl
  · exact sz5
  · have := HZ.out
    rw [length_splice _ _ _ (by rw [length_splice _ _ _ (by rw [nums_length]; omega)]; show bs.length + 1 ≤ _; omega), length_splice _ _ _ (by rw [nums_length]; omega)]
    show bs.length + 1 + 1 ≤ _
    omega
  · intro u hu
    simp [Value.cells] at hu
    rw [hu]; rfl
  intro w4 hb4 hg4
  have HB4 := Lib.hid hb4; clear hb4
  have HG4 := Lib.hid hg4; clear hg4
  go_wp2
  go_ret
  have h2 := HZ.out
  have bel : Below w.heap.size w w4 := ((((Below.refl _ _).grown HG1.out (Nat.le_refl _) (by simp)).grown HG2.out HG1.out.size (by simp)).grown HG3.out (Nat.le_trans HG1.out.size HG2.out.size) (by simp)).grown HG4.out (Nat.le_trans (Nat.le_trans HG1.out.size HG2.out.size) HG3.out.size) (by simp)
  refine ⟨w.heap.size, rfl, ?_, Nat.le_refl _, bel⟩
  have e : splice (splice (splice z 0 (nums .u8 bs)) bs.length (Value.int .u8 171).cells.toList) (bs.length + 1) (Value.int .u8 172).cells.toList = nums .u8 bs ++ holdB := by
    have hn : (nums .u8 bs).length = bs.length := nums_length _ _
    obtain ⟨a, b, hz⟩ : ∃ a b, z.drop bs.length = [a, b] := by
      have hl : (z.drop bs.length).length = 2 := by rw [List.length_drop]; omega
      match hq : z.drop bs.length, hl with
      | [a, b], _ => exact ⟨a, b, rfl⟩
    rw [splice_begin, hn, hz, ← hn]
    exact splice_two _ _ _ _ _
  rw [← e]
  exact HB4.out
end Go.Proofs.Ytplknppmaepinaa.S
/- The law's lent: files in memory of their own. -/
namespace Go.Proofs.Ytplknppmaepinaa.S
open Go Go.RowKit Go.X Go.Proofs.YtplknppmaepinaaW.PrintWords Go.Proofs.Ytplknppmaepinaa.F

theorem info73 : (Try.prog.info? 73).map (fun i => (i.zero, i.size, i.bytes)) = some (some (.agg #[.string ⟨#[]⟩, .slice none 0 0]), 2, 40) := by kernel_rfl
theorem sz73 : (Try.prog.info? 73).map (·.size) = some 2 := by kernel_rfl
/-- The cells of lent files: each one's bytes lie in a block of their own. -/
inductive LentCells (w : World) (base : Nat) : List S73 → List Nat → List Value → Prop
  | nil : LentCells w base [] [] []
  | cons {f : S73} {b : Nat} {L : List S73} {gs : List Nat} {cs : List Value} : base ≤ b → Blk w b 5 (nums .u8 f.f1 ++ holdB) → LentCells w base L gs cs → LentCells w base (f :: L) (b :: gs) (.string f.f0 :: .slice (some ⟨b, 0, none⟩) f.f1.length (f.f1.length + 2) :: cs)
theorem LentCells.length {w : World} {base : Nat} {L : List S73} {gs : List Nat} {cs : List Value} (h : LentCells w base L gs cs) : cs.length = L.length * 2 ∧ gs.length = L.length := by
  induction h with
  | nil => exact ⟨rfl, rfl⟩
  | cons _ _ _ ih => simp [ih.1, ih.2]; omega
theorem LentCells.keep {w w' : World} {base : Nat} {L : List S73} {gs : List Nat} {cs : List Value} (h : LentCells w base L gs cs) (hk : ∀ b ∈ gs, b < w.heap.size → w'.heap[b]? = w.heap[b]?) : LentCells w' base L gs cs := by
  induction h with
  | nil => exact .nil
  | cons h1 h2 _ ih => exact .cons h1 (heap_keep h2 (hk _ (List.mem_cons_self ..))) (ih fun b hb => hk b (List.mem_cons_of_mem _ hb))
theorem LentCells.lt {w : World} {base : Nat} {L : List S73} {gs : List Nat} {cs : List Value} (h : LentCells w base L gs cs) : ∀ b ∈ gs, base ≤ b ∧ b < w.heap.size ∧ ∃ cells, w.heap[b]? = some (.cells cells 5 (0, 0)) := by
  induction h with
  | nil => intro b hb; cases hb
  | cons h1 h2 _ ih =>
    intro b hb
    rcases List.mem_cons.1 hb with rfl | hb
    · exact ⟨h1, h2.lt, _, h2⟩
    · exact ih b hb
theorem LentCells.snoc {w : World} {base : Nat} {L : List S73} {gs : List Nat} {cs : List Value} (h : LentCells w base L gs cs) {f : S73} {b : Nat} (h1 : base ≤ b) (h2 : Blk w b 5 (nums .u8 f.f1 ++ holdB)) :
    LentCells w base (L ++ [f]) (gs ++ [b]) (cs ++ [.string f.f0, .slice (some ⟨b, 0, none⟩) f.f1.length (f.f1.length + 2)]) := by
  induction h with
  | nil => exact .cons h1 h2 .nil
  | cons k1 k2 _ ih => exact .cons k1 k2 ih
theorem LentCells.files {w : World} {base : Nat} {L : List S73} {gs : List Nat} {cs : List Value} (h : LentCells w base L gs cs) (hm : ∀ f ∈ L, f.f1.length ≤ maxLen) : FileCells w (fun k => k ∈ gs) L cs := by
  induction h with
  | nil => exact .nil
  | cons _ k2 _ ih => exact .cons (.inr ⟨_, _, holdB, rfl, by omega, hm _ (List.mem_cons_self ..), List.mem_cons_self .., k2⟩) ((ih fun f hf => hm f (List.mem_cons_of_mem _ hf)).mono fun k hk => List.mem_cons_of_mem _ hk)
def holder : ByteArray := ⟨#[45, 104, 111, 108, 100, 101, 114, 45]⟩
def holdF : List Value := [.string holder, .slice none 0 0]
/-- Lent files in memory. -/
def LentAt (w : World) (base g : Nat) (gs : List Nat) (fs : List S73) : Prop := ∃ cs, LentCells w base fs gs cs ∧ Blk w g 73 (cs ++ holdF) ∧ gs.Nodup ∧ base ≤ g
/-- The loop's head: i files lie there. -/
structure LHead (w wr : World) (g : Nat) (fs : List S73) (i : Nat) : Prop where
  mk' ::
  out : ∃ gs cs rest, Below w.heap.size w wr ∧ LentCells wr w.heap.size (fs.take i) gs cs ∧ Blk wr g 73 (cs ++ rest) ∧ rest.length = (fs.length + 1 - i) * 2 ∧ gs.Nodup ∧ w.heap.size ≤ g
theorem far1' {w : World} {br i : Nat} {x v : Value} {p : Addr} (h : br ≠ p.block) (hp : w.cell? p = some v) : (w.setCell ⟨br, i, none⟩ x).cell? p = some v := by
  rw [World.cell?_of_block (Below.heap_setCell _ _ _ _ (fun e => h e.symm))]
  exact hp
theorem far2' {w : World} {br i j : Nat} {x y v : Value} {p : Addr} (h : br ≠ p.block) (hp : w.cell? p = some v) : ((w.setCell ⟨br, i, none⟩ x).setCell ⟨br, j, none⟩ y).cell? p = some v := far1' h (far1' h hp)
theorem far2h' {w : World} {br i j : Nat} {x y : Value} {p : Nat} (hp : p ≠ br) : ((w.setCell ⟨br, i, none⟩ x).setCell ⟨br, j, none⟩ y).heap[p]? = w.heap[p]? := by
  rw [Below.heap_setCell _ _ _ _ hp, Below.heap_setCell _ _ _ _ hp]
theorem set2c' {α : Type} (l rest : List α) (r0 r1 a b : α) (n : Nat) (hn : n = l.length) : ((l ++ r0 :: r1 :: rest).set n a).set (n + 1) b = l ++ a :: b :: rest := by
  subst hn
  simp
theorem LHead.next {w wr w3 w7 : World} {g : Nat} {fs : List S73} {i b : Nat} {f : S73} (h : LHead w wr g fs i) (hi : fs[i]? = some f) (h3 : Below wr.heap.size wr w3) (hb : wr.heap.size ≤ b) (hl : Blk w3 b 5 (nums .u8 f.f1 ++ holdB))
    (e : w7 = ((w3.setCell ⟨g, i * 2, none⟩ (.string f.f0)).setCell ⟨g, i * 2 + 1, none⟩ (.slice (some ⟨b, 0, none⟩) f.f1.length (f.f1.length + 2)))) : LHead w w7 g fs (i + 1) := by
  subst e
  obtain ⟨gs, cs, rest, k1, k2, k3, k4, k5, k6⟩ := h.out
  have hil := (List.getElem?_eq_some_iff.1 hi).1
  have B3 : Blk w3 g 73 (cs ++ rest) := k3.below h3 k3.lt
  have h13 : Below w.heap.size w w3 := k1.trans (h3.mono k1.size)
  have hn : b ≠ g := hl.ne B3 (by decide)
  have hcl : cs.length = i * 2 := by rw [k2.length.1, List.length_take]; omega
  obtain ⟨r0, r1, rest', rfl⟩ : ∃ r0 r1 r, rest = r0 :: r1 :: r := by
    match rest, k4 with
    | r0 :: r1 :: r, _ => exact ⟨r0, r1, r, rfl⟩
    | [], hl => simp at hl; omega
    | [_], hl => simp at hl; omega
  have hlt := k2.lt
  refine ⟨gs ++ [b], cs ++ [.string f.f0, .slice (some ⟨b, 0, none⟩) f.f1.length (f.f1.length + 2)], rest', (h13.setCell (by show w.heap.size ≤ g; omega) _).setCell (by show w.heap.size ≤ g; omega) _, ?_, ?_, ?_, ?_, k6⟩
  · rw [List.take_succ_eq_append_getElem hil, (List.getElem?_eq_some_iff.1 hi).2]
    refine LentCells.snoc (k2.keep fun c hc _ => ?_) (Nat.le_trans k1.size hb) ?_
    · obtain ⟨_, c2, cells, c3⟩ := hlt c hc
      have hcg : c ≠ g := by
        rintro rfl
        have hk : wr.heap[c]? = _ := k3
        rw [c3] at hk
        simp at hk
      exact (far2h' hcg).trans (h3.block c c2)
    · exact (far2h' hn).trans hl
  · have := (B3.setCell (i * 2) (.string f.f0)).setCell (i * 2 + 1) (.slice (some ⟨b, 0, none⟩) f.f1.length (f.f1.length + 2))
    rw [set2c' _ _ _ _ _ _ _ hcl.symm] at this
    rw [List.append_assoc]
    exact this
  · simp at k4; omega
  · rw [List.nodup_append]
    refine ⟨k5, by simp, ?_⟩
    intro c hc d hd
    simp at hd
    subst hd
    have := (hlt c hc).2.1
    omega
theorem fs_at {w : World} {A : Option Addr} {fs : List S73} (h : Kd.C k73 w A fs.length fs) {i : Nat} {f : S73} (hi : fs[i]? = some f) : ∃ ad A1 c1, A = some ad ∧ w.cell? (ad.add (i * 2)) = some (.string f.f0) ∧ w.cell? ⟨(ad.add (i * 2)).block, (ad.add (i * 2)).off + 1, none⟩ = some (.slice A1 f.f1.length c1) ∧ f.f1.length ≤ c1 ∧ Kd.C (Kd.int .u8) w A1 f.f1.length f.f1 := by
  have hil := (List.getElem?_eq_some_iff.1 hi).1
  have := at_T73 h (i : Int) (by omega) (by omega)
  have e : rd_T73 fs (i : Int) = f := by simp [rd_T73, List.getD_eq_getElem?_getD, hi]
  rw [e] at this
  simpa using this
theorem Below.cellS {w w' : World} (h : Below w.heap.size w w') {p : Addr} {v : Value} (hp : w.cell? p = some v) : w'.cell? p = some v := (h.cell (World.block_lt_of_cell? w _ hp)).trans hp
theorem lhead_cells {w wr w3 : World} {g : Nat} {fs : List S73} {i : Nat} (h : LHead w wr g fs i) (hi : i < fs.length) (h3 : Below wr.heap.size wr.drew w3) :
    ∃ o0 o1, w3.cell? ⟨g, i * 2, none⟩ = some o0 ∧ w3.cell? ⟨g, i * 2 + 1, none⟩ = some o1 ∧ w3.frozen? ⟨g, i * 2, none⟩ = false ∧ w3.frozen? ⟨g, i * 2 + 1, none⟩ = false := by
  obtain ⟨gs, cs, rest, k1, k2, k3, k4, k5, k6⟩ := h.out
  have hb : Blk w3 g 73 (cs ++ rest) := (show Blk wr.drew g 73 _ from k3).below h3 k3.lt
  have hl : (cs ++ rest).length = i * 2 + (fs.length + 1 - i) * 2 := by rw [List.length_append, k2.length.1, k4, List.length_take]; congr 1; omega
  exact ⟨_, _, (hb.cell _).trans (List.getElem?_eq_getElem (by omega)), (hb.cell _).trans (List.getElem?_eq_getElem (by omega)), hb.frozen _, hb.frozen _⟩
set_option maxRecDepth 100000 in
set_option maxHeartbeats 4000000 in
theorem lent.calls (A : Option Addr) (c : Nat) (fs : List S73) (w : World) (hr : Kd.C k73 w A fs.length fs) (hn : fs.length ≤ 67108864) (hm : ∀ f ∈ fs, f.f1.length ≤ 140737488355328) :
    Calls Try.prog 22 #[.slice A fs.length c] w fun e w' => ∃ g gs, e = .returned (.slice (some ⟨g, 0, none⟩) fs.length (fs.length + 1)) ∧ LentAt w' w.heap.size g gs fs ∧ Below w.heap.size w w' := by
  have HR := Lib.hid hr; clear hr
  have HM := Lib.hid hm; clear hm
  have HN := Lib.hid hn
  have hnw : IntKind.i64.wrap ((fs.length : Int) + 1) = (fs.length : Int) + 1 := by rw [IntWalk.i64_in _ (by omega)]
  go_enter Try.func22, Try.ntmps22
  go_wp2_with (first
    | (at_make; refine X.make rfl _ _ 22 rfl 73 _ 2 40 Try.underlying22 info73 .i64 .i64 _ _ (fs.length + 1) rfl rfl (by simp) (by simp) (by omega) (by simp only [maxLen]; omega) ?_; intro w1 hb1 hg1; obtain ⟨z, hz, hz1⟩ := X.Blk.ex hb1 (size_madeCells _ _); clear hb1
       have HH : Hid (LHead w w1 w.heap.size fs 0) := ⟨[], [], z, (Below.refl _ _).grown hg1 (Nat.le_refl _) (by simp), by simpa using LentCells.nil, hz1, by rw [hz]; omega, List.nodup_nil, Nat.le_refl _⟩
       clear hz hz1 hg1)
    | fail)
  clear hn hnw
  generalize hg : w.heap.size = g at *
  go_loopg [4] fs.length (fun q v wr => ∃ i : Nat, q + i = fs.length ∧ v = .int .i64 (i : Nat) ∧ Hid (LHead w wr g fs i))
  case atStart => exact ⟨0, by simp, rfl, HH.out⟩
  case round =>
    clear HH
    obtain ⟨i, hi, rfl, HI⟩ := hrel
    by_cases hlt : i < fs.length
    · obtain ⟨f, hf⟩ : ∃ f, fs[i]? = some f := ⟨_, List.getElem?_eq_getElem hlt⟩
      have hfl := HM.out f (List.mem_of_getElem? hf)
      have hbel : Below w.heap.size w wr := by obtain ⟨_, _, _, h, _⟩ := HI.out.out; exact h
      obtain ⟨ad, A1, c1, eA, e0, e1, _, hc1⟩ := fs_at (Kd.C_below HR.out hbel) hf
      subst eA
      have HF := Lib.hid hf; clear hf
      have HC1 := Lib.hid hc1; clear hc1
      have HFL := Lib.hid hfl; clear hfl hbel
      have hi0 : (0 : Int) ≤ (i : Int) := Int.natCast_nonneg _
      have hi1 : (i : Int) < (fs.length : Int) := Int.ofNat_lt.2 hlt
      have hi2 : (i : Int) < (fs.length : Int) + 1 := by omega
      have HIL := Lib.hid hlt
      have HNG : Hid (g ≠ (ad.add (i * 2)).block) := by
        obtain ⟨ad', _, _, e', cc, _⟩ := fs_at HR.out HF.out
        cases e'
        have h1 := World.block_lt_of_cell? w _ cc
        show _ ≠ _
        omega
      go_wp2
      go_region_held3 (fun w' => w'.cell? (ad.add (i * 2)) = some (.string f.f0) ∧ w'.cell? ⟨(ad.add (i * 2)).block, (ad.add (i * 2)).off + 1, none⟩ = some (.slice A1 f.f1.length c1))
        (first
          | with_reducible exact ⟨far2' HNG.out p0, far2' HNG.out p1⟩
          | with_reducible exact ⟨p0, p1⟩
          | go_keep)
        (first
          | (go_at_call 44; refine (lend.calls A1 c1 f.f1 _ (Kd.C_below HC1.out ((Below.refl _ _).drew)) HFL.out).mono ?_; rintro e w3 ⟨gb, rfl, hb, hge, hbl⟩
             have p0 : w3.cell? (ad.add (i * 2)) = some (.string f.f0) := Below.cellS hbl e0
             have p1 : w3.cell? ⟨(ad.add (i * 2)).block, (ad.add (i * 2)).off + 1, none⟩ = some (.slice A1 f.f1.length c1) := Below.cellS hbl e1
             obtain ⟨o0, o1, HOS⟩ : ∃ o0 o1, Hid (w3.cell? ⟨g, i * 2, none⟩ = some o0 ∧ w3.cell? ⟨g, i * 2 + 1, none⟩ = some o1 ∧ w3.frozen? ⟨g, i * 2, none⟩ = false ∧ w3.frozen? ⟨g, i * 2 + 1, none⟩ = false) := lhead_cells HI.out HIL.out hbl
             have hs0 := HOS.out.1
             have hs1 := HOS.out.2.1
             have hf0 := HOS.out.2.2.1
             have hf1 := HOS.out.2.2.2
             have HB := Lib.hid hb; clear hb
             have HGE := Lib.hid hge; clear hge
             have HBL := Lib.hid hbl; clear hbl))
      rename_i hHeld
      clear hHeld
      have hN : ∀ w7 : World, w7 = ((w3.setCell ⟨g, i * 2, none⟩ (.string f.f0)).setCell ⟨g, i * 2 + 1, none⟩ (.slice (some ⟨gb, 0, none⟩) f.f1.length (f.f1.length + 2))) → Hid (LHead w w7 g fs (i + 1)) := by
        intro w7 e
        exact HI.out.next HF.out ((Below.refl _ wr).drew.trans HBL.out) HGE.out HB.out e
      clear hs0 hs1 hf0 hf1 p0 p1 hi0 hi1 hi2 HOS HI
      generalize hw7 : ((w3.setCell ⟨g, i * 2, none⟩ (.string f.f0)).setCell ⟨g, i * 2 + 1, none⟩ (.slice (some ⟨gb, 0, none⟩) f.f1.length (f.f1.length + 2))) = w7
      have HF := hN w7 hw7.symm
      clear hN hw7
      have hiw : wrap64 ((i : Int) + 1) = ((i + 1 : Nat) : Int) := by have := HN.out; rw [IntWalk.wrap64_in _ (by omega)]; rfl
      go_wp2
      go_roundg (fs.length - (i + 1))
      case measure => clear hiw; omega
      case rel => exact ⟨i + 1, by clear hiw; omega, by first | rfl | rw [hiw], HF.out⟩
    · obtain rfl : i = fs.length := by omega
      obtain ⟨gs, cs, rest, k1, k2, k3, k4, k5, k6⟩ := HI.out.out
      rw [List.take_length] at k2
      have hcl := k2.length.1
      have HK := Lib.hid k2; clear k2
      have HB := Lib.hid k3; clear k3
      have HL := Lib.hid k4; clear k4
      have HS := Lib.hid (show Below w.heap.size w wr ∧ gs.Nodup ∧ w.heap.size ≤ g from ⟨k1, k5, k6⟩); clear k1 k5 k6 HI
      have HCL := Lib.hid hcl; clear hcl
      have hr0 : (0 : Int) ≤ (fs.length : Int) := Int.natCast_nonneg _
      have hr1 : (fs.length : Int) < (fs.length : Int) + 1 := by omega
      go_wp2_with (first
        | (with_reducible refine X.store rfl 73 (.tmp 34) (.tmp 33) rfl g (fs.length * 2) (.agg holdF.toArray) ?_ ?_ _ _ HB.out ?_ ?_ ?_ ?_)
        | fail)
      · rfl
      · rfl
      · exact sz73
      · have h1 := HL.out
        rw [List.length_append, HCL.out, h1]
        show fs.length * 2 + 2 ≤ _
        omega
      · intro u hu
        simp [Value.cells, holdF] at hu
        rcases hu with rfl | rfl <;> rfl
      intro w5 hb5 hg5
      have HG : Hid (LentAt w5 w.heap.size g gs fs ∧ Below w.heap.size w w5) := by
        refine ⟨⟨cs, HK.out.keep fun b hb hlt => hg5.block b hlt (fun e => ?_), ?_, HS.out.2.1, HS.out.2.2⟩, HS.out.1.grown hg5 HS.out.1.size (fun k e => by injection e with e; have := HS.out.2.2; omega)⟩
        · injection e with e
          subst e
          obtain ⟨_, _, cells, hc⟩ := HK.out.lt b hb
          have hk : wr.heap[b]? = _ := HB.out
          rw [hc] at hk
          simp at hk
        · have e : splice (cs ++ rest) (fs.length * 2) holdF = cs ++ holdF := by
            have h1 := HL.out
            rw [← HCL.out, splice_end]
            show _ = 2
            omega
          rw [← e]
          exact hb5
      clear hb5 hg5
      go_wp2
      go_ret
      exact ⟨g, gs, rfl, HG.out.1, HG.out.2⟩
end Go.Proofs.Ytplknppmaepinaa.S
/- The document's shelf: place, Size. -/
namespace Go.Proofs.Ytplknppmaepinaa.S
open Go Go.RowKit Go.X Go.Proofs.YtplknppmaepinaaW.PrintWords Go.Proofs.Ytplknppmaepinaa.F

end Go.Proofs.Ytplknppmaepinaa.S
namespace Go.Proofs.Ytplknppmaepinaa.S
open Go Go.RowKit Go.X Go.Proofs.YtplknppmaepinaaW.PrintWords Go.Proofs.Ytplknppmaepinaa.F
end Go.Proofs.Ytplknppmaepinaa.S
/- The document's put: a file, in its place. -/
namespace Go.Proofs.Ytplknppmaepinaa.S
open Go Go.RowKit Go.X Go.Proofs.YtplknppmaepinaaW.PrintWords Go.Proofs.Ytplknppmaepinaa.F

def No5 (w : World) (r : Option Nat) : Prop := ∀ g, r = some g → ∀ cells, w.heap[g]? ≠ some (.cells cells 5 (0, 0))
theorem No5.row {w : World} {base : Nat} {e : TypeId} {size n : Nat} {v : Value} {xs : List Value} (h : w.ownsRow base e size v n xs) (he : e ≠ 5) : No5 w v.ownBlock := fun g hg cells hc => by
  obtain ⟨cells', h'⟩ := own_typed h g hg
  rw [hc] at h'
  injection h' with h'
  injection h' with _ h'
  exact he h'.symm
theorem No5.blk {w : World} {b : Nat} {t : TypeId} {cs : List Value} (h : Blk w b t cs) (ht : t ≠ 5) : No5 w (some b) := fun g hg cells hc => by
  cases hg
  have h' : w.heap[b]? = _ := h
  rw [hc] at h'
  injection h' with h'
  injection h' with _ h'
  exact ht h'.symm
theorem No5.map {H : Type} {P : Program} {k : TypeId} {R : Value → Option (DataW H × List MemPlace)} {w : World} {b n : Nat} {D : DataW H} (h : w.ownsMap P k R b n D) : No5 w (some b) := fun g hg cells hc => by
  cases hg
  obtain ⟨es, clock, h', _⟩ := h
  rw [hc] at h'
  cases h'
theorem DataAt.grown {w w' : World} {ok : Nat → Prop} {v : Value} {bs : List Int} (h : DataAt w ok v bs) {r : Option Nat} (g : w.grownBy w' r) (hr : No5 w r) : DataAt w' ok v bs := by
  rcases h with h | ⟨b, c, rest, h1, h2, h3, h4, h5⟩
  · exact .inl h
  · exact .inr ⟨b, c, rest, h1, h2, h3, h4, h5.grown g (fun e => hr b e.symm _ h5)⟩
theorem FileCells.grown {w w' : World} {ok : Nat → Prop} {L : List S73} {cs : List Value} (h : FileCells w ok L cs) {r : Option Nat} (g : w.grownBy w' r) (hr : No5 w r) : FileCells w' ok L cs := by
  induction h with
  | nil => exact .nil
  | cons hd _ ih => exact .cons (hd.grown g hr) ih
theorem _root_.Go.X.But.trans2 {S : Nat → Prop} {w w1 w2 : World} (h : But S w w1) (h' : But S w1 w2) : But S w w2 :=
  ⟨h'.os.trans h.os, h'.tape.trans h.tape, h'.output.trans h.output, Nat.le_trans h.size h'.size, fun k hk hs => (h'.block k (Nat.lt_of_lt_of_le hk h.size) hs).trans (h.block k hk hs)⟩
theorem But.of_below {S : Nat → Prop} {w w1 : World} (h : Below w.heap.size w w1) : But S w w1 := ⟨h.os, h.tape, h.output, h.size, fun k hk _ => h.block k hk⟩
theorem But.of_grown {S : Nat → Prop} {w w1 : World} {r : Option Nat} (h : w.grownBy w1 r) (hr : ∀ k, r = some k → S k) : But S w w1 := ⟨h.os, h.tape, h.output, h.size, fun k hk hs => h.block k hk (fun e => hs (hr k e.symm))⟩
theorem DataAt.but {w w' : World} {ok S : Nat → Prop} {v : Value} {bs : List Int} (h : DataAt w ok v bs) (g : But S w w') (hr : ∀ b, S b → No5 w (some b)) : DataAt w' ok v bs := by
  rcases h with h | ⟨b, c, rest, h1, h2, h3, h4, h5⟩
  · exact .inl h
  · exact .inr ⟨b, c, rest, h1, h2, h3, h4, h5.but g (fun e => hr b e b rfl _ h5)⟩
theorem _root_.Go.X.But.imp {S T : Nat → Prop} {w w1 : World} (h : But S w w1) (hi : ∀ k, S k → T k) : But T w w1 := ⟨h.os, h.tape, h.output, h.size, fun k hk hs => h.block k hk (fun e => hs (hi k e))⟩
theorem row_but {w w' : World} {S : Nat → Prop} {base : Nat} {e : TypeId} {size n : Nat} {v : Value} {xs : List Value} (h : w.ownsRow base e size v n xs) (g : But S w w') (hr : ∀ b, S b → v.ownBlock ≠ some b) : w'.ownsRow base e size v n xs :=
  own_move h fun b hb => g.block b (own_lt h b hb) (fun e => hr b e hb)
theorem row_ne_blk {w : World} {base : Nat} {e : TypeId} {size n : Nat} {v : Value} {xs : List Value} (h : w.ownsRow base e size v n xs) {b : Nat} {t : TypeId} {cs : List Value} (hb : Blk w b t cs) (he : e ≠ t) {g : Nat} (hg : v.ownBlock = some g) : g ≠ b := by
  rintro rfl
  obtain ⟨cells, h'⟩ := own_typed h g hg
  have h2 : w.heap[g]? = _ := hb
  rw [h'] at h2
  injection h2 with h2
  injection h2 with _ h2
  exact he h2
end Go.Proofs.Ytplknppmaepinaa.S
/- The document's New. -/
namespace Go.Proofs.Ytplknppmaepinaa.S
open Go Go.RowKit Go.X Go.Proofs.YtplknppmaepinaaW.PrintWords Go.Proofs.Ytplknppmaepinaa.F

theorem ps_at {w : World} {A : Option Addr} {ps : List S76} (h : Kd.C k76 w A ps.length ps) {i : Nat} {p : S76} (hi : ps[i]? = some p) : ∃ ad, A = some ad ∧ w.cell? (ad.add (i * 3)) = some (.int .i64 p.f0) ∧ w.cell? ⟨(ad.add (i * 3)).block, (ad.add (i * 3)).off + 1, none⟩ = some (.int .i64 p.f1) ∧ w.cell? ⟨(ad.add (i * 3)).block, (ad.add (i * 3)).off + 2, none⟩ = some (.int .i64 p.f2) := by
  have hil := (List.getElem?_eq_some_iff.1 hi).1
  have := at_T76 h (i : Int) (by omega) (by omega)
  have e : rd_T76 ps (i : Int) = p := by simp [rd_T76, List.getD_eq_getElem?_getD, hi]
  rw [e] at this
  simpa using this
theorem newF_step {room : Int} {acc fs : List S73} {i : Nat} {f : S73} (hf : fs[i]? = some f) : newF room acc (fs.drop i) = if hasN acc f.f0 || !nmOK f.f0 then (10, acc) else if acc.length = 64 ∨ room < szL acc + f.f1.length then (13, acc) else newF room (putL f.f0 f.f1 acc) (fs.drop (i + 1)) := by
  have hl := (List.getElem?_eq_some_iff.1 hf).1
  rw [List.drop_eq_getElem_cons hl, (List.getElem?_eq_some_iff.1 hf).2]
  rfl
theorem newP_step {ps : List S76} {i : Nat} {p : S76} (hf : ps[i]? = some p) : newP (ps.drop i) = if badT p then 6 else newP (ps.drop (i + 1)) := by
  have hl := (List.getElem?_eq_some_iff.1 hf).1
  rw [List.drop_eq_getElem_cons hl, (List.getElem?_eq_some_iff.1 hf).2]
  rfl
/-- The loop over the files: what lies there by then. -/
structure Acc (room : Int) (fs acc : List S73) (i : Nat) : Prop where
  rises : Rises acc
  names : ∀ f ∈ acc, nmOK f.f0 = true
  len : acc.length = i
  few : i ≤ 64
  fits : (szL acc : Int) ≤ room
  step : newF room [] fs = newF room acc (fs.drop i)
theorem Acc.next {room : Int} {fs acc : List S73} {i : Nat} {f : S73} (h : Acc room fs acc i) (hf : fs[i]? = some f) (h1 : hasN acc f.f0 = false) (h2 : nmOK f.f0 = true) (h3 : i ≠ 64) (h4 : ¬ room < szL acc + f.f1.length) : Acc room fs (putL f.f0 f.f1 acc) (i + 1) := by
  have hs := newF_step (room := room) (acc := acc) hf
  rw [h1, h2, if_neg (by decide), if_neg (by rw [h.len]; exact fun e => e.elim h3 h4)] at hs
  refine ⟨h.rises.put, fun g hg => ?_, ?_, ?_, ?_, h.step.trans hs⟩
  · rcases mem_putL hg with e | hg
    · rw [e]; exact h2
    · exact h.names g hg
  · rw [length_putL h.rises, h1]; simp [h.len]
  · have := h.few; omega
  · rw [szL_putL h.rises, szBut_none h1]; omega
theorem Acc.bad1 {room : Int} {fs acc : List S73} {i : Nat} {f : S73} (h : Acc room fs acc i) (hf : fs[i]? = some f) (h1 : (hasN acc f.f0 || !nmOK f.f0) = true) : (newF room [] fs).1 = 10 := by
  rw [h.step, newF_step hf, if_pos h1]
theorem Acc.bad2 {room : Int} {fs acc : List S73} {i : Nat} {f : S73} (h : Acc room fs acc i) (hf : fs[i]? = some f) (h1 : hasN acc f.f0 = false) (h2 : nmOK f.f0 = true) (h3 : i = 64 ∨ room < szL acc + f.f1.length) : (newF room [] fs).1 = 13 := by
  rw [h.step, newF_step hf, h1, h2, if_neg (by decide), if_pos (by rw [h.len]; exact h3)]
theorem Acc.done {room : Int} {fs acc : List S73} (h : Acc room fs acc fs.length) : newF room [] fs = (0, acc) := by
  rw [h.step, List.drop_length]
  rfl
theorem newE_room {fs : List S73} {room : Int} {ps : List S76} (h : room < 0 ∨ 16777216 < room) : newE fs room ps = 5 := by
  unfold newE; rw [if_pos h]
theorem newE_files {fs : List S73} {room : Int} {ps : List S76} {x : Int} (h : ¬ (room < 0 ∨ 16777216 < room)) (hx : (newF room [] fs).1 = x) (h0 : x ≠ 0) : newE fs room ps = x := by
  unfold newE; rw [if_neg h, hx, if_pos h0]
theorem newE_plan {fs : List S73} {room : Int} {ps : List S76} (h : ¬ (room < 0 ∨ 16777216 < room)) (hx : (newF room [] fs).1 = 0) : newE fs room ps = newP ps := by
  unfold newE; rw [if_neg h, hx, if_neg (by simp)]
theorem but_cell {S : Nat → Prop} {w w' : World} (h : But S w w') {p : Addr} {v : Value} (hc : w.cell? p = some v) (hp : ¬ S p.block) : w'.cell? p = some v := by
  rw [World.cell?_of_block (h.block p.block (World.block_lt_of_cell? w p hc) hp)]
  exact hc
end Go.Proofs.Ytplknppmaepinaa.S
/- The maps of the program's shelf: files by names, troubles by calls and turns, turns by calls. -/
namespace Go.Proofs.Ytplknppmaepinaa.S
open Go Go.RowKit Go.X Go.Maps Go.Proofs.YtplknppmaepinaaW.PrintWords Go.Proofs.Ytplknppmaepinaa.F

set_option maxRecDepth 100000
theorem lawS : Keyed Try.prog 9 := string_keyed Try.underlying9
theorem lawI : Keyed Try.prog 3 := int_keyed Try.underlying3
theorem keyS {n : ByteArray} (h : n.size ≤ maxLen) : keyOf Try.prog 9 (.string n) = some (.string (ky n)) := by
  simp [keyOf, Try.underlying9, mapKey, h, ky]
theorem keyI {c : Int} (h : (Lit.int .i64 c).wf = true) : keyOf Try.prog 3 (.int .i64 c) = some (.int .i64 c) := keyOf_int_mk Try.underlying3 h
theorem isKS (s : List UInt8) : WideAt.IsKeyLit (.string s) := trivial
theorem zero39 (w : World) : (zeroValue 39).run Try.prog w = .ok nilV w := by kernel_rfl
theorem zero42 (w : World) : (zeroValue 42).run Try.prog w = .ok (.int .i64 0) w := by kernel_rfl
theorem zero3 (w : World) : (zeroValue 3).run Try.prog w = .ok (.int .i64 0) w := by kernel_rfl
/-- 'v, ok := files[n]', 'files[n]' -/
theorem FMap.look {w : World} {ok : Nat → Prop} {fm : Nat} {L : List S73} (h : FMap w ok fm L) {n : ByteArray} (hn : n.size ≤ maxLen) :
    ∃ v, (∀ W, Keeps (fun k => k = fm) w W → (Instr.lookup 80 (.map (some fm)) (.string n) true).run Try.prog W = .ok (.tuple #[v, .bool (hasN L n)]) W ∧ (Instr.lookup 80 (.map (some fm)) (.string n) false).run Try.prog W = .ok v W) ∧ (hasN L n = false → v = nilV) ∧ (∀ f ∈ L, ky f.f0 = ky n → DataAt w ok v f.f1) := by
  obtain ⟨D, h1, h2, h3, h4⟩ := h.out
  obtain ⟨v0, ps0, hr0, hv0⟩ := h1.look_ok lawS Try.underlying80 (zero39 w) (show RH nilV = some (.held nilV, []) from rfl) (keyS hn)
  have e0 : D.atKey (.string (ky n)) (.held nilV) = .held v0 := by
    simp only [RH, Option.some.injEq, Prod.mk.injEq] at hv0
    exact hv0.1.symm
  refine ⟨v0, fun W hW => ?_, fun hh => ?_, fun f hf e => ?_⟩
  · have hW1 := ownsMap_keep h1 hW rfl
    obtain ⟨v1, ps1, hr1, hv1⟩ := hW1.look_ok lawS Try.underlying80 (zero39 W) (show RH nilV = some (.held nilV, []) from rfl) (keyS hn)
    obtain ⟨v2, ps2, hr2, hv2⟩ := hW1.lookup lawS Try.underlying80 (zero39 W) (show RH nilV = some (.held nilV, []) from rfl) (keyS hn)
    simp only [RH, Option.some.injEq, Prod.mk.injEq] at hv1 hv2
    rw [e0] at hv1 hv2
    injection hv1.1 with hv1
    injection hv2.1 with hv2
    rw [hr1, hr2, hv1, hv2, h3]
    exact ⟨rfl, rfl⟩
  · rw [← h3] at hh
    rw [atKey_of_not_has hh] at e0
    injection e0 with e0
    exact e0.symm
  · obtain ⟨v, h5, h6⟩ := h4 f hf
    rw [e, e0] at h5
    injection h5 with h5
    rw [h5]
    exact h6
theorem FMap.len {w : World} {ok : Nat → Prop} {fm : Nat} {L : List S73} (h : FMap w ok fm L) (ty : TypeId) : ∀ W, Keeps (fun k => k = fm) w W → (Builtin.len_ #[80] ty #[.map (some fm)]).run Try.prog W = .ok (.int .i64 (L.length : Nat)) W := by
  obtain ⟨D, h1, h2, h3, h4⟩ := h.out
  intro W hW
  have := (ownsMap_keep h1 hW rfl).len Try.underlying80 ty
  rw [h2] at this
  exact this
theorem mapTurned_but {w w' : World} {b : Nat} (h : w.mapTurned w' b) : But (fun k => k = b) w w' := But.of_grown h.grown (fun k e => by cases e; rfl)
/-- 'files[n] = v' -/
theorem FMap.store {w : World} {ok : Nat → Prop} {fm : Nat} {L : List S73} (h : FMap w ok fm L) (hr : Rises L) (hl : L.length < maxLen) {n : ByteArray} (hn : n.size ≤ maxLen) {v : Value} {d : List Int} (hd : DataAt w ok v d) :
    ∃ w', (Instr.mapUpdate 80 (.map (some fm)) (.string n) v).run Try.prog w = .ok () w' ∧ FMap w' ok fm (putL n d L) ∧ w.mapTurned w' fm := by
  obtain ⟨D, h1, h2, h3, h4⟩ := h.out
  have hti := h1.tidy lawS
  obtain ⟨w', hrun, hown, hturn⟩ := h1.store lawS Try.underlying80 (by rw [h2]; exact hl) (keyS hn) (show RH v = some (.held v, []) from rfl)
  have n5 : No5 w (some fm) := No5.map h1
  refine ⟨w', hrun, ⟨_, ownsMap_tight hown, ?_, fun m => ?_, fun f hf => ?_⟩, hturn⟩
  · rw [size_put hti, h3, h2, length_putL hr]
  · rw [has_putL, ← h3]
    by_cases e : ky n = ky m
    · rw [e, has_put_same hti.isMap (isKS _)]
      simp
    · rw [has_put_other (fun h => e (by injection h with h; exact h.symm))]
      have : (ky n == ky m) = false := by simpa using e
      rw [this, Bool.false_or]
  · have hlk := lookL_of_mem hr.put hf
    rw [look_putL hr] at hlk
    by_cases e : ky n = ky f.f0
    · rw [if_pos e] at hlk
      refine ⟨v, ?_, ?_⟩
      · rw [← e]; exact atKey_put_same hti.isMap (isKS _) _ _
      · rw [← hlk]; exact hd.grown hturn.grown n5
    · rw [if_neg e] at hlk
      have hm : f ∈ L := by
        rcases mem_putL hf with h | h
        · exact absurd (by rw [h]) e
        · exact h
      obtain ⟨u, h5, h6⟩ := h4 f hm
      refine ⟨u, ?_, h6.grown hturn.grown n5⟩
      rw [atKey_put_other (fun h => e (by injection h with h; exact h.symm))]
      exact h5
/-- 'delete(files, n)' -/
theorem FMap.drop {w : World} {ok : Nat → Prop} {fm : Nat} {L : List S73} (h : FMap w ok fm L) (hr : Rises L) {n : ByteArray} (hn : n.size ≤ maxLen) (hh : hasN L n = true) (ty : TypeId) :
    ∃ w', (Builtin.delete_ #[80, 9] ty #[.map (some fm), .string n]).run Try.prog w = .ok (.tuple #[]) w' ∧ FMap w' ok fm (delL n L) ∧ w.mapTurned w' fm := by
  obtain ⟨D, h1, h2, h3, h4⟩ := h.out
  have hti := h1.tidy lawS
  obtain ⟨w', hrun, hown, hturn⟩ := h1.drop lawS Try.underlying80 (keyS hn) ty
  have n5 : No5 w (some fm) := No5.map h1
  refine ⟨w', hrun, ⟨_, ownsMap_tight hown, ?_, fun m => ?_, fun f hf => ?_⟩, hturn⟩
  · have := size_del hti (k := .string (ky n))
    rw [h3, hh, h2] at this
    have := length_delL hh
    simp at *
    omega
  · rw [has_delL hr, ← h3]
    by_cases e : ky n = ky m
    · rw [e, has_del_same]
      simp
    · rw [has_del_other (fun h => e (by injection h with h; exact h.symm))]
      have : (ky n == ky m) = false := by simpa using e
      rw [this]
      simp
  · have hm := mem_delL hf
    have e : ky n ≠ ky f.f0 := by
      intro e
      have := has_delL (n := n) (m := f.f0) hr
      rw [show (ky n == ky f.f0) = true by simpa using e] at this
      have h6 : hasN (delL n L) f.f0 = true := hasN_iff.2 ⟨f, hf, rfl⟩
      rw [h6] at this
      simp at this
    obtain ⟨u, h5, h6⟩ := h4 f hm
    refine ⟨u, ?_, h6.grown hturn.grown n5⟩
    rw [atKey_del_other (fun h => e (by injection h with h; exact h.symm))]
    exact h5
/-! ### troubles -/
theorem planF_snoc_old {plan : List S76} {p : S76} (_hne : ∀ q ∈ plan, q.f2 ≠ 0) (c n : Int) (h : planF plan p.f0 p.f1 ≠ 0) : planF (plan ++ [p]) c n = planF plan c n := by
  unfold planF
  rw [List.find?_append]
  cases hf : plan.find? fun q => decide (q.f0 = c ∧ q.f1 = n) with
  | some q => rfl
  | none =>
    rw [Option.none_or]
    by_cases e : p.f0 = c ∧ p.f1 = n
    · exfalso
      apply h
      unfold planF
      rw [e.1, e.2, hf]
    · rw [List.find?_cons_of_neg (by simpa using e)]
      rfl
theorem planF_zero {plan : List S76} (hne : ∀ q ∈ plan, q.f2 ≠ 0) {c n : Int} (h : planF plan c n = 0) : plan.find? (fun q => decide (q.f0 = c ∧ q.f1 = n)) = none := by
  unfold planF at h
  cases hf : plan.find? fun q => decide (q.f0 = c ∧ q.f1 = n) with
  | none => rfl
  | some q => rw [hf] at h; exact absurd h (hne q (List.mem_of_find?_eq_some hf))
theorem planF_snoc_new {plan : List S76} {p : S76} (hne : ∀ q ∈ plan, q.f2 ≠ 0) (c n : Int) (h : planF plan p.f0 p.f1 = 0) : planF (plan ++ [p]) c n = if p.f0 = c ∧ p.f1 = n then p.f2 else planF plan c n := by
  by_cases e : p.f0 = c ∧ p.f1 = n
  · rw [if_pos e]
    have h0 := planF_zero hne h
    rw [e.1, e.2] at h0
    unfold planF
    rw [List.find?_append, h0, Option.none_or, List.find?_cons_of_pos (by simpa using e)]
  · rw [if_neg e]
    unfold planF
    rw [List.find?_append]
    cases hf : plan.find? fun q => decide (q.f0 = c ∧ q.f1 = n) with
    | some q => rfl
    | none =>
      rw [Option.none_or, List.find?_cons_of_neg (by simpa using e)]
      rfl
theorem PMap.keep {w w' : World} {pm : Nat} {plan : List S76} (h : PMap w pm plan) (hk : Keeps (fun k => k = pm) w w') : PMap w' pm plan := by
  obtain ⟨D, h1, h2⟩ := h
  exact ⟨D, ownsMap_keep h1 hk rfl, h2⟩
theorem AMap.keep {w w' : World} {am : Nat} {all : List S102} (h : AMap w am all) (hk : Keeps (fun k => k = am) w w') : AMap w' am all := by
  obtain ⟨D, h1, h2⟩ := h
  exact ⟨D, ownsMap_keep h1 hk rfl, h2⟩
theorem PMap.look {w : World} {pm : Nat} {plan : List S76} (h : PMap w pm plan) {c n : Int} (hc : (Lit.int .i64 c).wf = true) (hn : (Lit.int .i64 n).wf = true) :
    ∀ W, Keeps (fun k => k = pm) w W → (Instr.lookup 81 (.map (some pm)) (.agg #[.int .i64 c, .int .i64 n]) false).run Try.prog W = .ok (.int .i64 (planF plan c n)) W := by
  intro W hW
  obtain ⟨D, h1, _, h3⟩ := h
  obtain ⟨x, hrun, hat, _⟩ := (ownsMap_keep h1 hW rfl).lookup_int lawT Try.underlying81 Try.underlying42 (zero42 W) (keyT hc hn)
  rw [h3 c n hc hn] at hat
  injection hat with hat
  injection hat with _ hat
  rw [hrun, hat]
theorem PMap.old {w : World} {pm : Nat} {plan : List S76} (h : PMap w pm plan) (hne : ∀ q ∈ plan, q.f2 ≠ 0) {p : S76} (hz : planF plan p.f0 p.f1 ≠ 0) : PMap w pm (plan ++ [p]) := by
  obtain ⟨D, h1, h2, h3⟩ := h
  exact ⟨D, h1, by rw [List.length_append]; omega, fun c n hc hn => by rw [planF_snoc_old hne c n hz]; exact h3 c n hc hn⟩
theorem PMap.store {w : World} {pm : Nat} {plan : List S76} (h : PMap w pm plan) (hne : ∀ q ∈ plan, q.f2 ≠ 0) (hl : plan.length < maxLen) {p : S76} (hc : (Lit.int .i64 p.f0).wf = true) (hn : (Lit.int .i64 p.f1).wf = true) (h2 : (Lit.int .i64 p.f2).wf = true) (hz : planF plan p.f0 p.f1 = 0) :
    ∃ w', (Instr.mapUpdate 81 (.map (some pm)) (.agg #[.int .i64 p.f0, .int .i64 p.f1]) (.int .i64 p.f2)).run Try.prog w = .ok () w' ∧ PMap w' pm (plan ++ [p]) ∧ w.mapTurned w' pm := by
  obtain ⟨D, k1, k2, k3⟩ := h
  have hti := k1.tidy lawT
  obtain ⟨w', hrun, hown, hturn⟩ := k1.store lawT Try.underlying81 (Nat.lt_of_le_of_lt k2 hl) (keyT hc hn) (plainElem_int Try.underlying42 h2)
  refine ⟨w', hrun, ⟨_, ownsMap_tight hown, ?_, fun c n wc wn => ?_⟩, hturn⟩
  · have := hown.size_le
    rw [List.length_append]
    simp
    omega
  · rw [planF_snoc_new hne c n hz]
    by_cases e : p.f0 = c ∧ p.f1 = n
    · rw [if_pos e, ← e.1, ← e.2]
      exact atKey_put_same hti.isMap (lawT.key (keyT hc hn)) _ _
    · rw [if_neg e, atKey_put_other (fun h => e ?_)]
      · exact k3 c n wc wn
      · have := tkey_inj wc wn hc hn h
        exact ⟨this.1.symm, this.2.symm⟩
/-! ### turns -/
theorem cntL_snoc (all : List S102) (x : S102) (c : Int) : cntL (all ++ [x]) c = if x.f0 = c then cntL all c + 1 else cntL all c := by
  unfold cntL
  rw [List.filter_append, List.length_append]
  by_cases e : x.f0 = c <;> simp [e]
theorem cntL_le (all : List S102) (c : Int) : cntL all c ≤ all.length := List.length_filter_le _ _
theorem AMap.look {w : World} {am : Nat} {all : List S102} (h : AMap w am all) {c : Int} (hc : (Lit.int .i64 c).wf = true) :
    ∀ W, Keeps (fun k => k = am) w W → (Instr.lookup 82 (.map (some am)) (.int .i64 c) false).run Try.prog W = .ok (.int .i64 (cntL all c : Nat)) W := by
  intro W hW
  obtain ⟨D, h1, _, h3⟩ := h
  obtain ⟨x, hrun, hat, _⟩ := (ownsMap_keep h1 hW rfl).lookup_int lawI Try.underlying82 Try.underlying3 (zero3 W) (keyI hc)
  rw [h3 c] at hat
  injection hat with hat
  injection hat with _ hat
  rw [hrun, hat]
/-- 'asked[c]++', ahead of the call's being noted down. -/
theorem AMap.store {w : World} {am : Nat} {all : List S102} (h : AMap w am all) (hl : all.length < 4611686018427387904) {x : S102} (hc : (Lit.int .i64 x.f0).wf = true) :
    ∃ w', (Instr.mapUpdate 82 (.map (some am)) (.int .i64 x.f0) (.int .i64 ((cntL all x.f0 : Int) + 1))).run Try.prog w = .ok () w' ∧ AMap w' am (all ++ [x]) ∧ w.mapTurned w' am := by
  obtain ⟨D, k1, k2, k3⟩ := h
  have hti := k1.tidy lawI
  have hcl := cntL_le all x.f0
  obtain ⟨w', hrun, hown, hturn⟩ := k1.store lawI Try.underlying82 (by simp only [maxLen]; omega) (keyI hc) (plainElem_int Try.underlying3 (a := (cntL all x.f0 : Int) + 1) (WalkArith.wf_i64 (by omega)))
  refine ⟨w', hrun, ⟨_, ownsMap_tight hown, ?_, fun c => ?_⟩, hturn⟩
  · have := hown.size_le
    rw [List.length_append]
    simp
    omega
  · rw [cntL_snoc]
    by_cases e : x.f0 = c
    · rw [if_pos e, ← e, atKey_put_same hti.isMap (lawI.key (keyI hc))]
      rfl
    · rw [if_neg e, atKey_put_other (fun h => e ?_)]
      · exact k3 c
      · injection h with _ h
        exact h.symm
end Go.Proofs.Ytplknppmaepinaa.S
