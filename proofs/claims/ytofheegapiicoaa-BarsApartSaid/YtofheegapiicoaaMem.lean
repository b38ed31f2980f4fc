/- Rows of cells in a block that the call itself writes into. -/
import Derived.Test.YtofheegapiicoaaBarsF
set_option linter.unusedVariables false
set_option linter.unusedSimpArgs false
namespace Go.Proofs.Ytofheegapiicoaa
open Go.RowKit Go.Shelf Go.Proofs.YtofheegapiicoaaW.PrintWords

/-- A block whose first cells hold a list, none of them frozen. -/
structure CRow {α : Type} (enc : α → Value) (d : α) (W : World) (g : Nat) (L : List α) : Prop where
  lt : g < W.heap.size
  cell : ∀ j, j < L.length → W.cell? ⟨g, j, none⟩ = some (enc (L.getD j d))
  free : ∀ j, j < L.length → W.frozen? ⟨g, j, none⟩ = false
section
variable {α : Type} {enc : α → Value} {d : α} {W W' : World} {g : Nat} {L : List α}
theorem CRow.below (h : CRow enc d W g L) (hb : Below W.heap.size W W') : CRow enc d W' g L :=
  ⟨Nat.lt_of_lt_of_le h.lt hb.size, fun j hj => (hb.cell (p := ⟨g, j, none⟩) h.lt).trans (h.cell j hj), fun j hj => (hb.frozen (p := ⟨g, j, none⟩) h.lt).trans (h.free j hj)⟩
theorem CRow.set (h : CRow enc d W g L) (i : Nat) (hi : i < L.length) (x : α) : CRow enc d (W.setCell ⟨g, i, none⟩ (enc x)) g (L.set i x) := by
  refine ⟨by simpa using h.lt, fun j hj => ?_, fun j hj => ?_⟩
  · rw [List.length_set] at hj
    by_cases e : i = j
    · subst e
      rw [World.cell?_setCell_same' _ _ _ (by rw [h.cell i hi]; rfl)]
      simp [List.getD_eq_getElem?_getD, List.getElem?_set, hi]
    · rw [World.cell?_setCell_other _ _ _ _ (by intro h2; cases h2; exact e rfl), h.cell j hj]
      simp [List.getD_eq_getElem?_getD, List.getElem?_set, e]
  · rw [World.frozen?_setCell]
    exact h.free j (by simpa using hj)
theorem CRow.other (h : CRow enc d W g L) (b : Nat) (i : Nat) (v : Value) (hne : b ≠ g) : CRow enc d (W.setCell ⟨b, i, none⟩ v) g L := by
  refine ⟨by simpa using h.lt, fun j hj => ?_, fun j hj => ?_⟩
  · rw [World.cell?_setCell_other _ _ _ _ (by intro h2; cases h2; exact hne rfl), h.cell j hj]
  · rw [World.frozen?_setCell]
    exact h.free j hj
theorem CRow.reads {k : IntKind} {L : List Int} (h : CRow (Value.int k) 0 W g L) (hm : L.length ≤ 9223372036854775807) : Kd.C (Kd.int k) W (some ⟨g, 0, none⟩) L.length L :=
  Kd.C_of_reads (d := (0 : Int)) (h1 := fun _ => rfl) ⟨rfl, hm, fun _ => ⟨_, rfl, fun j hj => by rw [add_plain]; exact h.cell j hj⟩⟩
theorem CRow.string {P : Program} {L : List Int} (h : CRow (Value.int .u8) 0 W g L) (src e dst : TypeId) (hs : P.underlying src = some (.slice e)) (he : P.underlying e = some (.int .u8)) (hd : P.underlying dst = some .string) (n cap : Nat) (hn : L.length = n) :
    (convert src dst (.slice (some ⟨g, 0, none⟩) n cap)).run P W = .ok (.string (strOfNums L)) W :=
  run_convert_bytes_arg W src e hs he g 0 n cap L hn (fun i hi => by rw [Nat.zero_add]; exact h.cell i (by omega)) dst hd
end
/-- What '[]byte(s)' makes. -/
theorem CRow.bytes (w : World) (e : TypeId) (s : ByteArray) : CRow (Value.int .u8) 0 (Lib.bytesWorld w e s) w.heap.size (bytesOf s) := by
  have hl : (bytesOf s).length = s.size := bytesOf_length s
  refine ⟨by rw [Lib.bytesWorld_size]; omega, fun j hj => ?_, fun j hj => ?_⟩
  · rw [Lib.bytesWorld_cell w e s j (by omega)]
    have hj2 : j < s.data.toList.length := by rw [data_length]; omega
    rw [List.getD_eq_getElem?_getD, List.getD_eq_getElem?_getD, bytesOf, List.getElem?_map, List.getElem?_eq_getElem hj2]
    rfl
  · have hc : j < (Lib.bytesCells w e s).size := by
      simp [Lib.bytesCells]
      omega
    simp [World.frozen?, Lib.bytesWorld_at_new]
    omega
/-- What 'make' leaves, elements of one cell. -/
theorem CRow.made {α : Type} (enc : α → Value) (d : α) (w : World) (e : TypeId) (n : Nat) : CRow enc d (w.alloc (.cells (madeCells #[enc d] n) e)) w.heap.size (List.replicate n d) := by
  have hb := heap_alloc_new w (.cells (madeCells #[enc d] n) e)
  refine ⟨by simp, fun j hj => ?_, fun j hj => ?_⟩
  · have hjn : j < n := by simpa using hj
    have h1 : (List.replicate n d).getD j d = d := by simp [List.getD_eq_getElem?_getD, List.getElem?_replicate, hjn]
    rw [h1, World.cell?, hb]
    simp [madeCells, hjn, Nat.mod_one]
  · unfold World.frozen?
    rw [hb]
    simp
theorem bytes_below (w : World) (e : TypeId) (s : ByteArray) : Below w.heap.size w (Lib.bytesWorld w e s) := by
  refine ⟨rfl, rfl, rfl, by rw [Lib.bytesWorld_size]; omega, fun i hi => Lib.bytesWorld_at_old w e s i hi⟩
end Go.Proofs.Ytofheegapiicoaa
