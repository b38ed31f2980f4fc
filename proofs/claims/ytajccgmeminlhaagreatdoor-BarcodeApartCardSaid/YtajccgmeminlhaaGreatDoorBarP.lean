/- BarP: of the parts TurnPure, Mem, BackPure, FramePure; each part tells what it proves. -/
import Derived.Test.YtajccgmeminlhaaGreatDoorBarM
import Derived.Test.YtajccgmeminlhaaGreatDoorR1
import Derived.Lib.Strings
section
/- Plain words on texts of bars that are turned. -/
set_option linter.unusedVariables false
set_option linter.unusedSimpArgs false
namespace Go.Proofs.YtajccgmeminlhaaGreatDoor.Br
open Go.RowKit Go.Shelf Go.Proofs.YtajccgmeminlhaaGreatDoorW.PrintWords Go.Proofs.YtajccgmeminlhaaGreatDoor.R

/-- A letter upside down. -/
def fb (b : UInt8) : UInt8 := lb (fl (st b.toNat))
def isL (b : UInt8) : Bool := decide (0 ≤ st b.toNat)
theorem isL_cases {b : UInt8} (h : isL b = true) : b = 84 ∨ b = 65 ∨ b = 68 ∨ b = 70 ∨ b = 63 := by
  have h2 : 0 ≤ st (b.toNat : Int) := by simpa [isL] using h
  unfold st at h2
  have hb : ∀ n : Nat, (b.toNat : Int) = (n : Int) → n < 256 → b = n.toUInt8 := by
    intro n hn hlt
    apply UInt8.toNat.inj
    rw [UInt8.toNat_ofNat']
    omega
  repeat' split at h2
  · exact .inl (hb 84 (by assumption) (by omega))
  · exact .inr (.inl (hb 65 (by assumption) (by omega)))
  · exact .inr (.inr (.inl (hb 68 (by assumption) (by omega))))
  · exact .inr (.inr (.inr (.inl (hb 70 (by assumption) (by omega)))))
  · exact .inr (.inr (.inr (.inr (hb 63 (by assumption) (by omega)))))
  · omega
theorem fb_fb {b : UInt8} (h : isL b = true) : fb (fb b) = b := by
  rcases isL_cases h with rfl | rfl | rfl | rfl | rfl <;> decide
theorem fb_isL {b : UInt8} (h : isL b = true) : isL (fb b) = true := by
  rcases isL_cases h with rfl | rfl | rfl | rfl | rfl <;> decide
theorem lettersAll_eq (s : ByteArray) : lettersAll s = s.data.toList.all isL := rfl
theorem lettersAll_mk (l : List UInt8) : lettersAll ⟨l.toArray⟩ = l.all isL := rfl

theorem came_eq (s : ByteArray) : ∀ d j, came s j d = ((List.range d).map fun i => flAt s (j + 1 + i)).reverse := by
  intro d
  induction d with
  | zero => intro j; rfl
  | succ d ih =>
    intro j
    rw [came, ih, List.range_succ_eq_map, List.map_cons, List.reverse_cons, List.map_map]
    congr 2
    apply List.map_congr_left
    intro i _
    simp only [Function.comp]
    congr 1
    omega
theorem range_map_getD {α : Type} (l : List UInt8) (f : UInt8 → α) : (List.range l.length).map (fun i => f (l.getD i 0)) = l.map f := by
  apply List.ext_getElem
  · simp
  · intro i h1 h2
    have : i < l.length := by simpa using h1
    simp [List.getD_eq_getElem?_getD, List.getElem?_eq_getElem this]
theorem turnText_eq (s : ByteArray) (h : lettersAll s = true) : turnText s = (s.data.toList.map fb).reverse := by
  have hsz : s.size = s.data.toList.length := by simp
  unfold turnText
  rw [came_eq, List.map_reverse, List.map_map]
  congr 1
  rw [← range_map_getD s.data.toList fb, hsz]
  apply List.map_congr_left
  intro i hi
  have hi2 : i < s.size := by rw [hsz]; simpa using hi
  have hl := lettersAll_at h i hi2
  have hg := gl_at s i hi2
  have h4 := (st_range ((s[i]'hi2).toNat : Int)).2
  simp only [Function.comp, flAt]
  have e : 0 + 1 + i - 1 = i := by omega
  rw [e, dif_pos]
  · rfl
  · rw [hg]
    unfold fl
    split
    · omega
    · split <;> omega
theorem mk_data (s : ByteArray) : (⟨s.data.toList.toArray⟩ : ByteArray) = s := rfl
theorem turnW_eq (s : ByteArray) (h : lettersAll s = true) : turnW s = ⟨((s.data.toList.map fb).reverse).toArray⟩ := by
  unfold turnW
  rw [turnText_eq s h]
theorem turn_letters (s : ByteArray) (h : lettersAll s = true) : lettersAll (turnW s) = true := by
  rw [turnW_eq s h, lettersAll_mk, List.all_eq_true]
  intro b hb
  rw [List.mem_reverse, List.mem_map] at hb
  obtain ⟨c, hc, rfl⟩ := hb
  rw [lettersAll_eq, List.all_eq_true] at h
  exact fb_isL (h c hc)
theorem turn_size (s : ByteArray) (h : lettersAll s = true) : (turnW s).size = s.size := by
  rw [turnW_eq s h]
  show ((s.data.toList.map fb).reverse).toArray.size = s.data.size
  simp
theorem turn_turn (s : ByteArray) (h : lettersAll s = true) : turnW (turnW s) = s := by
  rw [turnW_eq _ (turn_letters s h), turnW_eq s h]
  have : (((s.data.toList.map fb).reverse).map fb).reverse = s.data.toList := by
    rw [List.map_reverse, List.reverse_reverse, List.map_map]
    conv => rhs; rw [← List.map_id s.data.toList]
    apply List.map_congr_left
    intro b hb
    rw [lettersAll_eq, List.all_eq_true] at h
    exact fb_fb (h b hb)
  simp only [List.map_reverse, List.reverse_reverse, List.map_map] at this ⊢
  rw [this]
theorem data_append (a b : ByteArray) : (a ++ b).data.toList = a.data.toList ++ b.data.toList := by simp
theorem letters_append (a b : ByteArray) (ha : lettersAll a = true) (hb : lettersAll b = true) : lettersAll (a ++ b) = true := by
  rw [lettersAll_eq, data_append, List.all_append]
  rw [lettersAll_eq] at ha hb
  rw [ha, hb]
  rfl
theorem turn_append (a b : ByteArray) (ha : lettersAll a = true) (hb : lettersAll b = true) : turnW (a ++ b) = turnW b ++ turnW a := by
  rw [turnW_eq _ (letters_append a b ha hb), turnW_eq a ha, turnW_eq b hb, data_append, List.map_append, List.reverse_append]
  apply ByteArray.ext
  simp
theorem check_ok (s : ByteArray) (more : Int) (hs : (s.size : Int) + more ≤ 200) (h : lettersAll s = true) : checkW s more = 0 := by
  unfold checkW
  rw [if_neg (by omega), if_pos h]
theorem turn_f (s : ByteArray) (hs : s.size ≤ 200) (h : lettersAll s = true) : bars_Turn.f s = some (turnW s, 0) := by
  unfold bars_Turn.f bars_check.f bars_turn.f
  rw [if_pos ⟨by omega, by omega, by omega⟩, check_ok s 0 (by omega) h, if_pos ⟨hs, h⟩]
  rfl
end Go.Proofs.YtajccgmeminlhaaGreatDoor.Br
end
section
/- Rows of cells in a block that the call itself writes into. -/
set_option linter.unusedVariables false
set_option linter.unusedSimpArgs false
namespace Go.Proofs.YtajccgmeminlhaaGreatDoor.Br
open Go.RowKit Go.Shelf Go.Proofs.YtajccgmeminlhaaGreatDoorW.PrintWords

/-- A block whose first cells hold a list, none of them frozen. -/
structure CRow {α : Type} (enc : α → Value) (d : α) (W : World) (g : Nat) (L : List α) : Prop where
  lt : g < W.heap.size
  cell : ∀ j, j < L.length → W.cell? ⟨g, j, none⟩ = some (enc (L.getD j d))
  free : ∀ j, j < L.length → W.frozen? ⟨g, j, none⟩ = false
section
variable {α : Type} {enc : α → Value} {d : α} {W W' : World} {g : Nat} {L : List α}
theorem CRow.below (h : CRow enc d W g L) (hb : Below W.heap.size W W') : CRow enc d W' g L :=
  ⟨Nat.lt_of_lt_of_le h.lt hb.size, fun j hj => (hb.cell (p := ⟨g, j, none⟩) h.lt).trans (h.cell j hj), fun j hj => (hb.frozen (p := ⟨g, j, none⟩) h.lt).trans (h.free j hj)⟩
theorem CRow.set (h : CRow enc d W g L) (i : Nat) (hi : i < L.length) (x : α) : CRow enc d (W.setCell ⟨g, i, none⟩ (enc x)) g (L.set i x) := by
  refine ⟨by simpa using h.lt, fun j hj => ?_, fun j hj => ?_⟩
  · rw [List.length_set] at hj
    by_cases e : i = j
    · subst e
      rw [World.cell?_setCell_same' _ _ _ (by rw [h.cell i hi]; rfl)]
      simp [List.getD_eq_getElem?_getD, List.getElem?_set, hi]
    · rw [World.cell?_setCell_other _ _ _ _ (by intro h2; cases h2; exact e rfl), h.cell j hj]
      simp [List.getD_eq_getElem?_getD, List.getElem?_set, e]
  · rw [World.frozen?_setCell]
    exact h.free j (by simpa using hj)
theorem CRow.other (h : CRow enc d W g L) (b : Nat) (i : Nat) (v : Value) (hne : b ≠ g) : CRow enc d (W.setCell ⟨b, i, none⟩ v) g L := by
  refine ⟨by simpa using h.lt, fun j hj => ?_, fun j hj => ?_⟩
  · rw [World.cell?_setCell_other _ _ _ _ (by intro h2; cases h2; exact hne rfl), h.cell j hj]
  · rw [World.frozen?_setCell]
    exact h.free j hj
theorem CRow.reads {k : IntKind} {L : List Int} (h : CRow (Value.int k) 0 W g L) (hm : L.length ≤ 9223372036854775807) : Kd.C (Kd.int k) W (some ⟨g, 0, none⟩) L.length L :=
  Kd.C_of_reads (d := (0 : Int)) (h1 := fun _ => rfl) ⟨rfl, hm, fun _ => ⟨_, rfl, fun j hj => by rw [add_plain]; exact h.cell j hj⟩⟩
theorem CRow.string {P : Program} {L : List Int} (h : CRow (Value.int .u8) 0 W g L) (src e dst : TypeId) (hs : P.underlying src = some (.slice e)) (he : P.underlying e = some (.int .u8)) (hd : P.underlying dst = some .string) (n cap : Nat) (hn : L.length = n) :
    (convert src dst (.slice (some ⟨g, 0, none⟩) n cap)).run P W = .ok (.string (strOfNums L)) W :=
  run_convert_bytes_arg W src e hs he g 0 n cap L hn (fun i hi => by rw [Nat.zero_add]; exact h.cell i (by omega)) dst hd
end
/-- What '[]byte(s)' makes. -/
theorem CRow.bytes (w : World) (e : TypeId) (s : ByteArray) : CRow (Value.int .u8) 0 (Lib.bytesWorld w e s) w.heap.size (bytesOf s) := by
  have hl : (bytesOf s).length = s.size := bytesOf_length s
  refine ⟨by rw [Lib.bytesWorld_size]; omega, fun j hj => ?_, fun j hj => ?_⟩
  · rw [Lib.bytesWorld_cell w e s j (by omega)]
    have hj2 : j < s.data.toList.length := by rw [data_length]; omega
    rw [List.getD_eq_getElem?_getD, List.getD_eq_getElem?_getD, bytesOf, List.getElem?_map, List.getElem?_eq_getElem hj2]
    rfl
  · have hc : j < (Lib.bytesCells w e s).size := by
      simp [Lib.bytesCells]
      omega
    simp [World.frozen?, Lib.bytesWorld_at_new]
    omega
/-- What 'make' leaves, elements of one cell. -/
theorem CRow.made {α : Type} (enc : α → Value) (d : α) (w : World) (e : TypeId) (n : Nat) : CRow enc d (w.alloc (.cells (madeCells #[enc d] n) e)) w.heap.size (List.replicate n d) := by
  have hb := heap_alloc_new w (.cells (madeCells #[enc d] n) e)
  refine ⟨by simp, fun j hj => ?_, fun j hj => ?_⟩
  · have hjn : j < n := by simpa using hj
    have h1 : (List.replicate n d).getD j d = d := by simp [List.getD_eq_getElem?_getD, List.getElem?_replicate, hjn]
    rw [h1, World.cell?, hb]
    simp [madeCells, hjn, Nat.mod_one]
  · unfold World.frozen?
    rw [hb]
    simp
theorem bytes_below (w : World) (e : TypeId) (s : ByteArray) : Below w.heap.size w (Lib.bytesWorld w e s) := by
  refine ⟨rfl, rfl, rfl, by rw [Lib.bytesWorld_size]; omega, fun i hi => Lib.bytesWorld_at_old w e s i hi⟩
end Go.Proofs.YtajccgmeminlhaaGreatDoor.Br
end
section
/- Plain words for the law BarsBack: letters that become unclear. -/
set_option linter.unusedVariables false
set_option linter.unusedSimpArgs false
namespace Go.Proofs.YtajccgmeminlhaaGreatDoor.Br
open Go.RowKit Go.Shelf Go.Proofs.YtajccgmeminlhaaGreatDoorW.PrintWords

/-- Symbols out of bytes. -/
def md (l : List Int) : List Int := l.map fun b => b % 64
theorem md_append (a b : List Int) : md (a ++ b) = md a ++ md b := List.map_append
theorem md_length (a : List Int) : (md a).length = a.length := List.length_map _
theorem md_range {l : List Int} {x : Int} (h : x ∈ md l) : 0 ≤ x ∧ x ≤ 63 := by
  unfold md at h
  obtain ⟨y, _, rfl⟩ := List.mem_map.1 h
  omega
theorem writeW_ok (S : List Int) (hn : S.length ≤ 66) (h : ∀ x ∈ S, x ≤ 63) : writeW S = (⟨(writeText S).toArray⟩, 0) := by
  have : symsOK S = true := by
    unfold symsOK
    rw [List.all_eq_true]
    intro x hx
    simpa using h x hx
  unfold writeW
  rw [if_neg (by omega), if_pos this]
theorem write_f (S : List Int) (hn : S.length ≤ 66) (h : ∀ x ∈ S, 0 ≤ x ∧ x ≤ 63) : bars_Write.f S = some (⟨(writeText S).toArray⟩, 0) := by
  unfold bars_Write.f
  rw [if_pos (fun x hx => (h x hx).1), writeW_ok S hn (fun x hx => (h x hx).2)]

/-- The letters of symbols, as numbers. -/
def W0 (S : List Int) : List Int := (writeText S).map fun b => (b.toNat : Int)
theorem bytesOf_write (S : List Int) : bytesOf ⟨(writeText S).toArray⟩ = W0 S := rfl
theorem W0_length (S : List Int) : (W0 S).length = 3 * S.length := by rw [W0, List.length_map, writeText_length]
theorem W0_at : ∀ (S : List Int) (i : Nat), i < S.length → (W0 S).getD (3 * i) 0 = ((lb (S.getD i 0 / 16)).toNat : Int) ∧ (W0 S).getD (3 * i + 1) 0 = ((lb (S.getD i 0 / 4 % 4)).toNat : Int) ∧ (W0 S).getD (3 * i + 2) 0 = ((lb (S.getD i 0 % 4)).toNat : Int) := by
  intro S
  induction S with
  | nil => intro i h; exact absurd h (by simp)
  | cons x S ih =>
    intro i h
    cases i with
    | zero => exact ⟨rfl, rfl, rfl⟩
    | succ i =>
      have := ih i (by simpa using h)
      have e1 : 3 * (i + 1) = 3 * i + 3 := by omega
      rw [e1]
      simpa [W0, writeText, List.getD_cons_succ] using this
theorem st_lb4 (i : Int) (h0 : 0 ≤ i) (h1 : i < 4) : st ((lb i).toNat : Int) = i := by
  obtain ⟨n, rfl⟩ := Int.eq_ofNat_of_zero_le h0
  have : n < 4 := by omega
  match n, this with
  | 0, _ => decide
  | 1, _ => decide
  | 2, _ => decide
  | 3, _ => decide
/-- The state of each letter of symbols. -/
theorem W0_st (S : List Int) (hS : ∀ x ∈ S, 0 ≤ x ∧ x ≤ 63) (i : Nat) (hi : i < S.length) :
    st ((W0 S).getD (3 * i) 0) = S.getD i 0 / 16 ∧ st ((W0 S).getD (3 * i + 1) 0) = S.getD i 0 / 4 % 4 ∧ st ((W0 S).getD (3 * i + 2) 0) = S.getD i 0 % 4 := by
  obtain ⟨a, b, c⟩ := W0_at S i hi
  have hx : S.getD i 0 ∈ S := by
    rw [List.getD_eq_getElem?_getD, List.getElem?_eq_getElem hi]
    exact List.getElem_mem hi
  have := hS _ hx
  rw [a, b, c]
  exact ⟨st_lb4 _ (by omega) (by omega), st_lb4 _ (by omega) (by omega), st_lb4 _ (by omega) (by omega)⟩

/-- One letter becomes unclear. -/
def stepL (N : Nat) (L : List Int) (u : Int) : List Int := L.set (u.toNat % N) 63
def stepH (N : Nat) (H : List Bool) (u : Int) : List Bool := H.set (u.toNat % N / 3) true
def hitsL (N : Nat) (L : List Int) (us : List Int) : List Int := us.foldl (stepL N) L
def hitsH (N : Nat) (H : List Bool) (us : List Int) : List Bool := us.foldl (stepH N) H
theorem hitsL_snoc (N : Nat) (L : List Int) (us : List Int) (u : Int) : hitsL N L (us ++ [u]) = stepL N (hitsL N L us) u := by simp [hitsL]
theorem hitsH_snoc (N : Nat) (H : List Bool) (us : List Int) (u : Int) : hitsH N H (us ++ [u]) = stepH N (hitsH N H us) u := by simp [hitsH]
theorem hitsL_length (N : Nat) (us : List Int) : ∀ L, (hitsL N L us).length = L.length := by
  induction us with
  | nil => intro L; rfl
  | cons u us ih => intro L; show (hitsL N (stepL N L u) us).length = _; rw [ih]; simp [stepL]
theorem hitsH_length (N : Nat) (us : List Int) : ∀ H, (hitsH N H us).length = H.length := by
  induction us with
  | nil => intro L; rfl
  | cons u us ih => intro H; show (hitsH N (stepH N H u) us).length = _; rw [ih]; simp [stepH]
/-- What stays true while letters become unclear. -/
structure Inv (n : Nat) (L0 L : List Int) (H : List Bool) : Prop where
  len : L.length = 3 * n
  lenH : H.length = n
  hit : ∀ i, i < n → H.getD i false = true → L.getD (3 * i) 0 = 63 ∨ L.getD (3 * i + 1) 0 = 63 ∨ L.getD (3 * i + 2) 0 = 63
  keep : ∀ i, i < n → H.getD i false = false → L.getD (3 * i) 0 = L0.getD (3 * i) 0 ∧ L.getD (3 * i + 1) 0 = L0.getD (3 * i + 1) 0 ∧ L.getD (3 * i + 2) 0 = L0.getD (3 * i + 2) 0
  one : ∀ j, L.getD j 0 = 63 ∨ L.getD j 0 = L0.getD j 0
theorem getD_set {α : Type} (l : List α) (i j : Nat) (x d : α) : (l.set i x).getD j d = if i = j ∧ j < l.length then x else l.getD j d := by
  simp only [List.getD_eq_getElem?_getD, List.getElem?_set]
  by_cases h : i = j
  · subst h
    by_cases h2 : i < l.length
    · simp [h2]
    · simp [h2, List.getElem?_eq_none (Nat.le_of_not_lt h2)]
  · simp [h]
theorem Inv.step {n : Nat} {L0 L : List Int} {H : List Bool} (h : Inv n L0 L H) (u : Int) : Inv n L0 (stepL (3 * n) L u) (stepH (3 * n) H u) := by
  have hl := h.len
  have hh := h.lenH
  rcases Nat.eq_zero_or_pos n with rfl | hn
  · have e1 : L = [] := List.eq_nil_of_length_eq_zero (by omega)
    have e2 : H = [] := List.eq_nil_of_length_eq_zero (by omega)
    subst e1 e2
    exact ⟨by simp [stepL], by simp [stepH], fun i hi => by omega, fun i hi => by omega, fun j => by simpa [stepL] using h.one j⟩
  · have hq : u.toNat % (3 * n) < 3 * n := Nat.mod_lt _ (by omega)
    generalize hqe : u.toNat % (3 * n) = q at hq
    refine ⟨by simp [stepL, hl], by simp [stepH, hh], fun i hi => ?_, fun i hi => ?_, fun j => ?_⟩
    · simp only [stepL, stepH, hqe, getD_set, hl, hh]
      intro hH
      by_cases e : q / 3 = i
      · have : q = 3 * i ∨ q = 3 * i + 1 ∨ q = 3 * i + 2 := by omega
        rcases this with e2 | e2 | e2
        · left; rw [if_pos ⟨e2, by omega⟩]
        · right; left; rw [if_pos ⟨e2, by omega⟩]
        · right; right; rw [if_pos ⟨e2, by omega⟩]
      · rw [if_neg (fun h2 => e h2.1)] at hH
        have := h.hit i hi hH
        rw [if_neg (by omega), if_neg (by omega), if_neg (by omega)]
        exact this
    · simp only [stepL, stepH, hqe, getD_set, hl, hh]
      intro hH
      by_cases e : q / 3 = i
      · rw [if_pos ⟨e, hi⟩] at hH
        cases hH
      · rw [if_neg (fun h2 => e h2.1)] at hH
        have := h.keep i hi hH
        rw [if_neg (by omega), if_neg (by omega), if_neg (by omega)]
        exact this
    · simp only [stepL, hqe, getD_set, hl]
      split
      · exact .inl rfl
      · exact h.one j
theorem inv_start (S : List Int) : Inv S.length (W0 S) (W0 S) (List.replicate S.length false) := by
  refine ⟨W0_length S, by simp, fun i hi h => ?_, fun i hi h => ⟨rfl, rfl, rfl⟩, fun j => .inr rfl⟩
  simp [List.getD_eq_getElem?_getD, List.getElem?_replicate, hi] at h
theorem inv_hits (n : Nat) (L0 : List Int) (us : List Int) : ∀ L H, Inv n L0 L H → Inv n L0 (hitsL (3 * n) L us) (hitsH (3 * n) H us) := by
  induction us with
  | nil => intro L H h; exact h
  | cons u us ih => intro L H h; exact ih _ _ (h.step u)

/-- What is read of the letters. -/
theorem gl_nums (L : List Int) (hL : ∀ x ∈ L, 0 ≤ x ∧ x < 256) (j : Nat) (hj : j < L.length) : gl (strOfNums L) j = st (L.getD j 0) := by
  have hx : L.getD j 0 ∈ L := by
    rw [List.getD_eq_getElem?_getD, List.getElem?_eq_getElem hj]
    exact List.getElem_mem hj
  have hb := hL _ hx
  unfold gl
  rw [strOfNums_data]
  congr 1
  rw [List.getD_eq_getElem?_getD, List.getElem?_map, List.getElem?_eq_getElem hj]
  rw [List.getD_eq_getElem?_getD, List.getElem?_eq_getElem hj] at hb
  rw [List.getD_eq_getElem?_getD, List.getElem?_eq_getElem hj]
  simp only [Option.map_some, Option.getD_some] at hb ⊢
  rw [UInt8.toNat_ofNat']
  omega
theorem letters_nums (L : List Int) (hL : ∀ x ∈ L, 0 ≤ x ∧ x < 256) (hs : ∀ j, j < L.length → 0 ≤ st (L.getD j 0)) : lettersAll (strOfNums L) = true := by
  apply lettersAll_of
  intro k hk
  rw [← gl_at _ k hk, gl_nums L hL k (by rw [strOfNums_size] at hk; exact hk)]
  exact hs k (by rw [strOfNums_size] at hk; exact hk)
theorem st63 : st 63 = 4 := by decide
theorem erased_prefix (g : Nat → Int) (i d : Nat) : ∃ t, erasedOf g (i + d) = erasedOf g i ++ t := by
  induction d with
  | zero => exact ⟨[], by simp⟩
  | succ d ih =>
    obtain ⟨t, ht⟩ := ih
    rw [← Nat.add_assoc]
    cases h : unclear g (i + d) with
    | true => exact ⟨t ++ [((i + d : Nat) : Int)], by rw [erasedOf_yes _ _ h, ht, List.append_assoc]⟩
    | false => exact ⟨t, by rw [erasedOf_no _ _ h, ht]⟩
theorem erased_at (g : Nat → Int) (i n : Nat) (hi : i < n) (h : unclear g i = true) : (erasedOf g i).length < (erasedOf g n).length ∧ (erasedOf g n).getD (erasedOf g i).length 0 = (i : Int) := by
  obtain ⟨t, ht⟩ := erased_prefix g (i + 1) (n - (i + 1))
  rw [show i + 1 + (n - (i + 1)) = n by omega, erasedOf_yes _ _ h, List.append_assoc] at ht
  rw [ht]
  refine ⟨by simp, ?_⟩
  rw [List.getD_eq_getElem?_getD, List.getElem?_append_right (Nat.le_refl _)]
  simp
theorem syms_at (g : Nat → Int) (i n : Nat) (hi : i < n) : (symsOf g n).getD i 0 = symOf (g (3 * i)) (g (3 * i + 1)) (g (3 * i + 2)) := by
  rw [List.getD_eq_getElem?_getD]
  simp [symsOf, hi]

/-- The end of the law: what is read of the letters behind the hits. -/
structure Told (S : List Int) (L : List Int) (H : List Bool) : Prop where
  read : bars_Read.f (strOfNums L) = some (symsOf (gl (strOfNums L)) S.length, erasedOf (gl (strOfNums L)) S.length, 0)
  un : ∀ i, i < S.length → unclear (gl (strOfNums L)) i = H.getD i false
  sym : ∀ i, i < S.length → H.getD i false = false → symOf (gl (strOfNums L) (3 * i)) (gl (strOfNums L) (3 * i + 1)) (gl (strOfNums L) (3 * i + 2)) = S.getD i 0
  zero : ∀ i, i < S.length → H.getD i false = true → symOf (gl (strOfNums L) (3 * i)) (gl (strOfNums L) (3 * i + 1)) (gl (strOfNums L) (3 * i + 2)) = 0
theorem told_of (S : List Int) (hn : S.length ≤ 60) (hS : ∀ x ∈ S, 0 ≤ x ∧ x ≤ 63) (L : List Int) (H : List Bool) (h : Inv S.length (W0 S) L H) : Told S L H := by
  have hW : ∀ j, j < 3 * S.length → ∃ c, 0 ≤ c ∧ c < 4 ∧ (W0 S).getD j 0 = ((lb c).toNat : Int) ∧ st ((W0 S).getD j 0) = c := by
    intro j hj
    obtain ⟨i, hi, e⟩ : ∃ i, i < S.length ∧ (j = 3 * i ∨ j = 3 * i + 1 ∨ j = 3 * i + 2) := ⟨j / 3, by omega, by omega⟩
    obtain ⟨a, b, c⟩ := W0_at S i hi
    have hx : S.getD i 0 ∈ S := by
      rw [List.getD_eq_getElem?_getD, List.getElem?_eq_getElem hi]
      exact List.getElem_mem hi
    have hb := hS _ hx
    rcases e with rfl | rfl | rfl
    · exact ⟨S.getD i 0 / 16, by omega, by omega, a, by rw [a]; exact st_lb4 _ (by omega) (by omega)⟩
    · exact ⟨S.getD i 0 / 4 % 4, by omega, by omega, b, by rw [b]; exact st_lb4 (S.getD i 0 / 4 % 4) (by omega) (by omega)⟩
    · exact ⟨S.getD i 0 % 4, by omega, by omega, c, by rw [c]; exact st_lb4 (S.getD i 0 % 4) (by omega) (by omega)⟩
  have hst : ∀ j, j < 3 * S.length → 0 ≤ st (L.getD j 0) ∧ (st (L.getD j 0) = 4 ↔ L.getD j 0 = 63) := by
    intro j hj
    obtain ⟨c, hc0, hc4, e1, e2⟩ := hW j hj
    rcases h.one j with e | e
    · rw [e, st63]; exact ⟨by omega, by simp⟩
    · rw [e, e2]
      refine ⟨hc0, fun h4 => by omega, fun h63 => ?_⟩
      rw [h63, st63] at e2
      omega
  have hL : ∀ x ∈ L, 0 ≤ x ∧ x < 256 := by
    intro x hx
    obtain ⟨j, hj, rfl⟩ := List.getElem_of_mem hx
    have hj2 : j < 3 * S.length := by rw [← h.len]; exact hj
    have e : L.getD j 0 = L[j] := by rw [List.getD_eq_getElem?_getD, List.getElem?_eq_getElem hj]; rfl
    have := hst j hj2
    rw [e] at this
    have := st_lt _ this.1
    omega
  have hg : ∀ j, j < 3 * S.length → gl (strOfNums L) j = st (L.getD j 0) := fun j hj => gl_nums L hL j (by rw [h.len]; exact hj)
  have hsz : (strOfNums L).size = 3 * S.length := by rw [strOfNums_size, h.len]
  refine ⟨?_, fun i hi => ?_, fun i hi hH => ?_, fun i hi hH => ?_⟩
  · have hck : checkW (strOfNums L) 0 = 0 := check_ok _ 0 (by rw [hsz]; omega) (letters_nums L hL (fun j hj => (hst j (by rw [← h.len]; exact hj)).1))
    unfold bars_Read.f readW
    rw [if_pos (by rw [hsz]; omega), if_pos hck, if_pos (by rw [hsz]; omega), hsz, Nat.mul_div_cancel_left _ (by omega)]
  · have a := hst (3 * i) (by omega)
    have b := hst (3 * i + 1) (by omega)
    have c := hst (3 * i + 2) (by omega)
    rw [Bool.eq_iff_iff]
    unfold unclear
    rw [decide_eq_true_iff, hg _ (by omega), hg _ (by omega), hg _ (by omega), a.2, b.2, c.2]
    constructor
    · intro h2
      cases hH : H.getD i false with
      | true => rfl
      | false =>
        exfalso
        obtain ⟨k1, k2, k3⟩ := h.keep i hi hH
        obtain ⟨c1, _, hc1, _, e1⟩ := hW (3 * i) (by omega)
        obtain ⟨c2, _, hc2, _, e2⟩ := hW (3 * i + 1) (by omega)
        obtain ⟨c3, _, hc3, _, e3⟩ := hW (3 * i + 2) (by omega)
        rcases h2 with h2 | h2 | h2
        · rw [k1] at h2; rw [h2, st63] at e1; omega
        · rw [k2] at h2; rw [h2, st63] at e2; omega
        · rw [k3] at h2; rw [h2, st63] at e3; omega
    · exact h.hit i hi
  · obtain ⟨k1, k2, k3⟩ := h.keep i hi hH
    obtain ⟨a, b, c⟩ := W0_st S hS i hi
    have hx : S.getD i 0 ∈ S := by
      rw [List.getD_eq_getElem?_getD, List.getElem?_eq_getElem hi]
      exact List.getElem_mem hi
    have hb := hS _ hx
    rw [hg _ (by omega), hg _ (by omega), hg _ (by omega), k1, k2, k3, a, b, c]
    unfold symOf
    rw [if_neg (by omega)]
    omega
  · have := h.hit i hi hH
    rw [hg _ (by omega), hg _ (by omega), hg _ (by omega)]
    unfold symOf
    rw [if_pos]
    rcases this with e | e | e
    · left; rw [e, st63]
    · right; left; rw [e, st63]
    · right; right; rw [e, st63]
end Go.Proofs.YtajccgmeminlhaaGreatDoor.Br
end
section
/- Plain words on framed texts. -/
set_option linter.unusedVariables false
set_option linter.unusedSimpArgs false
namespace Go.Proofs.YtajccgmeminlhaaGreatDoor.Br
open Go.RowKit Go.Shelf Go.Proofs.YtajccgmeminlhaaGreatDoorW.PrintWords Go.Proofs.YtajccgmeminlhaaGreatDoor.R

def mkB (l : List UInt8) : ByteArray := ⟨l.toArray⟩
theorem mkB_data (l : List UInt8) : (mkB l).data.toList = l := rfl
theorem mkB_size (l : List UInt8) : (mkB l).size = l.length := rfl
theorem mkB_of (s : ByteArray) : mkB s.data.toList = s := rfl
theorem mkB_append (a b : List UInt8) : mkB a ++ mkB b = mkB (a ++ b) := by
  apply ByteArray.ext
  simp [mkB]
theorem wrap_sub (a b : Nat) (h : b ≤ a) (ha : a ≤ 1000) : wrap64 ((a : Int) - (b : Int)) = ((a - b : Nat) : Int) := by
  unfold wrap64
  omega
theorem cutPrefix_f (l p : List UInt8) : strings_CutPrefix.f (mkB l) (mkB p) = some (if p.length ≤ l.length ∧ l.take p.length = p then (mkB (l.drop p.length), true) else (mkB l, false)) := by
  unfold strings_CutPrefix.f stringslite_CutPrefix.f stringslite_HasPrefix.f
  simp only [mkB_size, Lib.extract_toList, Lib.extract_eq, Lib.toList_data, mkB_data, Int.toNat_natCast, List.drop_zero, Nat.sub_zero]
  by_cases h : p.length ≤ l.length
  · rw [if_pos (show (l.length : Int) ≥ p.length by omega), if_pos (show (0 : Int) ≤ p.length by omega), if_pos (show (p.length : Int) ≤ l.length by omega)]
    simp only [Option.bind_some]
    by_cases h2 : l.take p.length = p
    · rw [if_pos (by simpa using h2), if_pos (show (0 : Int) ≤ p.length by omega), if_pos (show (p.length : Int) ≤ l.length by omega), if_pos ⟨h, h2⟩]
      simp only [Option.bind_some]
      rw [List.take_of_length_le (by simp)]
      rfl
    · rw [if_neg (by simpa using h2), if_neg (fun h3 : p.length ≤ l.length ∧ _ => h2 h3.2)]
      rfl
  · rw [if_neg (show ¬ (l.length : Int) ≥ p.length by omega), if_neg (fun h3 : p.length ≤ l.length ∧ _ => h h3.1)]
    rfl
theorem cutSuffix_f (l p : List UInt8) (hl : l.length ≤ 1000) : strings_CutSuffix.f (mkB l) (mkB p) = some (if p.length ≤ l.length ∧ l.drop (l.length - p.length) = p then (mkB (l.take (l.length - p.length)), true) else (mkB l, false)) := by
  unfold strings_CutSuffix.f stringslite_CutSuffix.f stringslite_HasSuffix.f
  simp only [mkB_size, Lib.extract_toList, Lib.extract_eq, Lib.toList_data, mkB_data]
  by_cases h : p.length ≤ l.length
  · rw [wrap_sub _ _ h hl]
    simp only [Int.toNat_natCast, List.drop_zero, Nat.sub_zero]
    rw [if_pos (show (l.length : Int) ≥ p.length by omega), if_pos (show (0 : Int) ≤ ((l.length - p.length : Nat) : Int) by omega), if_pos (show ((l.length - p.length : Nat) : Int) ≤ l.length by omega)]
    simp only [Option.bind_some]
    rw [List.take_of_length_le (show (l.drop (l.length - p.length)).length ≤ l.length - (l.length - p.length) by simp)]
    by_cases h2 : l.drop (l.length - p.length) = p
    · rw [if_pos (by simpa using h2), if_pos (show (0 : Int) ≤ ((l.length - p.length : Nat) : Int) by omega), if_pos (show ((l.length - p.length : Nat) : Int) ≤ l.length by omega), if_pos ⟨h, h2⟩]
      rfl
    · rw [if_neg (by simpa using h2), if_neg (fun h3 : p.length ≤ l.length ∧ _ => h2 h3.2)]
      rfl
  · rw [if_neg (show ¬ (l.length : Int) ≥ p.length by omega), if_neg (fun h3 : p.length ≤ l.length ∧ _ => h h3.1)]
    rfl
/-- A framed text. -/
def Framed (l : List UInt8) : Prop := ∃ m, l = 65 :: 84 :: (m ++ [70, 68])
theorem inner_yes (m : List UInt8) (hl : m.length ≤ 500) : bars_inner.f (mkB (65 :: 84 :: (m ++ [70, 68]))) = some (mkB m, true) := by
  unfold bars_inner.f
  rw [show (⟨#[65, 84]⟩ : ByteArray) = mkB [65, 84] from rfl, show (⟨#[70, 68]⟩ : ByteArray) = mkB [70, 68] from rfl, cutPrefix_f, if_pos ⟨by simp, by simp⟩]
  simp only [Option.bind_some, List.length_cons, List.length_nil, List.drop_succ_cons, List.drop_zero]
  rw [cutSuffix_f _ _ (by simp; omega), if_pos ⟨by simp, by simp⟩]
  simp
theorem inner_no (l : List UInt8) (hl : l.length ≤ 500) (h : ¬ Framed l) : ∃ t, bars_inner.f (mkB l) = some (t, false) := by
  unfold bars_inner.f
  rw [show (⟨#[65, 84]⟩ : ByteArray) = mkB [65, 84] from rfl, show (⟨#[70, 68]⟩ : ByteArray) = mkB [70, 68] from rfl, cutPrefix_f]
  by_cases h1 : ([65, 84] : List UInt8).length ≤ l.length ∧ l.take ([65, 84] : List UInt8).length = [65, 84]
  · simp only [if_pos h1, Option.bind_some]
    rw [cutSuffix_f _ _ (by simp; omega), if_neg]
    · simp
    · rintro ⟨h2, h3⟩
      apply h
      refine ⟨(l.drop 2).take ((l.drop 2).length - 2), ?_⟩
      have e1 : l = [65, 84] ++ l.drop 2 := by
        have := List.take_append_drop 2 l
        simp only [List.length_cons, List.length_nil] at h1
        rw [h1.2] at this
        exact this.symm
      have e2 : l.drop 2 = (l.drop 2).take ((l.drop 2).length - 2) ++ [70, 68] := by
        have := List.take_append_drop ((l.drop 2).length - 2) (l.drop 2)
        simp only [List.length_cons, List.length_nil] at h3
        rw [h3] at this
        exact this.symm
      rw [e1]
      simp only [List.cons_append, List.nil_append, List.drop_succ_cons, List.drop_zero]
      rw [← e2]
  · simp only [if_neg h1, Option.bind_some]
    rw [cutSuffix_f _ _ (by omega)]
    split <;> simp
theorem turn_mk (l : List UInt8) (h : l.all isL = true) : turnW (mkB l) = mkB ((l.map fb).reverse) := turnW_eq (mkB l) h
theorem turnf_mk (l : List UInt8) (hl : l.length ≤ 200) (h : l.all isL = true) : bars_turn.f (mkB l) = some (mkB ((l.map fb).reverse)) := by
  unfold bars_turn.f
  rw [if_pos ⟨hl, h⟩, turn_mk l h]
theorem checkf_mk (l : List UInt8) (more : Int) (hm : 0 ≤ more) (hl : (l.length : Int) + more ≤ 200) (h : l.all isL = true) : bars_check.f (mkB l) more = some 0 := by
  unfold bars_check.f
  rw [if_pos ⟨by rw [mkB_size]; omega, hm, by omega⟩, check_ok (mkB l) more (by rw [mkB_size]; exact hl) h]
theorem unframe_up (m : List UInt8) (hl : m.length ≤ 196) (h : m.all isL = true) : bars_Unframe.f (mkB (65 :: 84 :: (m ++ [70, 68]))) = some (mkB m, false, 0) := by
  unfold bars_Unframe.f
  rw [checkf_mk _ 0 (by omega) (by simp; omega) (by simp [h]; decide)]
  simp only [Option.bind_some, if_true]
  rw [inner_yes m (by omega)]
  rfl
theorem unframe_over (l m : List UInt8) (hl : l.length ≤ 200) (h : l.all isL = true) (h1 : ¬ Framed l) (h2 : (l.map fb).reverse = 65 :: 84 :: (m ++ [70, 68])) : bars_Unframe.f (mkB l) = some (mkB m, true, 0) := by
  unfold bars_Unframe.f
  obtain ⟨t, ht⟩ := inner_no l (by omega) h1
  have hm : m.length ≤ 200 := by
    have := congrArg List.length h2
    simp at this
    omega
  rw [checkf_mk l 0 (by omega) (by omega) h]
  simp only [Option.bind_some, if_true]
  rw [ht]
  simp only [Option.bind_some]
  rw [if_neg (by simp), turnf_mk l hl h, h2]
  simp only [Option.bind_some]
  rw [inner_yes m (by omega)]
  rfl
theorem unframe_none (l : List UInt8) (hl : l.length ≤ 200) (h : l.all isL = true) (h1 : ¬ Framed l) (h2 : ¬ Framed ((l.map fb).reverse)) : bars_Unframe.f (mkB l) = some (⟨#[]⟩, false, 200) := by
  unfold bars_Unframe.f
  obtain ⟨t, ht⟩ := inner_no l (by omega) h1
  obtain ⟨t2, ht2⟩ := inner_no ((l.map fb).reverse) (by simp; omega) h2
  rw [checkf_mk l 0 (by omega) (by omega) h]
  simp only [Option.bind_some, if_true]
  rw [ht]
  simp only [Option.bind_some]
  rw [if_neg (by simp), turnf_mk l hl h]
  simp only [Option.bind_some]
  rw [ht2]
  rfl
theorem framed_at {l : List UInt8} (h : Framed l) : 4 ≤ l.length ∧ l.getD 0 0 = 65 ∧ l.getD 1 0 = 84 ∧ l.getD (l.length - 2) 0 = 70 ∧ l.getD (l.length - 1) 0 = 68 := by
  obtain ⟨m, rfl⟩ := h
  have e1 : (65 :: 84 :: (m ++ [70, 68]) : List UInt8).length - 2 = m.length + 2 := by simp
  have e2 : (65 :: 84 :: (m ++ [70, 68]) : List UInt8).length - 1 = m.length + 3 := by simp
  refine ⟨by simp, rfl, rfl, ?_, ?_⟩
  · rw [e1]; simp [List.getD_eq_getElem?_getD]
  · rw [e2]; simp [List.getD_eq_getElem?_getD]
theorem fb_inv {b c : UInt8} (hb : isL b = true) (h : fb b = c) : b = fb c := by
  rw [← h, fb_fb hb]
theorem getD_isL {l : List UInt8} (h : l.all isL = true) (i : Nat) (hi : i < l.length) : isL (l.getD i 0) = true := by
  rw [List.all_eq_true] at h
  apply h
  rw [List.getD_eq_getElem?_getD, List.getElem?_eq_getElem hi]
  exact List.getElem_mem hi
theorem rev_at (l : List UInt8) (i : Nat) (hi : i < l.length) : ((l.map fb).reverse).getD i 0 = fb (l.getD (l.length - 1 - i) 0) := by
  have h1 : i < ((l.map fb).reverse).length := by simpa using hi
  rw [List.getD_eq_getElem?_getD, List.getElem?_eq_getElem h1, List.getD_eq_getElem?_getD, List.getElem?_eq_getElem (show l.length - 1 - i < l.length by omega)]
  simp [List.getElem_reverse]
theorem framedR_at {l : List UInt8} (hL : l.all isL = true) (h : Framed ((l.map fb).reverse)) : 4 ≤ l.length ∧ l.getD 0 0 = 65 ∧ l.getD 1 0 = 70 ∧ l.getD (l.length - 2) 0 = 84 ∧ l.getD (l.length - 1) 0 = 68 := by
  obtain ⟨h0, h1, h2, h3, h4⟩ := framed_at h
  have hn : ((l.map fb).reverse).length = l.length := by simp
  rw [hn] at h0 h3 h4
  rw [rev_at l _ (by omega)] at h1 h2 h3 h4
  have g1 := fb_inv (getD_isL hL _ (by omega)) h1
  have g2 := fb_inv (getD_isL hL _ (by omega)) h2
  have g3 := fb_inv (getD_isL hL _ (by omega)) h3
  have g4 := fb_inv (getD_isL hL _ (by omega)) h4
  rw [show l.length - 1 - (l.length - 2) = 1 by omega] at g3
  rw [show l.length - 1 - (l.length - 1) = 0 by omega] at g4
  rw [show l.length - 1 - 1 = l.length - 2 by omega] at g2
  rw [show l.length - 1 - 0 = l.length - 1 by omega] at g1
  exact ⟨h0, g4, g3, g2, g1⟩
theorem frame_mk (m : List UInt8) (hl : m.length ≤ 196) (h : m.all isL = true) : bars_Frame.f (mkB m) = some (mkB (65 :: 84 :: (m ++ [70, 68])), 0) := by
  unfold bars_Frame.f frameW
  rw [if_pos (by rw [mkB_size]; omega), if_pos (check_ok (mkB m) 4 (by rw [mkB_size]; omega) (show lettersAll (mkB m) = true from h))]
  congr 2
theorem framed_letters (m : List UInt8) (h : m.all isL = true) : (65 :: 84 :: (m ++ [70, 68]) : List UInt8).all isL = true := by
  simp [h]; decide
theorem turned_not (m : List UInt8) : ¬ Framed (((65 :: 84 :: (m ++ [70, 68]) : List UInt8).map fb).reverse) := by
  intro h
  obtain ⟨_, _, h1, _⟩ := framed_at h
  rw [rev_at _ _ (by simp)] at h1
  have e1 : (65 :: 84 :: (m ++ [70, 68]) : List UInt8).length - 1 - 1 = m.length + 2 := by simp
  rw [e1] at h1
  have : (65 :: 84 :: (m ++ [70, 68]) : List UInt8).getD (m.length + 2) 0 = 70 := by simp [List.getD_eq_getElem?_getD]
  rw [this] at h1
  exact absurd h1 (by decide)
theorem fb_back (l : List UInt8) (h : l.all isL = true) : ((((l.map fb).reverse).map fb).reverse) = l := by
  rw [List.map_reverse, List.reverse_reverse, List.map_map]
  conv => rhs; rw [← List.map_id l]
  apply List.map_congr_left
  intro b hb
  rw [List.all_eq_true] at h
  exact fb_fb (h b hb)
theorem fb_all (l : List UInt8) (h : l.all isL = true) : ((l.map fb).reverse).all isL = true := by
  rw [List.all_eq_true] at h ⊢
  intro b hb
  rw [List.mem_reverse, List.mem_map] at hb
  obtain ⟨c, hc, rfl⟩ := hb
  exact fb_isL (h c hc)
theorem strOf_set (F : List UInt8) (p : Nat) (c : UInt8) : strOfNums ((bytesOf (mkB F)).set p (c.toNat : Int)) = mkB (F.set p c) := by
  apply ByteArray.ext
  have h := strOfNums_data ((bytesOf (mkB F)).set p (c.toNat : Int))
  apply Array.toList_inj.1
  rw [h]
  show _ = F.set p c
  unfold bytesOf
  rw [mkB_data, List.map_set, List.map_map]
  have : ∀ b : UInt8, UInt8.ofNat ((b.toNat : Int).toNat) = b := fun b => by simp
  rw [this]
  congr 1
  conv => rhs; rw [← List.map_id F]
  apply List.map_congr_left
  intro b _
  exact this b
theorem all_set (F : List UInt8) (p : Nat) (c : UInt8) (h : F.all isL = true) (hc : isL c = true) : (F.set p c).all isL = true := by
  rw [List.all_eq_true] at h ⊢
  intro b hb
  rcases List.mem_or_eq_of_mem_set hb with h2 | h2
  · exact h b h2
  · rw [h2]; exact hc
theorem bent_none (m : List UInt8) (hl : m.length ≤ 190) (h : m.all isL = true) (p : Nat) (c : UInt8) (hc : isL c = true) (hp : p = 0 ∨ p = 1 ∨ p = m.length + 2 ∨ p = m.length + 3) (hne : (65 :: 84 :: (m ++ [70, 68]) : List UInt8).getD p 0 ≠ c) :
    bars_Unframe.f (strOfNums ((bytesOf (mkB (65 :: 84 :: (m ++ [70, 68])))).set p (c.toNat : Int))) = some (⟨#[]⟩, false, 200) := by
  rw [strOf_set]
  have hF := framed_letters m h
  obtain ⟨_, f0, f1, f2, f3⟩ := framed_at (show Framed (65 :: 84 :: (m ++ [70, 68])) from ⟨m, rfl⟩)
  have hn : (65 :: 84 :: (m ++ [70, 68]) : List UInt8).length = m.length + 4 := by simp
  rw [hn, show m.length + 4 - 2 = m.length + 2 by omega] at f2
  rw [hn, show m.length + 4 - 1 = m.length + 3 by omega] at f3
  generalize (65 :: 84 :: (m ++ [70, 68]) : List UInt8) = F at *
  have hs : (F.set p c).length = m.length + 4 := by rw [List.length_set, hn]
  have hA := all_set F p c hF hc
  apply unframe_none _ (by omega) hA
  · intro hfr
    obtain ⟨_, g0, g1, g2, g3⟩ := framed_at hfr
    rw [hs, show m.length + 4 - 2 = m.length + 2 by omega, getD_set] at g2
    rw [hs, show m.length + 4 - 1 = m.length + 3 by omega, getD_set] at g3
    rw [getD_set] at g0 g1
    rcases hp with rfl | rfl | rfl | rfl
    · rw [if_pos ⟨rfl, by omega⟩] at g0; exact hne (f0.trans g0.symm)
    · rw [if_pos ⟨rfl, by omega⟩] at g1; exact hne (f1.trans g1.symm)
    · rw [if_pos ⟨rfl, by omega⟩] at g2; exact hne (f2.trans g2.symm)
    · rw [if_pos ⟨rfl, by omega⟩] at g3; exact hne (f3.trans g3.symm)
  · intro hfr
    obtain ⟨_, g0, g1, g2, g3⟩ := framedR_at hA hfr
    rw [hs, show m.length + 4 - 2 = m.length + 2 by omega, getD_set] at g2
    rw [getD_set] at g1
    by_cases e1 : p = 1
    · rw [if_neg (by omega), f2] at g2; exact absurd g2 (by decide)
    · rw [if_neg (by omega), f1] at g1; exact absurd g1 (by decide)
theorem lb_letter (x : Int) (h0 : 0 ≤ x) (h5 : x < 5) : isL (lb x) = true := by
  obtain ⟨n, rfl⟩ := Int.eq_ofNat_of_zero_le h0
  have : n < 5 := by omega
  match n, this with
  | 0, _ => decide
  | 1, _ => decide
  | 2, _ => decide
  | 3, _ => decide
  | 4, _ => decide
theorem bytes_at (F : List UInt8) (p : Nat) (hp : p < F.length) : (bytesOf (mkB F)).getD p 0 = ((F.getD p 0).toNat : Int) := by
  unfold bytesOf
  rw [mkB_data, List.getD_eq_getElem?_getD, List.getD_eq_getElem?_getD, List.getElem?_map, List.getElem?_eq_getElem hp]
  rfl
end Go.Proofs.YtajccgmeminlhaaGreatDoor.Br
end
