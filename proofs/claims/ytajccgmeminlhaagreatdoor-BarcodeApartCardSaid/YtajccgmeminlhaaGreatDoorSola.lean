/- Sola, of the parts SolA, Row, SolB, Mat: each part tells what it proves. -/
import Derived.Test.YtajccgmeminlhaaGreatDoorField
section
/- solomon.mul, div, power, word: walks. -/
set_option linter.unusedVariables false
set_option linter.unusedSimpArgs false
namespace Go.Proofs.YtajccgmeminlhaaGreatDoor
open Go.RowKit Go.Shelf Go.Proofs.YtajccgmeminlhaaGreatDoorW.PrintWords Go.Proofs.YtajccgmeminlhaaGreatDoor.Q Go.Proofs.YtajccgmeminlhaaGreatDoor.Gf

set_option maxHeartbeats 2000000 in
set_option maxRecDepth 100000 in
theorem smul_any (a b : G) (w : World) (hp : PW w) :
    Calls Tryz.prog 112 #[.int .u8 a.n, .int .u8 b.n] w fun e w' => e = .returned (.int .u8 ((a * b).n : Nat)) ∧ Below w.heap.size w w' := by
  have HM := Aside0.mk (Mul_any a b w hp)
  go_enter Tryz.func112, Tryz.ntmps112
  go_wp2_with fail
  refine HM.out.mono ?_
  rintro e w1 ⟨rfl, hb⟩
  have HB := Aside0.mk hb
  clear hb
  go_wp2
  go_ret
  exact ⟨rfl, HB.out⟩
theorem divG (a b : G) : a / b = a * b⁻¹ := rfl
set_option maxHeartbeats 2000000 in
set_option maxRecDepth 100000 in
theorem sdiv_any (a b : G) (w : World) (hp : PW w) (hb0 : b.n ≠ 0) :
    Calls Tryz.prog 111 #[.int .u8 a.n, .int .u8 b.n] w fun e w' => e = .returned (.int .u8 ((a / b).n : Nat)) ∧ Below w.heap.size w w' := by
  have HI := Aside0.mk (Inv_any b w hp hb0)
  have HP := Aside0.mk hp
  rw [divG]
  go_enter Tryz.func111, Tryz.ntmps111
  go_wp2_with fail
  refine HI.out.mono ?_
  rintro e w1 ⟨rfl, hd⟩
  have HD := Aside0.mk hd
  clear hd
  go_wp2_with fail
  refine (smul_any a b⁻¹ w1 (HP.out.drawn HD.out)).mono ?_
  rintro e w2 ⟨rfl, hb⟩
  have HB := Aside0.mk (HD.out.below.trans (hb.mono HD.out.below.size))
  clear hb
  go_wp2
  go_ret
  exact ⟨rfl, HB.out⟩
set_option maxHeartbeats 2000000 in
set_option maxRecDepth 100000 in
theorem spower_any (a : G) (n : Nat) (w : World) (hp : PW w) (h : a.n ≠ 0) (hn : n ≤ 1000) :
    Calls Tryz.prog 110 #[.int .u8 a.n, .int .i64 (n : Int)] w fun e w' => e = .returned (.int .u8 ((a ^ n).n : Nat)) ∧ Drawn0 w w' := by
  have HI := Aside0.mk (Pow_any a n w hp h hn)
  go_enter Tryz.func110, Tryz.ntmps110
  go_wp2_with fail
  refine HI.out.mono ?_
  rintro e w1 ⟨rfl, hd⟩
  have HD := Aside0.mk hd
  clear hd
  go_wp2
  go_ret
  exact ⟨rfl, HD.out⟩
theorem spower_quiet (a : G) (k : Nat) (w : World) (hp : PW w) (h : a.n ≠ 0) (hk : k ≤ 1000) (n : Nat) :
    Calls Tryz.prog 110 #[.int .u8 a.n, .int .i64 (k : Int)] (w.drewN n) fun e w'' => e = .returned (.int .u8 ((a ^ k).n : Nat)) ∧ ∃ m, w'' = w.drewN m := by
  refine (spower_any a k (w.drewN n) (hp.drawn ⟨n, rfl⟩) h hk).mono ?_
  rintro e w' ⟨rfl, ⟨m, rfl⟩⟩
  exact ⟨rfl, n + m, World.drewN_drewN ..⟩
/-- Whether a list is a word. -/
def wordW (l : List Int) : Bool := decide (4 < l.length) && decide (l.length ≤ 63) && !(l.any big)
set_option maxHeartbeats 2000000 in
set_option maxRecDepth 100000 in
theorem word_any (A : Option Addr) (c : Nat) (l : List Int) (w : World) (hr : Kd.C (Kd.int .u8) w A l.length l) (hc : l.length ≤ c) (hn : l.length ≤ 1000000) :
    Calls Tryz.prog 75 #[.slice A l.length c] w fun e w' => e = .returned (.bool (wordW l)) ∧ w' = w := by
  have HC := Aside0.mk (containsFunc2_any A c l w hr hc (by omega))
  clear hr
  unfold wordW
  by_cases h1 : 4 < l.length
  · by_cases h2 : l.length ≤ 63
    · rw [decide_eq_true h1, decide_eq_true h2]
      go_enter Tryz.func75, Tryz.ntmps75
      go_wp2_with fail
      refine HC.out.mono ?_
      rintro e w1 ⟨rfl, rfl⟩
      go_wp2
      go_ret
      exact ⟨by simp, rfl⟩
    · rw [decide_eq_true h1, decide_eq_false h2]
      go_enter Tryz.func75, Tryz.ntmps75
      go_wp2_with fail
      go_ret
      exact ⟨by simp, rfl⟩
  · rw [decide_eq_false h1]
    go_enter Tryz.func75, Tryz.ntmps75
    go_wp2_with fail
    go_ret
    exact ⟨by simp, rfl⟩
end Go.Proofs.YtajccgmeminlhaaGreatDoor
end
section
/- Rows of cells in a block that the call itself writes into. -/
set_option linter.unusedVariables false
set_option linter.unusedSimpArgs false
namespace Go.Proofs.YtajccgmeminlhaaGreatDoor
open Go.RowKit Go.Shelf Go.Proofs.YtajccgmeminlhaaGreatDoorW.PrintWords

/-- A block whose first cells hold a list, none of them frozen. -/
structure CRow {α : Type} (enc : α → Value) (d : α) (W : World) (g : Nat) (L : List α) : Prop where
  lt : g < W.heap.size
  cell : ∀ j, j < L.length → W.cell? ⟨g, j, none⟩ = some (enc (L.getD j d))
  free : ∀ j, j < L.length → W.frozen? ⟨g, j, none⟩ = false
section
variable {α : Type} {enc : α → Value} {d : α} {W W' : World} {g : Nat} {L : List α}
theorem CRow.below (h : CRow enc d W g L) (hb : Below W.heap.size W W') : CRow enc d W' g L :=
  ⟨Nat.lt_of_lt_of_le h.lt hb.size, fun j hj => (hb.cell (p := ⟨g, j, none⟩) h.lt).trans (h.cell j hj), fun j hj => (hb.frozen (p := ⟨g, j, none⟩) h.lt).trans (h.free j hj)⟩
theorem CRow.set (h : CRow enc d W g L) (i : Nat) (hi : i < L.length) (x : α) : CRow enc d (W.setCell ⟨g, i, none⟩ (enc x)) g (L.set i x) := by
  refine ⟨by simpa using h.lt, fun j hj => ?_, fun j hj => ?_⟩
  · rw [List.length_set] at hj
    by_cases e : i = j
    · subst e
      rw [World.cell?_setCell_same' _ _ _ (by rw [h.cell i hi]; rfl)]
      simp [List.getD_eq_getElem?_getD, List.getElem?_set, hi]
    · rw [World.cell?_setCell_other _ _ _ _ (by intro h2; cases h2; exact e rfl), h.cell j hj]
      simp [List.getD_eq_getElem?_getD, List.getElem?_set, e]
  · rw [World.frozen?_setCell]
    exact h.free j (by simpa using hj)
theorem CRow.other (h : CRow enc d W g L) (b : Nat) (i : Nat) (v : Value) (hne : b ≠ g) : CRow enc d (W.setCell ⟨b, i, none⟩ v) g L := by
  refine ⟨by simpa using h.lt, fun j hj => ?_, fun j hj => ?_⟩
  · rw [World.cell?_setCell_other _ _ _ _ (by intro h2; cases h2; exact hne rfl), h.cell j hj]
  · rw [World.frozen?_setCell]
    exact h.free j hj
theorem CRow.reads {k : IntKind} {L : List Int} (h : CRow (Value.int k) 0 W g L) (hm : L.length ≤ 9223372036854775807) : Kd.C (Kd.int k) W (some ⟨g, 0, none⟩) L.length L :=
  Kd.C_of_reads (d := (0 : Int)) (h1 := fun _ => rfl) ⟨rfl, hm, fun _ => ⟨_, rfl, fun j hj => by rw [add_plain]; exact h.cell j hj⟩⟩
end
/-- What 'make' leaves, elements of one cell. -/
theorem CRow.made {α : Type} (enc : α → Value) (d : α) (w : World) (e : TypeId) (n : Nat) : CRow enc d (w.alloc (.cells (madeCells #[enc d] n) e)) w.heap.size (List.replicate n d) := by
  have hb := heap_alloc_new w (.cells (madeCells #[enc d] n) e)
  refine ⟨by simp, fun j hj => ?_, fun j hj => ?_⟩
  · have hjn : j < n := by simpa using hj
    have h1 : (List.replicate n d).getD j d = d := by simp [List.getD_eq_getElem?_getD, List.getElem?_replicate, hjn]
    rw [h1, World.cell?, hb]
    simp [madeCells, hjn, Nat.mod_one]
  · unfold World.frozen?
    rw [hb]
    simp
theorem CRow.belowB {α : Type} {enc : α → Value} {d : α} {W W' : World} {g B : Nat} {L : List α} (h : CRow enc d W g L) (hb : Below B W W') (hg : g < B) : CRow enc d W' g L :=
  ⟨Nat.lt_of_lt_of_le h.lt hb.size, fun j hj => (hb.cell (p := ⟨g, j, none⟩) hg).trans (h.cell j hj), fun j hj => (hb.frozen (p := ⟨g, j, none⟩) hg).trans (h.free j hj)⟩
theorem CRow.lit (w : World) (e : TypeId) (L : List Value) : CRow id undef (w.alloc (.cells L.toArray e)) w.heap.size L := by
  have hb := heap_alloc_new w (.cells L.toArray e)
  refine ⟨by simp, fun j hj => ?_, fun j hj => ?_⟩
  · rw [World.cell?, hb]
    simp [List.getD_eq_getElem?_getD, List.getElem?_eq_getElem hj]
  · unfold World.frozen?
    rw [hb]
    simp
theorem CRow.lit' {α : Type} (enc : α → Value) (d : α) (w : World) (e : TypeId) (L : List α) (cs : Array Value) (hcs : (L.map enc).toArray = cs) : CRow enc d (w.alloc (.cells cs e)) w.heap.size L := by
  subst hcs
  have hb := heap_alloc_new w (.cells (L.map enc).toArray e)
  refine ⟨by simp, fun j hj => ?_, fun j hj => ?_⟩
  · rw [World.cell?, hb]
    simp [List.getD_eq_getElem?_getD, List.getElem?_eq_getElem hj]
  · unfold World.frozen?
    rw [hb]
    simp
theorem CRow.drew {α : Type} {enc : α → Value} {d : α} {W : World} {g : Nat} {L : List α} (h : CRow enc d W g L) : CRow enc d W.drew g L := h.below (Below.refl _ _).drew
theorem own_form {w : World} {base : Nat} {e : TypeId} {n : Nat} {v : Value} {xs : List Value} (h : w.ownsRow base e 1 v n xs) : ∃ A c, v = .slice A n c := by
  rcases h.2 with ⟨rfl, rfl⟩ | ⟨g, cap, cur, rfl, _⟩
  · exact ⟨none, 0, rfl⟩
  · exact ⟨_, cap, rfl⟩
theorem own_set {w : World} {base : Nat} {e : TypeId} {n : Nat} {v : Value} {xs : List Value} (h : w.ownsRow base e 1 v n xs) (g i : Nat) (x : Value) (hg : g < base) : (w.setCell ⟨g, i, none⟩ x).ownsRow base e 1 v n xs := by
  have hk : w.grownBy (w.setCell ⟨g, i, none⟩ x) (some g) := by
    refine ⟨rfl, rfl, rfl, by simp, fun k _ hne => ?_⟩
    exact heap_setCell_other _ _ _ _ (by rintro rfl; exact hne rfl)
  refine own_other h hk ?_
  cases hv : v.ownBlock with
  | none => exact .inl rfl
  | some k =>
    right
    intro h2
    have := h.lt k hv
    cases h2
    omega

end Go.Proofs.YtajccgmeminlhaaGreatDoor
end
section
/- slices.Reverse in plain words; solomon.syndromes: walk. -/
set_option linter.unusedVariables false
set_option linter.unusedSimpArgs false
namespace Go.Proofs.YtajccgmeminlhaaGreatDoor
open Go.RowKit Go.Shelf Go.Proofs.YtajccgmeminlhaaGreatDoorW.PrintWords Go.Proofs.YtajccgmeminlhaaGreatDoor.Q Go.Proofs.YtajccgmeminlhaaGreatDoor.Gf

theorem getD_set {α : Type} (l : List α) (i j : Nat) (x d : α) : (l.set i x).getD j d = if i = j ∧ j < l.length then x else l.getD j d := by
  simp only [List.getD_eq_getElem?_getD, List.getElem?_set]
  by_cases h : i = j
  · subst h
    by_cases h2 : i < l.length
    · simp [h2]
    · simp [h2, List.getElem?_eq_none (Nat.le_of_not_lt h2)]
  · simp [h]
theorem ext_getD {a b : List Int} (hl : a.length = b.length) (h : ∀ t, t < a.length → a.getD t 0 = b.getD t 0) : a = b := by
  apply List.ext_getElem hl
  intro i h1 h2
  have := h i h1
  rwa [List.getD_eq_getElem?_getD, List.getElem?_eq_getElem h1, List.getD_eq_getElem?_getD, List.getElem?_eq_getElem h2] at this
theorem rev_getD (l : List Int) (t : Nat) (h : t < l.length) : l.reverse.getD t 0 = l.getD (l.length - 1 - t) 0 := by
  rw [List.getD_eq_getElem?_getD, List.getElem?_eq_getElem (by simpa using h), List.getElem_reverse, List.getD_eq_getElem?_getD, List.getElem?_eq_getElem (show l.length - 1 - t < l.length by omega)]
theorem rev_l0 (o : List Int) (hn : o.length ≤ 1000) : ∀ (d a k : Nat) (cur : List Int), cur.length = o.length → (∀ t, t < o.length → cur.getD t 0 = if t < a ∨ o.length ≤ t + a then o.getD (o.length - 1 - t) 0 else o.getD t 0) → a ≤ o.length → o.length ≤ d + a → d < k → slices_Reverse_uint8_uint8.l0 k cur (a : Int) ((o.length : Int) - 1 - a) = some o.reverse := by
  intro d
  induction d with
  | zero =>
    intro a k cur hl hc ha hd hk
    obtain ⟨k, rfl⟩ : ∃ k', k = k' + 1 := ⟨k - 1, by omega⟩
    rw [slices_Reverse_uint8_uint8.l0, if_neg (by omega)]
    congr 1
    refine ext_getD (by simpa using hl) fun t ht => ?_
    rw [hc t (by omega), if_pos (by omega), rev_getD o t (by omega)]
  | succ d ih =>
    intro a k cur hl hc ha hd hk
    obtain ⟨k, rfl⟩ : ∃ k', k = k' + 1 := ⟨k - 1, by omega⟩
    by_cases h : (a : Int) < (o.length : Int) - 1 - a
    · have e1 : wrap64 ((a : Int) + 1) = ((a + 1 : Nat) : Int) := by unfold wrap64; omega
      have e2 : wrap64 ((o.length : Int) - 1 - a - 1) = (o.length : Int) - 1 - ((a + 1 : Nat) : Int) := by unfold wrap64; omega
      have e3 : ((o.length : Int) - 1 - a).toNat = o.length - 1 - a := by omega
      rw [slices_Reverse_uint8_uint8.l0, if_pos h, if_pos (by omega), if_pos (by omega), if_pos (by omega), if_pos (by omega), e1, e2]
      refine ih (a + 1) k _ (by simpa using hl) (fun t ht => ?_) (by omega) (by omega) (by omega)
      unfold rd
      rw [Int.toNat_natCast, e3, getD_set, getD_set, List.length_set, hl, hc _ ht, hc a (by omega), hc (o.length - 1 - a) (by omega)]
      by_cases c1 : o.length - 1 - a = t
      · rw [if_pos ⟨c1, ht⟩, if_neg (by omega), if_pos (by omega)]
        congr 1
        omega
      · by_cases c2 : a = t
        · rw [if_neg (by omega), if_pos ⟨c2, ht⟩, if_neg (by omega), if_pos (by omega)]
          congr 1
          omega
        · rw [if_neg (by omega), if_neg (by omega)]
          by_cases c3 : t < a ∨ o.length ≤ t + a
          · rw [if_pos c3, if_pos (by omega)]
          · rw [if_neg c3, if_neg (by omega)]
    · rw [slices_Reverse_uint8_uint8.l0, if_neg h]
      congr 1
      refine ext_getD (by simpa using hl) fun t ht => ?_
      rw [hc t (by omega), rev_getD o t (by omega)]
      split
      · rfl
      · congr 1
        omega
theorem rev_f (l : List Int) (hn : l.length ≤ 1000) : slices_Reverse_uint8_uint8.f 1001 l = some l.reverse := by
  unfold slices_Reverse_uint8_uint8.f
  have e : wrap64 ((l.length : Int) - 1) = (l.length : Int) - 1 - ((0 : Nat) : Int) := by unfold wrap64; omega
  rw [e]
  exact rev_l0 l hn l.length 0 1001 l rfl (fun t ht => by rw [if_neg (by omega)]) (by omega) (by omega) (by omega)
def g2 : G := ⟨2, by omega⟩
theorem pow2_any (k : Nat) (w : World) (hp : PW w) (hk : k ≤ 1000) :
    Calls Tryz.prog 110 #[.int .u8 2, .int .i64 (k : Int)] w fun e w' => e = .returned (.int .u8 ((g2 ^ k).n : Nat)) ∧ Drawn0 w w' :=
  spower_any g2 k w hp (by decide) hk
/-- The syndromes of a word. -/
def syn (l : List G) (i : Nat) : G := horner (g2 ^ (i + 1)) l.reverse
theorem ns_reverse (l : List G) : (ns l).reverse = ns l.reverse := by unfold ns; rw [List.map_reverse]
def synV (l : List G) : Value := .agg #[.int .u8 (syn l 0).n, .int .u8 (syn l 1).n, .int .u8 (syn l 2).n, .int .u8 (syn l 3).n]
/-- The first syndromes, zeros behind. -/
def sl (l : List G) (j : Nat) : List Int := (List.range 4).map fun i => if i < j then ((syn l i).n : Int) else 0
theorem sl_set (l : List G) (j : Nat) (h : j < 4) : (sl l j).set j ((syn l j).n : Int) = sl l (j + 1) := by
  match j, h with
  | 0, _ => rfl
  | 1, _ => rfl
  | 2, _ => rfl
  | 3, _ => rfl
set_option maxHeartbeats 4000000 in
set_option maxRecDepth 100000 in
theorem syndromes_any (A : Option Addr) (c : Nat) (l : List G) (w : World) (hp : PW w) (hr : Kd.C (Kd.int .u8) w A l.length (ns l)) (hc : l.length ≤ c) (hn : l.length ≤ 63) :
    Calls Tryz.prog 109 #[.slice A l.length c] w fun e w' => e = .returned (synV l) ∧ Below w.heap.size w w' := by
  obtain ⟨w1, hw1⟩ : ∃ w1, w.alloc (.cells #[.int .u8 0, .int .u8 0, .int .u8 0, .int .u8 0] 179) = w1 := ⟨_, rfl⟩
  have hb1 : Below w.heap.size w w1 := by rw [← hw1]; exact (Below.refl _ w).alloc (Nat.le_refl _) _
  have hg1 : CRow (Value.int .u8) 0 w1 w.heap.size [0, 0, 0, 0] := by rw [← hw1]; exact CRow.lit' _ _ w _ _ _ rfl
  have hz1 : w1.heap.size = w.heap.size + 1 := by rw [← hw1]; simp
  have HGB1 := Aside0.mk (show w1.heap[w.heap.size]? = some (.cells #[.int .u8 0, .int .u8 0, .int .u8 0, .int .u8 0] 179 (0, 0)) by rw [← hw1]; exact heap_alloc_new w _)
  have hcl := clone_u8 A c (ns l) w1 (by rw [ns_length]; exact Kd.C_below hr hb1) (by rw [ns_length]; exact hc) (by rw [ns_length]; omega)
  rw [ns_length] at hcl
  have HCL := Aside0.mk hcl
  have HB1 := Aside0.mk hb1
  have HP := Aside0.mk (hp.below hb1)
  have HG1 := Aside0.mk hg1
  have HZ1 := Aside0.mk hz1
  have HRV := Aside0.mk (rev_f (ns l) (by rw [ns_length]; omega))
  clear hcl hb1 hr hp hg1 hz1
  go_enter Tryz.func109, Tryz.ntmps109
  go_wp2_with (first | rw [hw1])
  refine HCL.out.mono ?_
  rintro e w2 ⟨v, rfl, ho, hb2⟩
  have HO2 := Aside0.mk ho.toR
  have HB2 := Aside0.mk hb2
  clear ho hb2 HCL hw1
  obtain ⟨g, hg⟩ : ∃ g, w.heap.size = g := ⟨_, rfl⟩
  rw [hg] at HG1 HGB1 ⊢
  have HGG := Aside0.mk hg
  clear hg
  go_wp2_with fail
  refine (slices_Reverse_uint8_uint8.calls 1001 (fun _ => True) v (ns l) _ w1 w2 HB2.out HO2.out HRV.out).mono ?_
  rintro e w3 ⟨rfl, hR3, hB3, -⟩
  obtain ⟨AR, cR, rfl, hcR, hrR⟩ := Kd.R_reads hR3
  rw [ns_reverse, ns_length, List.length_reverse] at hrR hcR ⊢
  have HP3 := Aside0.mk (HP.out.below hB3)
  have HG3 := Aside0.mk (HG1.out.below hB3)
  have HR3 := Aside0.mk hrR
  have HGB3 := Aside0.mk ((hB3.block g (by rw [← HGG.out, HZ1.out]; omega)).trans HGB1.out)
  have hB3b := HB1.out.trans (hB3.mono HB1.out.size)
  have HLT3 := Aside0.mk (show g < w3.heap.size by rw [← HGG.out]; have := hB3.size; have := HZ1.out; omega)
  have HB3 := Aside0.mk hB3b
  have HCR := Aside0.mk hcR
  obtain ⟨w4, hw4⟩ : ∃ w4, w3.alloc (.cells #[.int .u8 0, .int .u8 0, .int .u8 0, .int .u8 0] 179) = w4 := ⟨_, rfl⟩
  have hb4 : Below w3.heap.size w3 w4 := by rw [← hw4]; exact (Below.refl _ w3).alloc (Nat.le_refl _) _
  have hg4 : CRow (Value.int .u8) 0 w4 w3.heap.size [0, 0, 0, 0] := by rw [← hw4]; exact CRow.lit' _ _ w3 _ _ _ rfl
  have HH := Aside0.mk hg4
  have HB4 := Aside0.mk hb4
  clear hR3 hB3 hrR hb4 hg4 hB3b HG1 HO2 HB2 HP HZ1 HRV hcR
  go_wp2_with (first | rw [hw4])
  obtain ⟨h, hh⟩ : ∃ h, w3.heap.size = h := ⟨_, rfl⟩
  rw [hh] at HB4 HH HLT3 ⊢
  go_loopw [10] (fun i wr => ∃ j : Nat, j ≤ 4 ∧ i = .int .i64 j ∧ CRow (Value.int .u8) 0 wr h (sl l j) ∧ Below h w3 wr) (fun i _ => 4 - (intOf i).toNat)
  case atStart => exact ⟨0, Nat.zero_le _, rfl, HH.out, HB4.out⟩
  case round =>
    obtain ⟨j, hj, rfl, hH, hB⟩ := hrel
    have HHr := Aside0.mk hH
    have HBr := Aside0.mk hB
    have hB' : Below w3.heap.size w3 wr := by rw [hh]; exact hB
    have HPr := Aside0.mk (HP3.out.below hB')
    have HRr := Aside0.mk (Kd.C_below HR3.out hB')
    have HGr := Aside0.mk (HG3.out.below hB')
    have HGBr := Aside0.mk ((hB'.block g (by rw [hh]; exact HLT3.out)).trans HGB3.out)
    have HWr := Aside0.mk (HB3.out.trans (hB'.mono HB3.out.size))
    clear hH hB hB' HH HB4
    by_cases hp : j < 4
    · go_wp2_with fail
      refine (show Calls Tryz.prog 110 #[.int .u8 2, .int .i64 ((j : Int) + 1)] wr _ from pow2_any (j + 1) wr HPr.out (by omega)).mono ?_
      rintro e w5 ⟨rfl, hd⟩
      have HH5 := Aside0.mk (HHr.out.below hd.below)
      have hs5 : h ≤ wr.heap.size := by rw [← hh]; exact HBr.out.size
      have HB5 := Aside0.mk (HBr.out.trans (hd.below.mono hs5))
      have HEV := Aside0.mk (Eval_any AR cR l.reverse (g2 ^ (j + 1)) w5 (HPr.out.drawn hd) (by rw [List.length_reverse]; exact Kd.C_below HRr.out hd.below) (by rw [List.length_reverse]; exact HCR.out) (by rw [List.length_reverse]; omega))
      rw [List.length_reverse] at HEV
      have HS5 := Aside0.mk (Nat.le_trans hs5 hd.below.size)
      clear hd hs5
      go_wp2_with fail
      refine HEV.out.mono ?_
      rintro e w6 ⟨rfl, hb6⟩
      have HB6 := Aside0.mk (HB5.out.trans (hb6.mono HS5.out))
      have HH6 := HH5.out.below hb6
      have hlen : (sl l j).length = 4 := by simp [sl]
      have hcell := HH6.cell j (by omega)
      have hfree := HH6.free j (by omega)
      have hset := HH6.set j (by omega) ((syn l j).n : Int)
      rw [sl_set l j hp] at hset
      change CRow (Value.int .u8) 0 (w6.setCell ⟨h, j, none⟩ (.int .u8 ((horner (g2 ^ (j + 1)) l.reverse).n : Int))) h _ at hset
      have HSET := Aside0.mk hset
      have SETB := Aside0.mk (HB6.out.setCell (p := ⟨h, j, none⟩) (Nat.le_refl _) (.int .u8 ((horner (g2 ^ (j + 1)) l.reverse).n : Int)))
      clear hset hb6 HH6 HEV HB6
      go_wp2_with fail
      go_roundw
      case rel => exact ⟨j + 1, by omega, by go_num, HSET.out, SETB.out⟩
      case measure => simp [intOf]; omega
    · obtain rfl : j = 4 := by omega
      have hh0 := HHr.out.cell 0 (by simp [sl])
      have hh1 := HHr.out.cell 1 (by simp [sl])
      have hh2 := HHr.out.cell 2 (by simp [sl])
      have hh3 := HHr.out.cell 3 (by simp [sl])
      have hg0 := HGr.out.cell 0 (by decide)
      have hg1 := HGr.out.cell 1 (by decide)
      have hg2 := HGr.out.cell 2 (by decide)
      have hg3 := HGr.out.cell 3 (by decide)
      have hf0 := HGr.out.free 0 (by decide)
      have hf1 := HGr.out.free 1 (by decide)
      have hf2 := HGr.out.free 2 (by decide)
      have hf3 := HGr.out.free 3 (by decide)
      change wr.cell? ⟨h, 0, none⟩ = some (.int .u8 ((syn l 0).n : Int)) at hh0
      change wr.cell? ⟨h, 1, none⟩ = some (.int .u8 ((syn l 1).n : Int)) at hh1
      change wr.cell? ⟨h, 2, none⟩ = some (.int .u8 ((syn l 2).n : Int)) at hh2
      change wr.cell? ⟨h, 3, none⟩ = some (.int .u8 ((syn l 3).n : Int)) at hh3
      go_wp2_with fail
      have hF := heap_setCell_same _ _ 3 _ _ (.int .u8 ((syn l 3).n : Int)) (heap_setCell_same _ _ 2 _ _ (.int .u8 ((syn l 2).n : Int)) (heap_setCell_same _ _ 1 _ _ (.int .u8 ((syn l 1).n : Int)) (heap_setCell_same _ _ 0 _ _ (.int .u8 ((syn l 0).n : Int)) HGBr.out)))
      have hBF := (((HWr.out.setCell (p := ⟨g, 0, none⟩) (Nat.le_of_eq HGG.out) (.int .u8 ((syn l 0).n : Int))).setCell (p := ⟨g, 1, none⟩) (Nat.le_of_eq HGG.out) (.int .u8 ((syn l 1).n : Int))).setCell (p := ⟨g, 2, none⟩) (Nat.le_of_eq HGG.out) (.int .u8 ((syn l 2).n : Int))).setCell (p := ⟨g, 3, none⟩) (Nat.le_of_eq HGG.out) (.int .u8 ((syn l 3).n : Int))
      clear hg0 hg1 hg2 hg3 hf0 hf1 hf2 hf3
      generalize (((wr.setCell ⟨g, 0, none⟩ (.int .u8 ((syn l 0).n : Int))).setCell ⟨g, 1, none⟩ (.int .u8 ((syn l 1).n : Int))).setCell ⟨g, 2, none⟩ (.int .u8 ((syn l 2).n : Int))).setCell ⟨g, 3, none⟩ (.int .u8 ((syn l 3).n : Int)) = wf at hF hBF ⊢
      exact bodyPost_ret (v := synV l) (results_cell_row (by rfl) _ _ g _ _ _ _ rfl hF Tryz.underlying179 rfl (by kernel_rfl)) rfl ⟨rfl, hBF⟩
end Go.Proofs.YtajccgmeminlhaaGreatDoor
end
section
/- The matrix of solomon.solve in memory, and in plain words. -/
set_option linter.unusedVariables false
set_option linter.unusedSimpArgs false
namespace Go.Proofs.YtajccgmeminlhaaGreatDoor
open Go.RowKit Go.Shelf Go.Proofs.YtajccgmeminlhaaGreatDoorW.PrintWords Go.Proofs.YtajccgmeminlhaaGreatDoorW.PrintLast Go.Proofs.YtajccgmeminlhaaGreatDoor.Q Go.Proofs.YtajccgmeminlhaaGreatDoor.Gf

/-- A matrix of four rows and five columns in a block that the call itself writes into. -/
structure MRow (W : World) (g : Nat) (M : Nat → Nat → G) : Prop where
  lt : g < W.heap.size
  cell : ∀ i j, i < 4 → j < 5 → W.cell? ⟨g, i * 5 + j, none⟩ = some (.int .u8 ((M i j).n : Nat))
  free : ∀ i j, i < 4 → j < 5 → W.frozen? ⟨g, i * 5 + j, none⟩ = false
def upd (M : Nat → Nat → G) (i j : Nat) (x : G) : Nat → Nat → G := fun a b => if a = i ∧ b = j then x else M a b
theorem MRow.below {W W' : World} {g : Nat} {M : Nat → Nat → G} (h : MRow W g M) (hb : Below W.heap.size W W') : MRow W' g M :=
  ⟨Nat.lt_of_lt_of_le h.lt hb.size, fun i j hi hj => (hb.cell (p := ⟨g, i * 5 + j, none⟩) h.lt).trans (h.cell i j hi hj), fun i j hi hj => (hb.frozen (p := ⟨g, i * 5 + j, none⟩) h.lt).trans (h.free i j hi hj)⟩
theorem MRow.drew {W : World} {g : Nat} {M : Nat → Nat → G} (h : MRow W g M) : MRow W.drew g M := h.below (Below.refl _ _).drew
theorem MRow.set {W : World} {g : Nat} {M : Nat → Nat → G} (h : MRow W g M) (i j : Nat) (hi : i < 4) (hj : j < 5) (x : G) : MRow (W.setCell ⟨g, i * 5 + j, none⟩ (.int .u8 (x.n : Nat))) g (upd M i j x) := by
  refine ⟨by simpa using h.lt, fun a b ha hb => ?_, fun a b ha hb => ?_⟩
  · unfold upd
    by_cases e : a = i ∧ b = j
    · obtain ⟨rfl, rfl⟩ := e
      rw [if_pos ⟨rfl, rfl⟩, World.cell?_setCell_same' _ _ _ (by rw [h.cell a b ha hb]; rfl)]
    · rw [if_neg e, World.cell?_setCell_other _ _ _ _ (fun h2 => e (by have := congrArg Addr.off h2; simp at this; omega)), h.cell a b ha hb]
  · rw [World.frozen?_setCell]
    exact h.free a b ha hb
theorem MRow.other {W : World} {g : Nat} {M : Nat → Nat → G} (h : MRow W g M) (b i : Nat) (v : Value) (hne : b ≠ g) : MRow (W.setCell ⟨b, i, none⟩ v) g M := by
  refine ⟨by simpa using h.lt, fun i j hi hj => ?_, fun i j hi hj => ?_⟩
  · rw [World.cell?_setCell_other _ _ _ _ (by intro h2; cases h2; exact hne rfl), h.cell i j hi hj]
  · rw [World.frozen?_setCell]
    exact h.free i j hi hj
theorem MRow.ext {W : World} {g : Nat} {M N : Nat → Nat → G} (h : MRow W g M) (he : ∀ i j, i < 4 → j < 5 → M i j = N i j) : MRow W g N :=
  ⟨h.lt, fun i j hi hj => by rw [← he i j hi hj]; exact h.cell i j hi hj, h.free⟩
/-- Places as numbers. -/
def is (P : List Nat) : List Int := P.map fun (p : Nat) => (p : Int)
theorem is_length (P : List Nat) : (is P).length = P.length := List.length_map _
theorem is_rd (P : List Nat) (i : Nat) : rd (is P) i = ((P.getD i 0 : Nat) : Int) := by
  unfold rd is
  rw [Int.toNat_natCast, List.getD_eq_getElem?_getD, List.getD_eq_getElem?_getD, List.getElem?_map]
  cases P[i]? <;> rfl
def loc (len p : Nat) : G := g2 ^ (len - 1 - p)
/-- The matrix while it is filled: i rows, and k elements of the next one. -/
def fillM (l : List G) (P : List Nat) (i k a b : Nat) : G :=
  if a < i then (if b < P.length then loc l.length (P.getD b 0) ^ (a + 1) else if b = P.length then syn l a else 0)
  else if a = i ∧ b < k then loc l.length (P.getD b 0) ^ (a + 1) else 0
theorem fillM_zero (l : List G) (P : List Nat) (a b : Nat) : fillM l P 0 0 a b = 0 := by
  unfold fillM
  rw [if_neg (by omega), if_neg (by omega)]
theorem fillM_step (l : List G) (P : List Nat) (i k a b : Nat) (hk : k < P.length) : upd (fillM l P i k) i k (loc l.length (P.getD k 0) ^ (i + 1)) a b = fillM l P i (k + 1) a b := by
  unfold upd fillM
  by_cases h : a = i ∧ b = k
  · obtain ⟨rfl, rfl⟩ := h
    rw [if_pos ⟨rfl, rfl⟩, if_neg (by omega), if_pos ⟨rfl, by omega⟩]
  · rw [if_neg h]
    by_cases h2 : a < i
    · rw [if_pos h2, if_pos h2]
    · rw [if_neg h2, if_neg h2]
      by_cases h3 : a = i ∧ b < k
      · rw [if_pos h3, if_pos ⟨h3.1, by omega⟩]
      · rw [if_neg h3, if_neg (by omega)]
theorem fillM_row (l : List G) (P : List Nat) (i a b : Nat) : upd (fillM l P i P.length) i P.length (syn l i) a b = fillM l P (i + 1) 0 a b := by
  unfold upd fillM
  grind
def updRow (M : Nat → Nat → G) (i : Nat) (f : Nat → G) : Nat → Nat → G := fun r c => if r = i then f c else M r c
theorem MRow.row {W : World} {g : Nat} {M : Nat → Nat → G} (h : MRow W g M) (i : Nat) (hi : i < 4) (f : Nat → G) :
    MRow (((((W.setCell ⟨g, i * 5, none⟩ (.int .u8 ((f 0).n : Nat))).setCell ⟨g, i * 5 + 1, none⟩ (.int .u8 ((f 1).n : Nat))).setCell ⟨g, i * 5 + 2, none⟩ (.int .u8 ((f 2).n : Nat))).setCell ⟨g, i * 5 + 3, none⟩ (.int .u8 ((f 3).n : Nat))).setCell ⟨g, i * 5 + 4, none⟩ (.int .u8 ((f 4).n : Nat))) g (updRow M i f) := by
  refine (((((h.set i 0 hi (by omega) (f 0)).set i 1 hi (by omega) (f 1)).set i 2 hi (by omega) (f 2)).set i 3 hi (by omega) (f 3)).set i 4 hi (by omega) (f 4)).ext ?_
  intro a b ha hb
  unfold upd updRow
  by_cases e : a = i
  · subst e
    have : b = 0 ∨ b = 1 ∨ b = 2 ∨ b = 3 ∨ b = 4 := by omega
    rcases this with rfl | rfl | rfl | rfl | rfl <;> simp
  · simp [e]
theorem below_row {B : Nat} {a W : World} (h : Below B a W) (g : Nat) (hg : B ≤ g) (o1 o2 o3 o4 o5 : Nat) (v1 v2 v3 v4 v5 : Value) : Below B a (((((W.setCell ⟨g, o1, none⟩ v1).setCell ⟨g, o2, none⟩ v2).setCell ⟨g, o3, none⟩ v3).setCell ⟨g, o4, none⟩ v4).setCell ⟨g, o5, none⟩ v5) :=
  ((((h.setCell (p := ⟨g, o1, none⟩) hg v1).setCell (p := ⟨g, o2, none⟩) hg v2).setCell (p := ⟨g, o3, none⟩) hg v3).setCell (p := ⟨g, o4, none⟩) hg v4).setCell (p := ⟨g, o5, none⟩) hg v5
def swapM (k t : Nat) (M : Nat → Nat → G) : Nat → Nat → G := fun r c => if r = k then M t c else if r = t then M k c else M r c
def elimM (n k : Nat) (M : Nat → Nat → G) : Nat → Nat → G := fun r c => if r ≠ k ∧ c ≤ n then M r c + (M r k / M k k) * M k c else M r c
theorem swap_rows (k t : Nat) (M : Nat → Nat → G) (a b : Nat) : updRow (updRow M k (M t)) t (M k) a b = swapM k t M a b := by
  unfold updRow swapM
  by_cases h1 : a = t
  · subst h1
    by_cases h2 : a = k
    · subst h2; simp
    · simp [h2]
  · by_cases h2 : a = k
    · subst h2; simp [h1]
    · simp [h1, h2]
/-- The matrix while rows are cleared: i rows, and j elements of the next one. -/
def partM (n k : Nat) (M : Nat → Nat → G) (i j : Nat) : Nat → Nat → G := fun r c => if r < i ∨ (r = i ∧ c < j) then elimM n k M r c else M r c
theorem partM_zero (n k : Nat) (M : Nat → Nat → G) (r c : Nat) : partM n k M 0 0 r c = M r c := by
  unfold partM
  rw [if_neg (by omega)]
theorem partM_same (n k : Nat) (M : Nat → Nat → G) (i r c : Nat) (h : i = k ∨ M i k = 0) : partM n k M i 0 r c = partM n k M (i + 1) 0 r c := by
  unfold partM
  by_cases e : r = i
  · subst e
    rw [if_neg (by omega), if_pos (.inl (by omega))]
    unfold elimM
    rcases h with h | h
    · rw [if_neg (by omega)]
    · split
      · rw [h]
        grind
      · rfl
  · by_cases h1 : r < i
    · rw [if_pos (.inl h1), if_pos (.inl (by omega))]
    · rw [if_neg (by omega), if_neg (by omega)]
theorem partM_step (n k : Nat) (M : Nat → Nat → G) (i j r c : Nat) (hi : i ≠ k) (hj : j ≤ n) : upd (partM n k M i j) i j (M i j + (M i k / M k k) * M k j) r c = partM n k M i (j + 1) r c := by
  unfold upd partM
  by_cases e : r = i ∧ c = j
  · obtain ⟨rfl, rfl⟩ := e
    rw [if_pos ⟨rfl, rfl⟩, if_pos (.inr ⟨rfl, by omega⟩)]
    unfold elimM
    rw [if_pos ⟨hi, hj⟩]
  · rw [if_neg e]
    by_cases h : r < i ∨ (r = i ∧ c < j)
    · rw [if_pos h, if_pos (by omega)]
    · rw [if_neg h, if_neg (by omega)]
theorem partM_row (n k : Nat) (M : Nat → Nat → G) (i r c : Nat) (hc : c < 5) : partM n k M i (n + 1) r c = partM n k M (i + 1) 0 r c := by
  unfold partM
  by_cases h : r < i ∨ (r = i ∧ c < n + 1)
  · rw [if_pos h, if_pos (by omega)]
  · rw [if_neg h]
    by_cases e : r = i
    · subst e
      rw [if_pos (by omega)]
      unfold elimM
      rw [if_neg (by omega)]
    · rw [if_neg (by omega)]
theorem partM_last (n k : Nat) (M : Nat → Nat → G) (r c : Nat) (hr : r < 4) : partM n k M 4 0 r c = elimM n k M r c := by
  unfold partM
  rw [if_pos (.inl hr)]
theorem partM_at (n k : Nat) (M : Nat → Nat → G) (i j : Nat) (c : Nat) (hc : j ≤ c) : partM n k M i j i c = M i c := by
  unfold partM
  rw [if_neg (by omega)]
theorem partM_k (n k : Nat) (M : Nat → Nat → G) (i j c : Nat) : partM n k M i j k c = M k c := by
  unfold partM elimM
  split
  · rw [if_neg (by omega)]
  · rfl
/-- The matrices that the elimination may come to. -/
inductive Elim (l : List G) (P : List Nat) : Nat → (Nat → Nat → G) → Prop
  | zero : Elim l P 0 (fillM l P 4 0)
  | step {k t : Nat} {M : Nat → Nat → G} (h : Elim l P k M) (hk : k ≤ t) (ht : t < 4) (hne : M t k ≠ 0) : Elim l P (k + 1) (elimM P.length k (swapM k t M))
theorem synL_at (l : List G) (j : Nat) (h : j < 4) : [syn l 0, syn l 1, syn l 2, syn l 3].getD j 0 = syn l j := by
  match j, h with
  | 0, _ => rfl
  | 1, _ => rfl
  | 2, _ => rfl
  | 3, _ => rfl
theorem PW.drew {w : World} (h : PW w) : PW w.drew := h.below (Below.refl _ _).drew
theorem loc_ne (len p : Nat) : (loc len p).n ≠ 0 := by
  unfold loc
  rw [npow_lg g2 (by decide)]
  exact (pow_at _ (Nat.mod_lt _ (by omega))).2.2
end Go.Proofs.YtajccgmeminlhaaGreatDoor
end
