/- bars.state and bars.check: what they return at every rune and every text. -/
import Derived.Test.YtofheegapiicoaaIdxRune
import Derived.Lib.OthersKept
set_option linter.unusedVariables false
set_option linter.unusedSimpArgs false
namespace Go.Proofs.Ytofheegapiicoaa
open Go.RowKit Go.Shelf Go.Proofs.YtofheegapiicoaaW.PrintWords

/-- The number of a letter, -1 of what is none. -/
def st (c : Int) : Int := if c = 84 then 0 else if c = 65 then 1 else if c = 68 then 2 else if c = 70 then 3 else if c = 63 then 4 else -1
theorem st_ascii : ∀ n : Fin 128, Lib.indexByte [84, 65, 68, 70, 63] (n.val.toUInt8) = st n.val := by decide
theorem st_high (c : Int) (h : 128 ≤ c) : st c = -1 := by
  unfold st
  rw [if_neg (by omega), if_neg (by omega), if_neg (by omega), if_neg (by omega), if_neg (by omega)]
theorem st_range (c : Int) : -1 ≤ st c ∧ st c ≤ 4 := by
  unfold st
  repeat' split
  all_goals omega
theorem st_lt (c : Int) (h : 0 ≤ st c) : 0 ≤ c ∧ c < 128 := by
  unfold st at h
  repeat' split at h
  all_goals omega

set_option maxHeartbeats 1000000 in
set_option maxRecDepth 100000 in
theorem state_any (c : Int) (w : World) (h0 : 0 ≤ c) :
    Calls Try.prog 19 #[.int .i32 c] w fun e w' => e = .returned (.int .i64 (st c)) ∧ Below w.heap.size w w' := by
  by_cases h1 : c < 128
  · have hs : Lib.indexByte [84, 65, 68, 70, 63] c.toNat.toUInt8 = st c := by
      have := st_ascii ⟨c.toNat, by omega⟩
      simp only at this
      rw [this, Int.toNat_of_nonneg h0]
    go_enter Try.func19, Try.ntmps19
    go_wp2_with fail
    refine (idxRune_ascii c w h0 h1).mono ?_
    rintro e w' ⟨rfl, rfl⟩
    go_wp2
    go_ret
    exact ⟨rfl, Below.refl _ _⟩
  · have h2 : 128 ≤ c := by omega
    have hs := st_high c h2
    rw [hs]
    clear hs h1
    by_cases h3 : c = 65533
    · subst h3
      go_enter Try.func19, Try.ntmps19
      go_wp2_with fail
      refine (idxRune_error w).mono ?_
      rintro e w' ⟨rfl, rfl⟩
      go_wp2
      go_ret
      exact ⟨rfl, (Below.refl _ _).alloc (Nat.le_refl _) _⟩
    · by_cases h4 : Lib.validRune c = true
      · go_enter Try.func19, Try.ntmps19
        go_wp2_with fail
        refine (idxRune_valid c w h2 h3 h4).mono ?_
        rintro e w' ⟨rfl, hd⟩
        have hb := hd.below
        clear hd
        go_wp2
        go_ret
        exact ⟨rfl, hb⟩
      · have h5 : Lib.validRune c = false := by simpa using h4
        go_enter Try.func19, Try.ntmps19
        go_wp2_with fail
        refine (idxRune_invalid c w h2 h3 h5).mono ?_
        rintro e w' ⟨rfl, rfl⟩
        go_wp2
        go_ret
        exact ⟨rfl, Below.refl _ _⟩

def bars_state.f (c : Int) : Option Int := if 0 ≤ c then some (st c) else none
theorem bars_state.calls (a0 : Int) (r : Int) (w : World) (h : bars_state.f a0 = some r) :
    Calls Try.prog 19 #[.int .i32 a0] w fun e w' => e = .returned (.int .i64 r) ∧ Below w.heap.size w w' := by
  unfold bars_state.f at h
  split at h
  · obtain rfl := Option.some.inj h
    exact state_any a0 w (by assumption)
  · cases h

/-- Whether all bytes from a place on are letters. -/
def lettersAll (s : ByteArray) : Bool := s.data.toList.all fun b => decide (0 ≤ st b.toNat)
theorem lettersAll_at {s : ByteArray} (h : lettersAll s = true) (k : Nat) (hk : k < s.size) : 0 ≤ st (s[k]'hk).toNat := by
  unfold lettersAll at h
  rw [List.all_eq_true] at h
  have := h (s[k]'hk) (by
    show s.data[k] ∈ s.data.toList
    simp)
  simpa using this
theorem lettersAll_of {s : ByteArray} (h : ∀ k, (hk : k < s.size) → 0 ≤ st (s[k]'hk).toNat) : lettersAll s = true := by
  unfold lettersAll
  rw [List.all_eq_true]
  intro b hb
  obtain ⟨k, hk, rfl⟩ := List.getElem_of_mem hb
  have := h k (by simpa using hk)
  exact decide_eq_true this
theorem lettersAll_not {s : ByteArray} (k : Nat) (hk : k < s.size) (h : st (s[k]'hk).toNat < 0) : lettersAll s = false := by
  rw [← Bool.not_eq_true]
  intro h1
  have := lettersAll_at h1 k hk
  omega

def checkW (s : ByteArray) (more : Int) : Int := if (s.size : Int) + more > 200 then 3 else if lettersAll s = true then 0 else 2

set_option maxHeartbeats 2000000 in
set_option maxRecDepth 100000 in
theorem check_any (s : ByteArray) (more : Int) (w : World) (hs : s.size ≤ 140737488351232) (h0 : 0 ≤ more) (h1 : more ≤ 1000) :
    Calls Try.prog 18 #[.string s, .int .i64 more] w fun e w' => e = .returned (.int .i64 (checkW s more)) ∧ Below w.heap.size w w' := by
  by_cases hl : 200 < (s.size : Int) + more
  · have hc : checkW s more = 3 := by unfold checkW; rw [if_pos hl]
    rw [hc]
    clear hc
    go_enter Try.func18, Try.ntmps18
    go_wp2
    go_ret
    exact ⟨rfl, Below.refl _ _⟩
  · have hl' : (s.size : Int) + more ≤ 200 := by omega
    have hc : Aside0 (checkW s more = if lettersAll s = true then 0 else 2) := ⟨by unfold checkW; rw [if_neg hl]⟩
    clear hl
    go_enter Try.func18, Try.ntmps18
    go_wp2
    go_loopw [14, 15, 6, 17, 18, 19] (fun _ _ _ _ _ _ wr => ∃ k : Nat, k ≤ s.size ∧ (∀ i, (hi : i < s.size) → i < k → 0 ≤ st (s[i]'hi).toNat) ∧ wr.heap[w.heap.size]? = some (.stringIter s k) ∧ Below w.heap.size w wr) (fun _ _ _ _ _ _ wr => s.size - wr.iterPos w.heap.size)
    case atStart => exact ⟨0, Nat.zero_le _, by intro i _ h; omega, World.iter_heap w s 0, (Below.refl _ w).alloc (Nat.le_refl _) _⟩
    case round =>
      obtain ⟨k, hk, hall, hit, hb⟩ := hrel
      have hsz : w.heap.size < wr.heap.size := (Array.getElem?_eq_some_iff.1 hit).1
      by_cases hp : k < s.size
      · have hnx : ∀ ty, (Instr.next (.pointer (some ⟨w.heap.size, 0, none⟩)) true ty).run Try.prog wr = _ := fun ty => Lib.run_next_any_at wr w.heap.size s k ty hit hp
        have hit2 := Aside0.mk (Lib.iterAt_heap wr w.heap.size s k (k + (Utf8.decode s k).2) hit)
        have hb2 := Aside0.mk (Lib.below_iterAt hb (k := w.heap.size) (Nat.le_refl _) s (k + (Utf8.decode s k).2))
        have HA := Aside0.mk hall
        have HI := Aside0.mk hit
        clear hall hit hb
        go_wp2_with (go_at_call 19; refine (state_any _ _ (by omega)).mono ?_; rintro e w1 ⟨rfl, hb3⟩; replace hb3 := Aside0.mk hb3)
        · have hneg : st ↑(Utf8.decode s k).fst < 0 := by assumption
          have H2 : Aside0 (checkW s more = 2) := ⟨by
            rw [hc.out, if_neg]
            rw [Bool.not_eq_true]
            refine lettersAll_not k hp ?_
            by_cases ha : (s[k]'hp).toNat < 128
            · rw [decode_ascii s k hp ha] at hneg
              exact hneg
            · rw [st_high _ (by omega)]
              decide⟩
          go_ret
          exact ⟨by rw [H2.out]; rfl, hb2.out.trans (hb3.out.mono (by rw [Lib.iterAt_size]; omega))⟩
        · have hpos : 0 ≤ st ↑(Utf8.decode s k).fst := by assumption
          have ha : (s[k]'hp).toNat < 128 := by
            rcases Nat.lt_or_ge (s[k]'hp).toNat 128 with h | h
            · exact h
            · have := (decode_high s k hp h).1
              have := (st_lt _ hpos).2
              omega
          have hd := decode_ascii s k hp ha
          rw [hd] at hpos hit2 hb3
          have hi3 : w1.heap[w.heap.size]? = some (.stringIter s (k + 1)) := (hb3.out.block _ (by rw [Lib.iterAt_size]; omega)).trans hit2.out
          go_roundw
          case rel =>
            refine ⟨k + 1, by omega, ?_, hi3, ?_⟩
            · intro i hi hik
              rcases Nat.lt_or_ge i k with h | h
              · exact HA.out i hi h
              · obtain rfl : i = k := by omega
                exact hpos
            · rw [hd] at hb2
              exact hb2.out.trans (hb3.out.mono (by rw [Lib.iterAt_size]; omega))
          case measure =>
            simp only [World.iterPos, hi3, HI.out]
            omega
      · have hnx : ∀ ty, (Instr.next (.pointer (some ⟨w.heap.size, 0, none⟩)) true ty).run Try.prog wr = _ := fun ty => Lib.run_next_end_at wr w.heap.size s k ty hit hp
        have H0 : Aside0 (checkW s more = 0) := ⟨by rw [hc.out, if_pos (lettersAll_of fun i hi => hall i hi (by omega))]⟩
        go_wp2
        go_ret
        exact ⟨by rw [H0.out]; rfl, hb⟩
end Go.Proofs.Ytofheegapiicoaa
