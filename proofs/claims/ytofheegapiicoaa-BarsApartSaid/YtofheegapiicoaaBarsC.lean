/- bars.Read: the symbols of a text, and those that are not clear. -/
import Derived.Test.YtofheegapiicoaaBarsB
import Derived.Laws.DeepStrings4
import Derived.WalkSmall
set_option linter.unusedVariables false
set_option linter.unusedSimpArgs false
namespace Go.Proofs.Ytofheegapiicoaa
open Go.RowKit Go.Shelf Go.Proofs.YtofheegapiicoaaW.PrintWords

theorem slice_mid (s : ByteArray) (a b : Nat) (h1 : a ≤ b) (h2 : b ≤ s.size) (wx : World) :
    (Instr.slice 9 (.string s) (some (.int .i64 (a : Int))) (some (.int .i64 (b : Int))) none).run Try.prog wx = .ok (.string (s.extract a b)) wx := by
  rw [run_slice_string_if (h := Try.underlying9), if_pos ⟨by omega, by omega⟩, if_pos ⟨by omega, by omega⟩]
  simp

theorem info_int : (Try.prog.info? 3).map (fun i => (i.zero, i.size, i.bytes)) = some (some (.int .i64 0), 1, 8) := by kernel_rfl
theorem info_u8 : (Try.prog.info? 5).map (fun i => (i.zero, i.size, i.bytes)) = some (some (.int .u8 0), 1, 1) := by kernel_rfl

/-- The number of the letter at a place. -/
def gl (s : ByteArray) (i : Nat) : Int := st (s.data.toList.getD i 0).toNat
theorem gl_at (s : ByteArray) (i : Nat) (h : i < s.size) : gl s i = st (s[i]'h).toNat := by
  have hl : i < s.data.toList.length := by simpa using h
  unfold gl
  rw [List.getD_eq_getElem?_getD, List.getElem?_eq_getElem hl]
  rfl
theorem check_zero {s : ByteArray} (h : checkW s 0 = 0) : s.size ≤ 200 ∧ lettersAll s = true := by
  unfold checkW at h
  split at h
  · omega
  · split at h
    · exact ⟨by omega, by assumption⟩
    · omega
def symOf (a b c : Int) : Int := if a = 4 ∨ b = 4 ∨ c = 4 then 0 else 16 * a + 4 * b + c
def unclear (g : Nat → Int) (j : Nat) : Bool := decide (g (3 * j) = 4 ∨ g (3 * j + 1) = 4 ∨ g (3 * j + 2) = 4)
def symsOf (g : Nat → Int) (k : Nat) : List Int := (List.range k).map fun j => symOf (g (3 * j)) (g (3 * j + 1)) (g (3 * j + 2))
def erasedOf (g : Nat → Int) (k : Nat) : List Int := ((List.range k).filter (unclear g)).map fun (j : Nat) => (j : Int)
theorem symsOf_succ (g : Nat → Int) (k : Nat) : symsOf g (k + 1) = symsOf g k ++ [symOf (g (3 * k)) (g (3 * k + 1)) (g (3 * k + 2))] := by
  simp [symsOf, List.range_succ]
theorem erasedOf_yes (g : Nat → Int) (k : Nat) (h : unclear g k = true) : erasedOf g (k + 1) = erasedOf g k ++ [(k : Int)] := by
  simp [erasedOf, List.range_succ, List.filter_append, List.filter_cons, h]
theorem erasedOf_no (g : Nat → Int) (k : Nat) (h : unclear g k = false) : erasedOf g (k + 1) = erasedOf g k := by
  simp [erasedOf, List.range_succ, List.filter_append, List.filter_cons, h]
theorem erasedOf_le (g : Nat → Int) (k : Nat) : (erasedOf g k).length ≤ k := by
  have := List.length_filter_le (unclear g) (List.range k)
  simpa [erasedOf] using this
theorem symsOf_length (g : Nat → Int) (k : Nat) : (symsOf g k).length = k := by simp [symsOf]

/-- What is read of some letters, one behind the other. -/
def valOf (g : Nat → Int) : Nat → Int
  | 0 => 0
  | j + 1 => valOf g j * 4 + g j % 4
def clrOf (g : Nat → Int) : Nat → Bool
  | 0 => true
  | j + 1 => clrOf g j && (g j != 4)
theorem valOf_lt (g : Nat → Int) : ∀ j, j ≤ 3 → 0 ≤ valOf g j ∧ valOf g j < 4 ^ j := by
  intro j
  induction j with
  | zero => intro _; simp [valOf]
  | succ j ih =>
    intro h
    have := ih (by omega)
    simp only [valOf, Int.pow_succ]
    omega
theorem u8_step (n s : Int) (h0 : 0 ≤ n) (h1 : n < 64) (h2 : 0 ≤ s) (h3 : s < 256) : bits .or .u8 ((n * 4) % 256) (bits .and .u8 s 3) = n * 4 + s % 4 := by
  rw [u8_and3 s h2 h3, Int.emod_eq_of_lt (by omega) (by omega)]
  have h4 : ∀ (a : Fin 64) (b : Fin 4), bits .or .u8 ((a.val : Int) * 4) (b.val : Int) = (a.val : Int) * 4 + (b.val : Int) := by decide +kernel
  obtain ⟨a, rfl⟩ := Int.eq_ofNat_of_zero_le h0
  obtain ⟨b, hb⟩ := Int.eq_ofNat_of_zero_le (show 0 ≤ s % 4 by omega)
  have := h4 ⟨a, by omega⟩ ⟨b, by omega⟩
  rw [hb]
  exact this

def readW (s : ByteArray) : List Int × List Int × Int :=
  if checkW s 0 = 0 then (if s.size % 3 = 0 then (symsOf (gl s) (s.size / 3), erasedOf (gl s) (s.size / 3), 0) else ([], [], 2)) else ([], [], checkW s 0)

set_option maxHeartbeats 4000000 in
set_option maxRecDepth 100000 in
theorem read_any (s : ByteArray) (w : World) (hs : s.size ≤ 140737488351232) :
    Calls Try.prog 9 #[.string s] w fun e w' => ∃ v0_ v1_ : Value, e = .returned (.tuple #[v0_, v1_, .int .i64 (readW s).2.2]) ∧ Kd.R (Kd.int .u8) 5 w' w.heap.size (fun _ => True) v0_ (readW s).1 ∧ Kd.R (Kd.int .i64) 3 w' w.heap.size (fun _ => True) v1_ (readW s).2.1 ∧ Below w.heap.size w w' := by
  have HS := Aside0.mk hs
  by_cases hc : checkW s 0 = 0
  · by_cases h3 : s.size % 3 = 0
    · have HW := Aside0.mk (show readW s = (symsOf (gl s) (s.size / 3), erasedOf (gl s) (s.size / 3), 0) by unfold readW; rw [if_pos hc, if_pos h3])
      rw [HW.out]
      have hcb : (checkW s 0 != 0) = false := by simpa using hc
      have h3b : ((s.size : Int) % 3 != 0) = false := by simp; omega
      have HC := Aside0.mk hc
      have H3 := Aside0.mk h3
      clear hc h3
      go_enter Try.func9, Try.ntmps9
      go_wp2_with fail
      refine (check_any s 0 w hs (by omega) (by omega)).mono ?_
      rintro e w1 ⟨rfl, hb1⟩
      have HB1 := Aside0.mk hb1
      clear hb1
      go_wp2_with fail
      go_loopw [6, 7, 8] (fun o er i wr => ∃ k m : Nat, Aside0 (m = 3 * k) ∧ i = .int .i64 m ∧ m ≤ s.size ∧ wr.ownsRow w.heap.size 5 1 o (symsOf (gl s) k).length (nums .u8 (symsOf (gl s) k)) ∧ wr.ownsRow w.heap.size 3 1 er (erasedOf (gl s) k).length (nums .i64 (erasedOf (gl s) k)) ∧ Below w.heap.size w wr) (fun _ _ i _ => s.size - (intOf i).toNat)
      case atStart => exact ⟨0, 0, ⟨rfl⟩, rfl, Nat.zero_le _, World.ownsRow_nil _ _ _ _, World.ownsRow_nil _ _ _ _, HB1.out⟩
      case round =>
        obtain ⟨k, m, hm, rfl, hk, ho, he, hb⟩ := hrel
        have HO := Aside0.mk ho
        have HE := Aside0.mk he
        have HB := Aside0.mk hb
        clear ho he hb HB1
        by_cases hp : m < s.size
        · have hk3 : m + 3 ≤ s.size := by have := H3.out; have := hm.out; omega
          have hsl : ∀ wx : World, (Instr.slice 9 (.string s) (some (.int .i64 (m : Int))) (some (.int .i64 ((m : Int) + 3))) none).run Try.prog wx = .ok (.string (s.extract m (m + 3))) wx := fun wx => slice_mid s m (m + 3) (by omega) hk3 wx
          have HSUB := Aside0.mk (show (s.extract m (m + 3)).size = 3 by simp; omega)
          have HG := Aside0.mk (show ∀ j, (hj : j < (s.extract m (m + 3)).size) → ((s.extract m (m + 3))[j]'hj).toNat < 128 ∧ st ((s.extract m (m + 3))[j]'hj).toNat = gl s (m + j) ∧ 0 ≤ gl s (m + j) by
            intro j hj
            have hj3 : m + j < s.size := by have := HSUB.out; omega
            have hl := lettersAll_at (check_zero HC.out).2 (m + j) hj3
            rw [ByteArray.getElem_extract, gl_at s (m + j) hj3]
            have := st_lt _ hl
            exact ⟨by omega, rfl, hl⟩)
          have hgl := Aside0.mk (show ∀ i, gl s i ≤ 4 from fun i => (st_range _).2)
          go_wp2_with fail
          obtain ⟨wo, rfl⟩ : ∃ wo, wo = wr := ⟨_, rfl⟩
          generalize s.extract m (m + 3) = sub at HSUB HG hsl ⊢
          have HSZ := Aside0.mk HB.out.size
          obtain ⟨W0, hW0⟩ : ∃ W0, wo.iter sub 0 = W0 := ⟨_, rfl⟩
          have HI0 := Aside0.mk (show W0.heap[wo.heap.size]? = some (.stringIter sub 0) by rw [← hW0]; exact World.iter_heap wo sub 0)
          have HB0 := Aside0.mk (show Below wo.heap.size wo W0 by rw [← hW0]; exact (Below.refl _ _).alloc (Nat.le_refl _) _)
          rw [hW0]
          clear hW0
          go_loopw [9, 10] (fun n c wr => ∃ j : Nat, j ≤ 3 ∧ n = .int .u8 (valOf (fun i => gl s (m + i)) j) ∧ c = .bool (clrOf (fun i => gl s (m + i)) j) ∧ wr.heap[wo.heap.size]? = some (.stringIter sub j) ∧ Below wo.heap.size wo wr) (fun _ _ wr => 3 - wr.iterPos wo.heap.size)
          case atStart => exact ⟨0, by omega, rfl, rfl, HI0.out, HB0.out⟩
          case round =>
            obtain ⟨j, hj, rfl, rfl, hit, hbq⟩ := hrel
            have HIT := Aside0.mk hit
            have HBQ := Aside0.mk hbq
            have hqs : wo.heap.size < wr.heap.size := (Array.getElem?_eq_some_iff.1 hit).1
            clear hit hbq
            by_cases hj3 : j < 3
            · have hj' : j < sub.size := by rw [HSUB.out]; exact hj3
              obtain ⟨hasc, hst, hnn⟩ := HG.out j hj'
              have hnx : ∀ ty, (Instr.next (.pointer (some ⟨wo.heap.size, 0, none⟩)) true ty).run Try.prog wr = _ := fun ty => Lib.run_next_ascii_at wr wo.heap.size sub j ty HIT.out hj' hasc
              have hit2 := Aside0.mk (Lib.iterAt_heap wr wo.heap.size sub j (j + 1) HIT.out)
              have hb2 := Aside0.mk (Lib.below_iterAt HBQ.out (k := wo.heap.size) (Nat.le_refl _) sub (j + 1))
              have hv := valOf_lt (fun i => gl s (m + i)) j hj
              have HST := Aside0.mk hst
              have hle := hgl.out (m + j)
              clear hst
              go_wp2_with fail
              refine (state_any _ _ (by omega)).mono ?_
              rintro e w2 ⟨rfl, hb3⟩
              have HB3 := Aside0.mk hb3
              clear hb3
              rw [HST.out]
              have hi3 : Aside0 (w2.heap[wo.heap.size]? = some (.stringIter sub (j + 1))) := ⟨(HB3.out.block _ (by rw [Lib.iterAt_size]; omega)).trans hit2.out⟩
              have HBN := Aside0.mk (hb2.out.trans (HB3.out.mono (by rw [Lib.iterAt_size]; omega)))
              have e1 : Aside0 (bits .or .u8 (valOf (fun i => gl s (m + i)) j * 4 % 256) (bits .and .u8 (gl s (m + j)) 3) = valOf (fun i => gl s (m + i)) (j + 1)) := ⟨by
                simp only [valOf]
                refine u8_step _ _ hv.1 ?_ hnn (by omega)
                have : (4 : Int) ^ j ≤ 16 := by
                  match j, hj3 with
                  | 0, _ => decide
                  | 1, _ => decide
                  | 2, _ => decide
                omega⟩
              go_wp2_with fail
              all_goals
                go_roundw
                case rel =>
                  refine ⟨j + 1, by omega, by rw [e1.out], ?_, hi3.out, HBN.out⟩
                  congr 1
                  simp_all [clrOf]
                case measure =>
                  simp only [World.iterPos, hi3.out, HIT.out]
                  omega
            · obtain rfl : j = 3 := by omega
              have hnx : ∀ ty, (Instr.next (.pointer (some ⟨wo.heap.size, 0, none⟩)) true ty).run Try.prog wr = _ := fun ty => Lib.run_next_end_at wr wo.heap.size sub 3 ty HIT.out (by rw [HSUB.out]; omega)
              have HO2 := Aside0.mk (pw_own_below HO.out HBQ.out)
              have HE2 := Aside0.mk (pw_own_below HE.out HBQ.out)
              have HB2 := Aside0.mk (HB.out.trans (HBQ.out.mono HSZ.out))
              have HS2 := Aside0.mk HB2.out.size
              have hcl : Aside0 (clrOf (fun i => gl s (m + i)) 3 = !unclear (gl s) k) := ⟨by
                rw [Bool.eq_iff_iff]
                simp only [clrOf, unclear, hm.out]
                simp [and_assoc]⟩
              have hkk := (check_zero HC.out).1
              have HLE := Aside0.mk (show ((erasedOf (gl s) k).length + 1) * 8 ≤ 140737488355328 by have := erasedOf_le (gl s) k; have := hm.out; omega)
              have HLO := Aside0.mk (show ((symsOf (gl s) k).length + 1) * 1 ≤ 140737488355328 by have := symsOf_length (gl s) k; have := hm.out; omega)
              by_cases hun : unclear (gl s) k = true
              · have hcl2 : clrOf (fun i => gl s (m + i)) 3 = false := by rw [hcl.out, hun]; rfl
                rw [hcl2]
                have hsy : Aside0 (symsOf (gl s) (k + 1) = symsOf (gl s) k ++ [0]) := ⟨by
                  rw [symsOf_succ]
                  congr 2
                  unfold unclear at hun
                  exact if_pos (by simpa using hun)⟩
                go_wp2_with (first | (at_builtin; refine print_append_num (w0 := w) w.heap.size rfl _ _ 27 3 .i64 8 rfl Try.underlying27 info_int (by decide) u7 (erasedOf (gl s) k) _ rfl rfl HE2.out HB2.out HS2.out HLE.out ?_; intro v1 w3 hown hB3 hg hat; have HO3 := Aside0.mk (own_other HO2.out hg (own_type_ne HO2.out HE2.out (by decide))); have HE3 := Aside0.mk hown; have HB3 := Aside0.mk hB3; have HS3 := Aside0.mk hB3.size; clear hown hB3 hg hat) | (at_builtin; refine print_append_num (w0 := w) w.heap.size rfl _ _ 22 5 .u8 1 rfl Try.underlying22 info_u8 (by decide) u6 (symsOf (gl s) k) _ rfl rfl HO3.out HB3.out HS3.out HLO.out ?_; intro v2 w4 hown4 hB4 hg4 hat4; have HO4 := Aside0.mk hown4; have HB4 := Aside0.mk hB4; have HG4 := Aside0.mk hg4; clear hown4 hB4 hg4 hat4))
                go_roundw
                case rel =>
                  have hm3 : m = 3 * k := hm.out
                  refine ⟨k + 1, m + 3, ⟨by omega⟩, by go_num, hk3, ?_, ?_, HB4.out⟩
                  · rw [hsy.out]; exact HO4.out
                  · rw [erasedOf_yes _ _ hun, ← show ((m : Int) / 3) = (k : Int) by omega]
                    exact own_other HE3.out HG4.out (own_type_ne HE3.out HO3.out (by decide))
                case measure => simp [intOf]; omega
              · have hcl2 : clrOf (fun i => gl s (m + i)) 3 = true := by rw [hcl.out]; simpa using hun
                rw [hcl2]
                have hsy : Aside0 (symsOf (gl s) (k + 1) = symsOf (gl s) k ++ [valOf (fun i => gl s (m + i)) 3]) := ⟨by
                  rw [symsOf_succ]
                  congr 2
                  unfold unclear at hun
                  have h1 : ¬ (gl s (3 * k) = 4 ∨ gl s (3 * k + 1) = 4 ∨ gl s (3 * k + 2) = 4) := by simpa using hun
                  rw [symOf, if_neg h1]
                  have a0 := hgl.out (3 * k)
                  have a1 := hgl.out (3 * k + 1)
                  have a2 := hgl.out (3 * k + 2)
                  have b0 := (HG.out 0 (by rw [HSUB.out]; omega)).2.2
                  have b1 := (HG.out 1 (by rw [HSUB.out]; omega)).2.2
                  have b2 := (HG.out 2 (by rw [HSUB.out]; omega)).2.2
                  rw [hm.out] at b0 b1 b2
                  rw [Nat.add_zero] at b0
                  simp only [valOf, hm.out, Nat.add_zero]
                  omega⟩
                go_wp2_with (first | (at_builtin; refine print_append_num (w0 := w) w.heap.size rfl _ _ 22 5 .u8 1 rfl Try.underlying22 info_u8 (by decide) u6 (symsOf (gl s) k) _ rfl rfl HO2.out HB2.out HS2.out HLO.out ?_; intro v2 w4 hown4 hB4 hg4 hat4; have HO4 := Aside0.mk hown4; have HB4 := Aside0.mk hB4; have HG4 := Aside0.mk hg4; clear hown4 hB4 hg4 hat4))
                go_roundw
                case rel =>
                  have hm3 : m = 3 * k := hm.out
                  refine ⟨k + 1, m + 3, ⟨by omega⟩, by go_num, hk3, ?_, ?_, HB4.out⟩
                  · rw [hsy.out]; exact HO4.out
                  · rw [erasedOf_no _ _ (by simpa using hun)]
                    exact own_other HE2.out HG4.out (own_type_ne HE2.out HO2.out (by decide))
                case measure => simp [intOf]; omega
        · have hmk : m = s.size := by omega
          have hk2 : Aside0 (k = s.size / 3) := ⟨by have := hm.out; omega⟩
          clear hmk
          go_wp2
          exact bodyPost_ret (v := .tuple #[u6, u7, .int .i64 0]) (by simp [results, Try.results9, go_sem]) rfl ⟨u6, u7, rfl, by rw [← hk2.out]; exact Kd.R_of_own HO.out (fun _ _ => trivial), by rw [← hk2.out]; exact Kd.R_of_own HE.out (fun _ _ => trivial), HB.out⟩
    · have HW := Aside0.mk (show readW s = ([], [], 2) by unfold readW; rw [if_pos hc, if_neg h3])
      rw [HW.out]
      have hcb : (checkW s 0 != 0) = false := by simpa using hc
      have h3b : ((s.size : Int) % 3 != 0) = true := by simp; omega
      clear hc h3
      go_enter Try.func9, Try.ntmps9
      go_wp2_with fail
      refine (check_any s 0 w hs (by omega) (by omega)).mono ?_
      rintro e w1 ⟨rfl, hb1⟩
      have HB1 := Aside0.mk hb1
      clear hb1
      go_wp2
      exact bodyPost_ret (v := .tuple #[.slice none 0 0, .slice none 0 0, .int .i64 2]) (by simp [results, Try.results9, go_sem]) rfl ⟨_, _, rfl, Kd.R_nil _ _ _ _ _, Kd.R_nil _ _ _ _ _, HB1.out⟩
  · have HW := Aside0.mk (show readW s = ([], [], checkW s 0) by unfold readW; rw [if_neg hc])
    rw [HW.out]
    have hcb : (checkW s 0 != 0) = true := by simpa using hc
    clear hc
    go_enter Try.func9, Try.ntmps9
    go_wp2_with fail
    refine (check_any s 0 w hs (by omega) (by omega)).mono ?_
    rintro e w1 ⟨rfl, hb1⟩
    have HB1 := Aside0.mk hb1
    clear hb1
    go_wp2
    exact bodyPost_ret (v := .tuple #[.slice none 0 0, .slice none 0 0, .int .i64 (checkW s 0)]) (by simp [results, Try.results9, go_sem]) rfl ⟨_, _, rfl, Kd.R_nil _ _ _ _ _, Kd.R_nil _ _ _ _ _, HB1.out⟩

/-! ### the contracts as the callers want them -/
def bars_check.f (s : ByteArray) (more : Int) : Option Int := if s.size ≤ 140737488351232 ∧ 0 ≤ more ∧ more ≤ 1000 then some (checkW s more) else none
theorem bars_check.calls (a0 : ByteArray) (a1 : Int) (r : Int) (w : World) (h : bars_check.f a0 a1 = some r) :
    Calls Try.prog 18 #[.string a0, .int .i64 a1] w fun e w' => e = .returned (.int .i64 r) ∧ Below w.heap.size w w' := by
  unfold bars_check.f at h
  split at h
  · obtain rfl := Option.some.inj h
    exact check_any a0 a1 w (by omega) (by omega) (by omega)
  · cases h
def bars_Write.f (l : List Int) : Option (ByteArray × Int) := if ∀ x ∈ l, 0 ≤ x then some (writeW l) else none
theorem bars_Write.calls (A0 : Option Addr) (c0 : Nat) (l0 : List Int) (r1 : ByteArray) (r2 : Int) (w : World) (hr0 : Kd.C (Kd.int .u8) w A0 l0.length l0) (hc0 : l0.length ≤ c0) (h : bars_Write.f l0 = some (r1, r2)) :
    Calls Try.prog 8 #[.slice A0 l0.length c0] w fun e w' => e = .returned (.tuple #[.string r1, .int .i64 r2]) ∧ Below w.heap.size w w' := by
  unfold bars_Write.f at h
  split at h
  · have h2 := Option.some.inj h
    have h3 : r1 = (writeW l0).1 := by rw [h2]
    have h4 : r2 = (writeW l0).2 := by rw [h2]
    rw [h3, h4]
    exact write_any A0 c0 l0 w hr0 hc0 (by assumption)
  · cases h
def bars_Read.f (s : ByteArray) : Option (List Int × List Int × Int) := if s.size ≤ 140737488351232 then some (readW s) else none
theorem bars_Read.calls (a0 : ByteArray) (r1 : List Int) (r2 : List Int) (r3 : Int) (w : World) (h : bars_Read.f a0 = some (r1, r2, r3)) :
    Calls Try.prog 9 #[.string a0] w fun e w' => ∃ v0_ v1_ : Value, e = .returned (.tuple #[v0_, v1_, .int .i64 r3]) ∧ Kd.R (Kd.int .u8) 5 w' w.heap.size (fun _ => True) v0_ r1 ∧ Kd.R (Kd.int .i64) 3 w' w.heap.size (fun _ => True) v1_ r2 ∧ Below w.heap.size w w' := by
  unfold bars_Read.f at h
  split at h
  · have h2 := Option.some.inj h
    have h3 : r1 = (readW a0).1 := by rw [h2]
    have h4 : r2 = (readW a0).2.1 := by rw [h2]
    have h5 : r3 = (readW a0).2.2 := by rw [h2]
    rw [h3, h4, h5]
    exact read_any a0 w (by assumption)
  · cases h
end Go.Proofs.Ytofheegapiicoaa
