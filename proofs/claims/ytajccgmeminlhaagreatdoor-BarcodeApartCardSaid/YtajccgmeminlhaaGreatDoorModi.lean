/- solomon.modified: walk. -/
import Derived.Test.YtajccgmeminlhaaGreatDoorEncd
set_option linter.unusedVariables false
set_option linter.unusedSimpArgs false
namespace Go.Proofs.YtajccgmeminlhaaGreatDoor
open Go.RowKit Go.Shelf Go.Proofs.YtajccgmeminlhaaGreatDoorW.PrintWords Go.Proofs.YtajccgmeminlhaaGreatDoorW.PrintLast Go.Proofs.YtajccgmeminlhaaGreatDoor.Q Go.Proofs.YtajccgmeminlhaaGreatDoor.Gf

theorem add_at (g o j : Nat) : (⟨g, o, none⟩ : Addr).add j = ⟨g, o + j, none⟩ := by
  by_cases h : j = 0
  · subst h; simp [Addr.add]
  · simp [Addr.add, h]
/-- Four elements. -/
def row4 (T : Nat → G) : List Int := [((T 0).n : Int), ((T 1).n : Int), ((T 2).n : Int), ((T 3).n : Int)]
theorem row4_length (T : Nat → G) : (row4 T).length = 4 := rfl
theorem row4_at (T : Nat → G) (j : Nat) (h : j < 4) : (row4 T).getD j 0 = ((T j).n : Int) := by
  match j, h with
  | 0, _ => rfl
  | 1, _ => rfl
  | 2, _ => rfl
  | 3, _ => rfl
theorem row4_ext {T U : Nat → G} (h : ∀ j, j < 4 → T j = U j) : row4 T = row4 U := by
  unfold row4
  rw [h 0 (by omega), h 1 (by omega), h 2 (by omega), h 3 (by omega)]
theorem row4_set (T : Nat → G) (j : Nat) (h : j < 4) (x : G) : (row4 T).set j (x.n : Int) = row4 (fun i => if i = j then x else T i) := by
  match j, h with
  | 0, _ => rfl
  | 1, _ => rfl
  | 2, _ => rfl
  | 3, _ => rfl
def modP (x : G) (k i : Nat) (T : Nat → G) : Nat → G := fun j => if k + i < j then T j + x * T (j - 1) else T j
theorem modP_top (x : G) (k i : Nat) (T : Nat → G) (h : 3 ≤ k + i) (j : Nat) (hj : j < 4) : modP x k i T j = T j := by
  unfold modP
  rw [if_neg (by omega)]
theorem modP_step (x : G) (k i : Nat) (T : Nat → G) (h : 1 ≤ i) (j : Nat) : (if j = k + i then T (k + i) + x * T (k + (i - 1)) else modP x k i T j) = modP x k (i - 1) T j := by
  unfold modP
  by_cases e : j = k + i
  · subst e
    rw [if_pos rfl, if_pos (by omega), show k + i - 1 = k + (i - 1) by omega]
  · rw [if_neg e]
    by_cases h2 : k + i < j
    · rw [if_pos h2, if_pos (by omega)]
    · rw [if_neg h2, if_neg (by omega)]
def modT (N : Nat) (T : Nat → G) (k : Nat) : List Nat → (Nat → G)
  | [] => T
  | p :: E => modT N (modP (loc N p) k 0 T) (k + 1) E
theorem modT_snoc (N : Nat) : ∀ (E : List Nat) (T : Nat → G) (k p : Nat), modT N T k (E ++ [p]) = modP (loc N p) (k + E.length) 0 (modT N T k E)
  | [], T, k, p => rfl
  | q :: E, T, k, p => by
    show modT N _ (k + 1) (E ++ [p]) = _
    rw [modT_snoc N E _ (k + 1) p, List.length_cons, show k + 1 + E.length = k + (E.length + 1) by omega]
    rfl
/-- What is left of the syndromes. -/
def modL (l : List G) (E : List Nat) : List G := (List.range (4 - E.length)).map fun i => modT l.length (syn l) 0 E (E.length + i)
theorem take_snoc (E : List Nat) (k : Nat) (h : k < E.length) : E.take (k + 1) = E.take k ++ [E.getD k 0] := by
  rw [List.take_add_one, List.getD_eq_getElem?_getD, List.getElem?_eq_getElem h]
  rfl
set_option maxHeartbeats 8000000 in
set_option maxRecDepth 100000 in
theorem modified_any (A : Option Addr) (c : Nat) (l : List G) (A1 : Option Addr) (c1 : Nat) (P : List Nat) (w : World) (hp : PW w) (hr : Kd.C (Kd.int .u8) w A l.length (ns l)) (hc : l.length ≤ c) (hn : l.length ≤ 63) (hr1 : Kd.C (Kd.int .i64) w A1 P.length (is P)) (hc1 : P.length ≤ c1) (hn1 : P.length ≤ 4) (hP : ∀ p ∈ P, p < l.length) :
    Calls Tryz.prog 81 #[.slice A l.length c, .slice A1 P.length c1] w fun e w' => ∃ ga oa c2, e = .returned (.slice (some ⟨ga, oa, none⟩) (4 - P.length : Nat) c2) ∧ (4 - P.length) ≤ c2 ∧ Kd.C (Kd.int .u8) w' (some ⟨ga, oa, none⟩) (4 - P.length) (ns (modL l P)) ∧ Below w.heap.size w w' := by
  have HSY := Aside0.mk (syndromes_any A c l w hp hr hc hn)
  have HP := Aside0.mk hp
  have HR1 := Aside0.mk hr1
  have HP0 := Aside0.mk hP
  clear hp hr hr1 hP
  go_enter Tryz.func81, Tryz.ntmps81
  go_wp2_with fail
  refine HSY.out.mono ?_
  rintro e w1 ⟨rfl, hb1⟩
  unfold synV
  obtain ⟨w2, hw2⟩ : ∃ w2, w1.alloc (.cells #[.int .u8 ((syn l 0).n : Nat), .int .u8 ((syn l 1).n : Nat), .int .u8 ((syn l 2).n : Nat), .int .u8 ((syn l 3).n : Nat)] 179) = w2 := ⟨_, rfl⟩
  have hb2 : Below w.heap.size w w2 := by rw [← hw2]; exact hb1.alloc hb1.size _
  have hs2 : CRow (Value.int .u8) 0 w2 w1.heap.size (row4 (syn l)) := by rw [← hw2]; exact CRow.lit' _ _ w1 _ _ _ rfl
  have HB2 := Aside0.mk hb2
  have HCL := Aside0.mk (clone_u8 (some ⟨w1.heap.size, 0, none⟩) 4 (row4 (syn l)) w2 (hs2.reads (by simp [row4])) (by simp [row4]) (by simp [row4]))
  have HP2 := Aside0.mk (HP.out.below hb2)
  have HR2 := Aside0.mk (Kd.C_below HR1.out hb2)
  clear hb1 hb2 hs2 HSY HP HR1
  rw [row4_length] at HCL
  go_wp2_with (first | rw [hw2])
  refine HCL.out.mono ?_
  rintro e w3 ⟨v, rfl, ho, hb3⟩
  obtain ⟨g, c2, rfl, hc2, hgb, hrow⟩ := own_crow ho (by rw [row4_length]; omega)
  rw [row4_length] at hc2 ⊢
  have HRW := Aside0.mk hrow
  have HB3 := Aside0.mk (HB2.out.trans (hb3.mono HB2.out.size))
  have HP3 := Aside0.mk (HP2.out.below hb3)
  have HR3 := Aside0.mk (Kd.C_below HR2.out hb3)
  have HGB := Aside0.mk (show w2.heap.size ≤ g from hgb)
  have HW2 := Aside0.mk HB2.out.size
  have HBW := Aside0.mk hb3
  clear ho hb3 hrow hgb HCL HP3 HR3
  go_wp2_with fail
  go_loopw [6, 17] (fun t i wr => ∃ k : Nat, k ≤ P.length ∧ i = .int .i64 k ∧ (∃ a ct, t = .slice (some ⟨g, a, none⟩) (4 - k : Nat) ct ∧ 4 - k ≤ ct ∧ (k < 4 → a = k)) ∧ CRow (Value.int .u8) 0 wr g (row4 (modT l.length (syn l) 0 (P.take k))) ∧ Below w2.heap.size w2 wr) (fun _ i _ => P.length - (intOf i).toNat)
  case atStart => exact ⟨0, Nat.zero_le _, rfl, ⟨0, c2, rfl, hc2, fun _ => rfl⟩, HRW.out, HBW.out⟩
  case round =>
    obtain ⟨k, hk, rfl, ⟨a, ct, rfl, hct, ha⟩, hA, hB⟩ := hrel
    have HA := Aside0.mk hA
    have HB := Aside0.mk hB
    clear hA hB
    by_cases hpk : k < P.length
    · obtain rfl : a = k := ha (by omega)
      have hB' : Below w2.heap.size w2 wr := HB.out
      have HPr := Aside0.mk (HP2.out.below hB')
      have HRr := Aside0.mk (Kd.C_below HR2.out hB')
      obtain ⟨ad, rfl, hx⟩ := Kd.at_int HRr.out a (by omega) (by omega)
      rw [is_rd, Int.toNat_natCast] at hx
      have hpl : P.getD a 0 < l.length := HP0.out _ (getD_mem0 hpk)
      have HST := Aside0.mk (show modT l.length (syn l) 0 (P.take (a + 1)) = modP (loc l.length (P.getD a 0)) a 0 (modT l.length (syn l) 0 (P.take a)) by rw [take_snoc P a hpk, modT_snoc, List.length_take, Nat.min_eq_left (by omega), Nat.zero_add])
      generalize P.getD a 0 = p at hx hpl HST
      generalize modT l.length (syn l) 0 (P.take a) = T at HST HA
      have HPA : Aside0 (Calls Tryz.prog 110 #[.int .u8 2, .int .i64 (wrap64 (wrap64 ((l.length : Int) - 1) - (p : Int)))] wr fun e w' => e = .returned (.int .u8 ((loc l.length p).n : Nat)) ∧ Drawn0 wr w') := ⟨by
        rw [show wrap64 (wrap64 ((l.length : Int) - 1) - (p : Int)) = ((l.length - 1 - p : Nat) : Int) by unfold wrap64; omega]
        exact pow2_any _ wr HPr.out (by omega)⟩
      have HLB := Aside0.mk (show 1 ≤ l.length ∧ l.length ≤ 63 ∧ p < l.length by omega)
      obtain ⟨q, hq⟩ : ∃ q : Nat, q = 3 - a := ⟨_, rfl⟩
      have hn4 : 4 - a = q + 1 := by omega
      rw [hn4] at hct ⊢
      have hqa : q + a = 3 := by omega
      have HKP := Aside0.mk hpk
      clear hq hn4 hB' ha
      go_wp2_with fail
      refine (show Calls Tryz.prog 110 #[.int .u8 2, .int .i64 ((l.length : Int) - 1 - (p : Int))] wr _ from (by have := HPA.out; have h := HLB.out; rw [show wrap64 (wrap64 ((l.length : Int) - 1) - (p : Int)) = (l.length : Int) - 1 - (p : Int) by unfold wrap64; omega] at this; exact this)).mono ?_
      rintro e w5 ⟨rfl, hd5⟩
      have HA5 := Aside0.mk (HA.out.below hd5.below)
      have HB5 := Aside0.mk (HB.out.trans (hd5.below.mono HB.out.size))
      clear hd5 HPr HRr
      go_wp2_with fail
      have HPJ := Aside0.mk (HP2.out.below HB5.out)
      go_loopw [10] (fun i wr => ∃ j : Nat, j ≤ q ∧ i = .int .i64 j ∧ CRow (Value.int .u8) 0 wr g (row4 (modP (loc l.length p) a j T)) ∧ Below w2.heap.size w2 wr) (fun i _ => (intOf i).toNat)
      case atStart => exact ⟨q, Nat.le_refl _, by go_num, by rw [row4_ext (fun j hj => modP_top (loc l.length p) a q T (by omega) j hj)]; exact HA5.out, HB5.out⟩
      case round =>
        obtain ⟨i, hi, rfl, hA, hB⟩ := hrel
        have HA := Aside0.mk hA
        have HB := Aside0.mk hB
        clear hA hB
        by_cases hi0 : 1 ≤ i
        · have hx0 := HA.out.drew.cell (a + i) (by rw [row4_length]; omega)
          have hy0 := HA.out.drew.cell (a + (i - 1)) (by rw [row4_length]; omega)
          rw [row4_at _ _ (by omega)] at hx0 hy0
          have e1 : modP (loc l.length p) a i T (a + i) = T (a + i) := by unfold modP; rw [if_neg (by omega)]
          have e2 : modP (loc l.length p) a i T (a + (i - 1)) = T (a + (i - 1)) := by unfold modP; rw [if_neg (by omega)]
          rw [e1] at hx0
          rw [e2] at hy0
          have HSTEP := Aside0.mk (show (row4 (modP (loc l.length p) a i T)).set (a + i) ((T (a + i) + loc l.length p * T (a + (i - 1))).n : Int) = row4 (modP (loc l.length p) a (i - 1) T) by
            rw [row4_set _ _ (by omega)]
            exact row4_ext fun j _ => modP_step (loc l.length p) a i T hi0 j)
          have hB' : Below w2.heap.size w2 wr := HB.out
          have HPd := Aside0.mk (HP2.out.below hB').drew
          have HAd := Aside0.mk HA.out.drew
          have HBd := Aside0.mk HB.out.drew
          have hw1 : wrap64 ((i : Int) - 1) = ((i - 1 : Nat) : Int) := by unfold wrap64; omega
          have hgt : (0 : Int) < (i : Int) := by omega
          obtain ⟨i1, hi1⟩ : ∃ i1, i1 = i - 1 := ⟨_, rfl⟩
          rw [← hi1] at hw1 hy0 HSTEP
          have HI1 := Aside0.mk (show i = i1 + 1 by omega)
          have hxor := xor_n (T (a + i)) (loc l.length p * T (a + i1))
          generalize T (a + i) = x at hx0 hxor HSTEP
          generalize T (a + i1) = y at hy0 hxor HSTEP
          have hc1 := hx0
          have hc2' := hy0
          have hbi : (0 : Int) ≤ (i : Int) ∧ (i : Int) < (q : Int) + 1 := by omega
          have hbi1 : (0 : Int) ≤ (i1 : Int) ∧ (i1 : Int) < (q : Int) + 1 := by omega
          clear hx0 hy0 hB' e1 e2 hi1 hi0
          go_wp2_with fail
          refine start_ (n := 14) (S := fun w' => w'.cell? ⟨g, a + i, none⟩ = some (.int .u8 (x.n : Nat)) ∧ w'.cell? ⟨g, a + i1, none⟩ = some (.int .u8 (y.n : Nat))) (ds := [13]) #[false, false, false, false, false, false, false, false, false, false, false, false, false, false] (by kernel_rfl) rfl rfl ⟨hc1, hc2'⟩ (fun hHeld => ?_)
          generalize wr.drew = wd at hc1 hc2' HPd HAd HBd hHeld ⊢
          refine pure_ (i := 0) (N := some 34) (v := ?_) (a' := ?_) #[true, false, false, false, false, false, false, false, false, false, false, false, false, false] rfl rfl (by kernel_rfl) (fun _ _ _ h => h) (Or.inl ⟨by rfl, ?_⟩) ?_ ?_
          rotate_left
          · intro w'
            go_simp
            with_reducible rfl
          rotate_left
          · simp only [Act.put, List.setIfInBounds_toArray, List.set_cons_zero, List.set_cons_succ, i64_w, i32_w]
            rfl
          refine pure_ (i := 1) (N := some 35) (v := ?_) (a' := ?_) #[true, true, false, false, false, false, false, false, false, false, false, false, false, false] rfl rfl (by kernel_rfl) (fun _ _ _ h => h) (Or.inl ⟨by rfl, ?_⟩) ?_ ?_
          rotate_left
          · intro w'
            go_simp
            with_reducible rfl
          rotate_left
          · simp only [Act.put, List.setIfInBounds_toArray, List.set_cons_zero, List.set_cons_succ, i64_w, i32_w]
            rfl
          refine pure_ (i := 2) (N := some 36) (v := ?_) (a' := ?_) #[true, true, true, false, false, false, false, false, false, false, false, false, false, false] rfl rfl (by kernel_rfl) (fun _ _ _ h => h) (Or.inl ⟨by rfl, ?_⟩) ?_ ?_
          rotate_left
          · intro w'
            go_simp
            with_reducible rfl
          rotate_left
          · simp only [Act.put, List.setIfInBounds_toArray, List.set_cons_zero, List.set_cons_succ, i64_w, i32_w]
            rfl
          refine pure_ (i := 4) (N := some 38) (v := ?_) (a' := ?_) #[true, true, true, false, true, false, false, false, false, false, false, false, false, false] rfl rfl (by kernel_rfl) (fun _ _ _ h => h) (Or.inl ⟨by rfl, ?_⟩) ?_ ?_
          rotate_left
          · intro w'
            go_simp
            with_reducible rfl
          rotate_left
          · simp only [Act.put, List.setIfInBounds_toArray, List.set_cons_zero, List.set_cons_succ, i64_w, i32_w]
            rfl
          refine pure_ (i := 5) (N := some 39) (v := ?_) (a' := ?_) #[true, true, true, false, true, true, false, false, false, false, false, false, false, false] rfl rfl (by kernel_rfl) (fun _ _ _ h => h) (Or.inl ⟨by rfl, ?_⟩) ?_ ?_
          rotate_left
          · intro w'
            go_simp
            with_reducible rfl
          rotate_left
          · simp only [Act.put, List.setIfInBounds_toArray, List.set_cons_zero, List.set_cons_succ, i64_w, i32_w]
            rfl
          refine pure_ (i := 6) (N := some 40) (v := ?_) (a' := ?_) #[true, true, true, false, true, true, true, false, false, false, false, false, false, false] rfl rfl (by kernel_rfl) (fun _ _ _ h => h) (Or.inl ⟨by rfl, ?_⟩) ?_ ?_
          rotate_left
          · intro w'
            go_simp
            with_reducible rfl
          rotate_left
          · simp only [Act.put, List.setIfInBounds_toArray, List.set_cons_zero, List.set_cons_succ, i64_w, i32_w]
            rfl
          refine pure_ (i := 7) (N := some 41) (v := ?_) (a' := ?_) #[true, true, true, false, true, true, true, true, false, false, false, false, false, false] rfl rfl (by kernel_rfl) (fun _ _ _ h => h) (Or.inl ⟨by rfl, ?_⟩) ?_ ?_
          rotate_left
          · intro w'
            go_simp
            with_reducible rfl
          rotate_left
          · simp only [Act.put, List.setIfInBounds_toArray, List.set_cons_zero, List.set_cons_succ, i64_w, i32_w]
            rfl
          refine pure_ (i := 8) (N := some 42) (v := ?_) (a' := ?_) #[true, true, true, false, true, true, true, true, true, false, false, false, false, false] rfl rfl (by kernel_rfl) (fun _ _ _ h => h) (Or.inl ⟨by rfl, ?_⟩) ?_ ?_
          rotate_left
          · intro w'
            go_simp
            with_reducible rfl
          rotate_left
          · simp only [Act.put, List.setIfInBounds_toArray, List.set_cons_zero, List.set_cons_succ, i64_w, i32_w]
            rfl
          refine take_ (i := 3) (N := some 37) (v := ?_) (a' := ?_) #[true, true, true, true, true, true, true, true, true, false, false, false, false, false] rfl rfl (by kernel_rfl) (fun _ _ _ h => h) (Or.inl ⟨by rfl, ?_⟩) hHeld ?_ ?_
          rotate_left
          · rintro w' ⟨s0, s1⟩
            go_simp
            with_reducible rfl
          rotate_left
          · simp only [Act.put, List.setIfInBounds_toArray, List.set_cons_zero, List.set_cons_succ, i64_w, i32_w]
            rfl
          refine take_ (i := 9) (N := some 43) (v := ?_) (a' := ?_) #[true, true, true, true, true, true, true, true, true, true, false, false, false, false] rfl rfl (by kernel_rfl) (fun _ _ _ h => h) (Or.inl ⟨by rfl, ?_⟩) hHeld ?_ ?_
          rotate_left
          · rintro w' ⟨s0, s1⟩
            go_simp
            with_reducible rfl
          rotate_left
          · simp only [Act.put, List.setIfInBounds_toArray, List.set_cons_zero, List.set_cons_succ, i64_w, i32_w]
            rfl
          refine one_ (i := 10) (N := some 44) #[true, true, true, true, true, true, true, true, true, true, true, false, false, false] rfl rfl (by kernel_rfl) (by decide) (fun K hK => ?_)
          refine goes_ Tryz.func112 (by kernel_rfl) rfl #[.int .u8 ((loc l.length p).n : Nat), .int .u8 (y.n : Nat)] (by rfl) rfl rfl (by simp only [List.map_toArray, List.map_cons, List.map_nil]; rfl) ?_
          with_reducible refine (smul_any (loc l.length p) y _ HPd.out).mono ?_
          rintro e w9 ⟨rfl, hb9⟩
          refine ⟨_, rfl, ?_⟩
          have hA9 := HAd.out.below hb9
          have hs1 := (hb9.cell (p := ⟨g, a + i, none⟩) HAd.out.lt).trans hc1
          have hs2 := (hb9.cell (p := ⟨g, a + i1, none⟩) HAd.out.lt).trans hc2'
          have hfr := hA9.free (a + i) (by rw [row4_length]; omega)
          have HA10 := Aside0.mk hA9
          have HB10 := Aside0.mk hb9
          clear hb9 hA9
          refine hK.out _ _ ⟨hs1, hs2⟩ (fun hHeld => ?_)
          clear hK K
          refine norm_ (a' := ?_) ?_ ?_
          rotate_left
          · show Act.put _ (some 44) _ = _
            simp only [Act.put, List.setIfInBounds_toArray, List.set_cons_zero, List.set_cons_succ, i64_w, i32_w]
            rfl
          refine pure_ (i := 11) (N := some 45) (v := ?_) (a' := ?_) #[true, true, true, true, true, true, true, true, true, true, true, true, false, false] rfl rfl (by kernel_rfl) (fun _ _ _ h => h) (Or.inl ⟨by rfl, ?_⟩) ?_ ?_
          rotate_left
          · intro w'
            go_simp
            with_reducible rfl
          rotate_left
          · simp only [Act.put, List.setIfInBounds_toArray, List.set_cons_zero, List.set_cons_succ, i64_w, i32_w]
            rfl
          refine pure_ (i := 12) (N := some 46) (v := ?_) (a' := ?_) #[true, true, true, true, true, true, true, true, true, true, true, true, true, false] rfl rfl (by kernel_rfl) (fun _ _ _ h => h) (Or.inl ⟨by rfl, ?_⟩) ?_ ?_
          rotate_left
          · intro w'
            go_simp
            with_reducible rfl
          rotate_left
          · simp only [Act.put, List.setIfInBounds_toArray, List.set_cons_zero, List.set_cons_succ, i64_w, i32_w]
            rfl
          refine last_ (i := 13) (N := none) #[true, true, true, true, true, true, true, true, true, true, true, true, true, true] rfl rfl (by kernel_rfl) (by decide) (fun K hK => ?_)
          refine skip_ (w1 := ?_) (by rfl) rfl ?_ ?_
          rotate_left
          · go_simp
            rfl
          refine hK.out _ _ ?_
          clear hK K
          refine done_ (by kernel_rfl) ?_
          have HSd := Aside0.mk (show w2.heap.size ≤ wd.heap.size from HBd.out.size)
          have HNA := Aside0.mk (show CRow (Value.int .u8) 0 (w9.setCell ⟨g, a + i, none⟩ (.int .u8 ((x + loc l.length p * y).n : Nat))) g (row4 (modP (loc l.length p) a i1 T)) by rw [← HSTEP.out]; exact HA10.out.set (a + i) (by rw [row4_length]; omega) _)
          have HNB := Aside0.mk ((HBd.out.trans (HB10.out.mono HSd.out)).setCell (p := ⟨g, a + i, none⟩) HGB.out (.int .u8 ((x + loc l.length p * y).n : Nat)))
          go_wp2
          go_roundw
          case rel => exact ⟨i1, by omega, by have := HI1.out; subst this; go_num, HNA.out, HNB.out⟩
          case measure => simp [intOf]; omega
        · obtain rfl : i = 0 := by omega
          rw [← HST.out] at HA
          go_wp2_with fail
          go_roundw
          case rel =>
            refine ⟨a + 1, by have := HKP.out; omega, by go_num, ?_, HA.out, HB.out⟩
            by_cases h1 : ct = 1
            · rw [if_pos h1]
              exact ⟨a, ct - 1, by rw [show 4 - (a + 1) = q by omega], by omega, fun h => by omega⟩
            · rw [if_neg h1]
              exact ⟨a + 1, ct - 1, by rw [show 4 - (a + 1) = q by omega], by omega, fun _ => rfl⟩
          case measure => have := HKP.out; simp [intOf]; omega
    · obtain rfl : k = P.length := by omega
      have hpf : ¬ ((P.length : Int) < (P.length : Int)) := by omega
      rw [List.take_length] at HA
      have HC : Aside0 (Kd.C (Kd.int .u8) wr (some ⟨g, a, none⟩) (4 - P.length) (ns (modL l P))) := ⟨Kd.C_of_reads (d := (0 : Int)) (h1 := fun _ => rfl) ⟨by rw [ns_length]; simp [modL], by omega, fun hpos => ⟨_, rfl, fun j hj => by
        have hml : (modL l P).length = 4 - P.length := by simp [modL]
        have hja : a = P.length := ha (by omega)
        subst hja
        have hcell := HA.out.cell (P.length + j) (by rw [row4_length]; omega)
        rw [row4_at _ _ (by omega)] at hcell
        rw [ns_at]
        have e : (modL l P).getD j 0 = modT l.length (syn l) 0 P (P.length + j) := by
          unfold modL
          rw [List.getD_eq_getElem?_getD, List.getElem?_map, List.getElem?_range (by omega)]
          rfl
        rw [e]
        by_cases h0 : j = 0
        · subst h0; simpa [Addr.add] using hcell
        · simpa [Addr.add, h0] using hcell⟩⟩⟩
      have HBF := Aside0.mk (HB2.out.trans (HB.out.mono HW2.out))
      have HCT := Aside0.mk hct
      go_wp2_with fail
      go_ret
      exact ⟨_, _, _, rfl, by have := HCT.out; omega, HC.out, HBF.out⟩
end Go.Proofs.YtajccgmeminlhaaGreatDoor
