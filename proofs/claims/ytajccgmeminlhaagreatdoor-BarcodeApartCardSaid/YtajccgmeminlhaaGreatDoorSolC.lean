/- solomon.solve: walk. -/
import Derived.Test.YtajccgmeminlhaaGreatDoorSolPure
import Derived.BigRegion
import Derived.StillTailTactics
set_option linter.unusedVariables false
set_option linter.unusedSimpArgs false
namespace Go.Proofs.YtajccgmeminlhaaGreatDoor
open Go.RowKit Go.Shelf Go.Proofs.YtajccgmeminlhaaGreatDoorW.PrintWords Go.Proofs.YtajccgmeminlhaaGreatDoorW.PrintLast Go.Proofs.YtajccgmeminlhaaGreatDoor.Q Go.Proofs.YtajccgmeminlhaaGreatDoor.Gf
/-- How solve hands its answer over. -/
def SolveR (B : Nat) (w : World) (e : Ending) : Option (List G) → Prop
  | some o => ∃ g c, e = .returned (.tuple #[.slice (some ⟨g, 0, none⟩) o.length c, .bool true]) ∧ o.length ≤ c ∧ B ≤ g ∧ CRow (Value.int .u8) 0 w g (ns o)
  | none => e = .returned (.tuple #[.slice none 0 0, .bool false])
set_option maxHeartbeats 8000000 in
set_option maxRecDepth 1000000 in
theorem solve_any (A : Option Addr) (c : Nat) (l : List G) (A1 : Option Addr) (c1 : Nat) (P : List Nat) (w : World) (hp : PW w) (hr : Kd.C (Kd.int .u8) w A l.length (ns l)) (hc : l.length ≤ c) (hn : l.length ≤ 63) (hr1 : Kd.C (Kd.int .i64) w A1 P.length (is P)) (hc1 : P.length ≤ c1) (hn1 : P.length ≤ 4) (hP : ∀ p ∈ P, p < l.length) (hd : P.Nodup) :
    Calls Tryz.prog 76 #[.slice A l.length c, .slice A1 P.length c1] w fun e w' => ∃ r, SolveS l P r ∧ SolveR w.heap.size w' e r ∧ Below w.heap.size w w' := by
  have hpiv := pivots hn hP hd hn1
  have HSY := Aside0.mk (syndromes_any A c l w hp hr hc hn)
  have HP := Aside0.mk hp
  have HR := Aside0.mk hr
  have HR1 := Aside0.mk hr1
  clear hp hr hr1
  go_enter Tryz.func76, Tryz.ntmps76
  go_wp2_with fail
  refine HSY.out.mono ?_
  rintro e w1 ⟨rfl, hb1⟩
  have HB1 := Aside0.mk hb1
  have HP1 := Aside0.mk (HP.out.below hb1)
  have HR11 := Aside0.mk (Kd.C_below HR1.out hb1)
  clear hb1 HSY HP HR HR1
  unfold synV
  obtain ⟨w3, hw3⟩ : ∃ w3, w1.alloc (.cells #[.int .u8 ((syn l 0).n : Nat), .int .u8 ((syn l 1).n : Nat), .int .u8 ((syn l 2).n : Nat), .int .u8 ((syn l 3).n : Nat)] 179) = w3 := ⟨_, rfl⟩
  have hb3 : Below w1.heap.size w1 w3 := by rw [← hw3]; exact (Below.refl _ _).alloc (Nat.le_refl _) _
  have hs3 : CRow (fun x : G => Value.int .u8 (x.n : Nat)) 0 w3 w1.heap.size [syn l 0, syn l 1, syn l 2, syn l 3] := by rw [← hw3]; exact CRow.lit' _ _ w1 _ _ _ rfl
  have hz3 : w3.heap.size = w1.heap.size + 1 := by rw [← hw3]; simp
  obtain ⟨w4, hw4⟩ : ∃ w4, w3.alloc (.cells #[.int .u8 0, .int .u8 0, .int .u8 0, .int .u8 0, .int .u8 0, .int .u8 0, .int .u8 0, .int .u8 0, .int .u8 0, .int .u8 0, .int .u8 0, .int .u8 0, .int .u8 0, .int .u8 0, .int .u8 0, .int .u8 0, .int .u8 0, .int .u8 0, .int .u8 0, .int .u8 0] 182) = w4 := ⟨_, rfl⟩
  have hb4 : Below w3.heap.size w3 w4 := by rw [← hw4]; exact (Below.refl _ _).alloc (Nat.le_refl _) _
  have hm4 : MRow w4 w3.heap.size (fillM l P 0 0) := by
    have hr := CRow.lit' (Value.int .u8) (0 : Int) w3 182 [0, 0, 0, 0, 0, 0, 0, 0, 0, 0, 0, 0, 0, 0, 0, 0, 0, 0, 0, 0] _ rfl
    change CRow (Value.int .u8) 0 (w3.alloc (.cells #[.int .u8 0, .int .u8 0, .int .u8 0, .int .u8 0, .int .u8 0, .int .u8 0, .int .u8 0, .int .u8 0, .int .u8 0, .int .u8 0, .int .u8 0, .int .u8 0, .int .u8 0, .int .u8 0, .int .u8 0, .int .u8 0, .int .u8 0, .int .u8 0, .int .u8 0, .int .u8 0] 182)) _ _ at hr
    rw [hw4] at hr
    refine ⟨hr.lt, fun i j hi hj => ?_, fun i j hi hj => hr.free _ (by simp; omega)⟩
    rw [hr.cell _ (by simp; omega), fillM_zero]
    have : ∀ k : Nat, ([0, 0, 0, 0, 0, 0, 0, 0, 0, 0, 0, 0, 0, 0, 0, 0, 0, 0, 0, 0] : List Int).getD k 0 = 0 := fun k => by
      rw [show ([0, 0, 0, 0, 0, 0, 0, 0, 0, 0, 0, 0, 0, 0, 0, 0, 0, 0, 0, 0] : List Int) = List.replicate 20 0 from rfl, List.getD_eq_getElem?_getD, List.getElem?_replicate]
      split <;> rfl
    rw [this]
    rfl
  have HB4 := Aside0.mk hb4
  have HM4 := Aside0.mk hm4
  have HS3 := Aside0.mk hs3
  have HP3 := Aside0.mk (HP1.out.below hb3)
  have HR13 := Aside0.mk (Kd.C_below HR11.out hb3)
  have HB3 := Aside0.mk (HB1.out.trans (hb3.mono HB1.out.size))
  have HZ3 := Aside0.mk hz3
  clear hb3 hs3 hz3 hb4 hm4 HB1 HP1 HR11
  go_wp2_with (first | rw [hw3] | rw [hw4])
  obtain ⟨g, hg⟩ : ∃ g, w1.heap.size = g := ⟨_, rfl⟩
  obtain ⟨m, hm⟩ : ∃ m, w3.heap.size = m := ⟨_, rfl⟩
  rw [hg, hm]
  rw [hm] at HB4 HM4
  rw [hg] at HS3
  have HGM := Aside0.mk (show g < m by have := HZ3.out; omega)
  have HGM2 := Aside0.mk hg
  have HMM := Aside0.mk hm
  have HP0 := Aside0.mk hP
  clear hg hP
  go_loopw [23] (fun i wr => ∃ j : Nat, j ≤ 4 ∧ i = .int .i64 j ∧ MRow wr m (fillM l P j 0) ∧ Below m w3 wr) (fun i _ => 4 - (intOf i).toNat)
  case atStart => exact ⟨0, Nat.zero_le _, rfl, HM4.out, HB4.out⟩
  case round =>
    obtain ⟨j, hj, rfl, hM, hB⟩ := hrel
    have HM := Aside0.mk hM
    have HB := Aside0.mk hB
    clear hM hB
    by_cases hpj : j < 4
    · go_wp2_with fail
      obtain ⟨wo, rfl⟩ : ∃ wo, wo = wr := ⟨_, rfl⟩
      go_loopw [28] (fun i wr => ∃ k : Nat, k ≤ P.length ∧ i = .int .i64 k ∧ MRow wr m (fillM l P j k) ∧ Below m w3 wr) (fun i _ => P.length - (intOf i).toNat)
      case atStart => exact ⟨0, Nat.zero_le _, rfl, HM.out, HB.out⟩
      case round =>
        obtain ⟨k, hk, rfl, hM2, hB2⟩ := hrel
        have HM2 := Aside0.mk hM2
        have HB2 := Aside0.mk hB2
        have hB2' : Below w3.heap.size w3 wr := by rw [HMM.out]; exact hB2
        have HP2 := Aside0.mk (HP3.out.below hB2')
        have HR2 := Aside0.mk (Kd.C_below HR13.out hB2')
        clear hM2 hB2 hB2'
        by_cases hpk : k < P.length
        · obtain ⟨ad, rfl, hx⟩ := Kd.at_int HR2.out k (by omega) (by omega)
          rw [is_rd, Int.toNat_natCast] at hx
          have hpl : P.getD k 0 < l.length := HP0.out _ (by rw [List.getD_eq_getElem?_getD, List.getElem?_eq_getElem hpk]; exact List.getElem_mem hpk)
          have hcell := HM2.out.cell j k hpj (by omega)
          have hfree := HM2.out.free j k hpj (by omega)
          have HST := Aside0.mk (fun a b => fillM_step l P j k a b hpk)
          generalize P.getD k 0 = p at hx hpl HST
          obtain ⟨q, hq⟩ : ∃ q, l.length - 1 - p = q := ⟨_, rfl⟩
          have hql : loc l.length p = g2 ^ q := by unfold loc; rw [hq]
          have HNE := Aside0.mk (show (g2 ^ q).n ≠ 0 by rw [← hql]; exact loc_ne _ _)
          rw [hql] at HST
          have HSZ := Aside0.mk (show m ≤ wr.drew.heap.size from (HB2.out.drew).size |> fun h => by rw [← HMM.out]; exact h)
          have HPA : Aside0 (∀ w : World, PW w → Calls Tryz.prog 110 #[.int .u8 2, .int .i64 (wrap64 (wrap64 ((l.length : Int) - 1) - (p : Int)))] w fun e w' => e = .returned (.int .u8 ((g2 ^ q).n : Nat)) ∧ Drawn0 w w') := ⟨fun w hp => by
            rw [show wrap64 (wrap64 ((l.length : Int) - 1) - (p : Int)) = (q : Int) by unfold wrap64; omega]
            exact pow2_any q w hp (by omega)⟩
          have HPB : Aside0 (∀ w : World, PW w → Calls Tryz.prog 110 #[.int .u8 ((g2 ^ q).n : Nat), .int .i64 (wrap64 ((j : Int) + 1))] w fun e w' => e = .returned (.int .u8 (((g2 ^ q) ^ (j + 1)).n : Nat)) ∧ Drawn0 w w') := ⟨fun w hp => by
            rw [show wrap64 ((j : Int) + 1) = ((j + 1 : Nat) : Int) by unfold wrap64; omega]
            exact spower_any (g2 ^ q) (j + 1) w hp HNE.out (by omega)⟩
          have hbj : (0 : Int) ≤ (j : Int) ∧ (j : Int) < 4 := by omega
          have hbk : (0 : Int) ≤ (k : Int) ∧ (k : Int) < 5 := by omega
          clear hq hql
          go_wp2_with fail
          refine start_ (n := 14) (S := fun w' => True) (ds := []) #[false, false, false, false, false, false, false, false, false, false, false, false, false, false] (by kernel_rfl) rfl rfl trivial (fun hHeld => ?_)
          refine pure_ (i := 0) (N := some 33) (v := ?_) (a' := ?_) #[true, false, false, false, false, false, false, false, false, false, false, false, false, false] rfl rfl (by kernel_rfl) (fun _ _ _ h => h) (Or.inl ⟨by rfl, ?_⟩) ?_ ?_
          rotate_left
          · intro w'
            go_simp
            with_reducible rfl
          rotate_left
          · simp only [Act.put, List.setIfInBounds_toArray, List.set_cons_zero, List.set_cons_succ, i64_w, i32_w]
            rfl
          refine pure_ (i := 1) (N := some 34) (v := ?_) (a' := ?_) #[true, true, false, false, false, false, false, false, false, false, false, false, false, false] rfl rfl (by kernel_rfl) (fun _ _ _ h => h) (Or.inl ⟨by rfl, ?_⟩) ?_ ?_
          rotate_left
          · intro w'
            go_simp
            with_reducible rfl
          rotate_left
          · simp only [Act.put, List.setIfInBounds_toArray, List.set_cons_zero, List.set_cons_succ, i64_w, i32_w]
            rfl
          refine pure_ (i := 2) (N := some 35) (v := ?_) (a' := ?_) #[true, true, true, false, false, false, false, false, false, false, false, false, false, false] rfl rfl (by kernel_rfl) (fun _ _ _ h => h) (Or.inl ⟨by rfl, ?_⟩) ?_ ?_
          rotate_left
          · intro w'
            go_simp
            with_reducible rfl
          rotate_left
          · simp only [Act.put, List.setIfInBounds_toArray, List.set_cons_zero, List.set_cons_succ, i64_w, i32_w]
            rfl
          refine pure_ (i := 3) (N := some 36) (v := ?_) (a' := ?_) #[true, true, true, true, false, false, false, false, false, false, false, false, false, false] rfl rfl (by kernel_rfl) (fun _ _ _ h => h) (Or.inl ⟨by rfl, ?_⟩) ?_ ?_
          rotate_left
          · intro w'
            go_simp
            with_reducible rfl
          rotate_left
          · simp only [Act.put, List.setIfInBounds_toArray, List.set_cons_zero, List.set_cons_succ, i64_w, i32_w]
            rfl
          refine pure_ (i := 4) (N := some 37) (v := ?_) (a' := ?_) #[true, true, true, true, true, false, false, false, false, false, false, false, false, false] rfl rfl (by kernel_rfl) (fun _ _ _ h => h) (Or.inl ⟨by rfl, ?_⟩) ?_ ?_
          rotate_left
          · intro w'
            go_simp
            with_reducible rfl
          rotate_left
          · simp only [Act.put, List.setIfInBounds_toArray, List.set_cons_zero, List.set_cons_succ, i64_w, i32_w]
            rfl
          refine pure_ (i := 5) (N := some 38) (v := ?_) (a' := ?_) #[true, true, true, true, true, true, false, false, false, false, false, false, false, false] rfl rfl (by kernel_rfl) (fun _ _ _ h => h) (Or.inl ⟨by rfl, ?_⟩) ?_ ?_
          rotate_left
          · intro w'
            go_simp
            with_reducible rfl
          rotate_left
          · simp only [Act.put, List.setIfInBounds_toArray, List.set_cons_zero, List.set_cons_succ, i64_w, i32_w]
            rfl
          refine pure_ (i := 6) (N := some 39) (v := ?_) (a' := ?_) #[true, true, true, true, true, true, true, false, false, false, false, false, false, false] rfl rfl (by kernel_rfl) (fun _ _ _ h => h) (Or.inl ⟨by rfl, ?_⟩) ?_ ?_
          rotate_left
          · intro w'
            go_simp
            with_reducible rfl
          rotate_left
          · simp only [Act.put, List.setIfInBounds_toArray, List.set_cons_zero, List.set_cons_succ, i64_w, i32_w]
            rfl
          refine pure_ (i := 8) (N := some 41) (v := ?_) (a' := ?_) #[true, true, true, true, true, true, true, false, true, false, false, false, false, false] rfl rfl (by kernel_rfl) (fun _ _ _ h => h) (Or.inl ⟨by rfl, ?_⟩) ?_ ?_
          rotate_left
          · intro w'
            go_simp
            with_reducible rfl
          rotate_left
          · simp only [Act.put, List.setIfInBounds_toArray, List.set_cons_zero, List.set_cons_succ, i64_w, i32_w]
            rfl
          refine pure_ (i := 9) (N := some 42) (v := ?_) (a' := ?_) #[true, true, true, true, true, true, true, false, true, true, false, false, false, false] rfl rfl (by kernel_rfl) (fun _ _ _ h => h) (Or.inl ⟨by rfl, ?_⟩) ?_ ?_
          rotate_left
          · intro w'
            go_simp
            with_reducible rfl
          rotate_left
          · simp only [Act.put, List.setIfInBounds_toArray, List.set_cons_zero, List.set_cons_succ, i64_w, i32_w]
            rfl
          refine pure_ (i := 11) (N := some 44) (v := ?_) (a' := ?_) #[true, true, true, true, true, true, true, false, true, true, false, true, false, false] rfl rfl (by kernel_rfl) (fun _ _ _ h => h) (Or.inl ⟨by rfl, ?_⟩) ?_ ?_
          rotate_left
          · intro w'
            go_simp
            with_reducible rfl
          rotate_left
          · simp only [Act.put, List.setIfInBounds_toArray, List.set_cons_zero, List.set_cons_succ, i64_w, i32_w]
            rfl
          refine one_ (i := 7) (N := some 40) #[true, true, true, true, true, true, true, true, true, true, false, true, false, false] rfl rfl (by kernel_rfl) (by decide) (fun K hK => ?_)
          refine goes_ Tryz.func110 (by kernel_rfl) rfl #[.int .u8 2, .int .i64 (wrap64 (wrap64 ((l.length : Int) - 1) - (p : Int)))] (by rfl) rfl rfl (by simp only [List.map_toArray, List.map_cons, List.map_nil]; rfl) ?_
          with_reducible refine (HPA.out _ HP2.out.drew).mono ?_
          rintro e w5 ⟨rfl, hd5⟩
          refine ⟨_, rfl, ?_⟩
          have HD5 := Aside0.mk (show Drawn0 wr.drew w5 from hd5)
          clear hd5
          refine hK.out _ _ trivial (fun hHeld => ?_)
          clear hK K
          refine norm_ (a' := ?_) ?_ ?_
          rotate_left
          · show Act.put _ (some 40) _ = _
            simp only [Act.put, List.setIfInBounds_toArray, List.set_cons_zero, List.set_cons_succ, i64_w, i32_w]
            rfl
          refine one_ (i := 10) (N := some 43) #[true, true, true, true, true, true, true, true, true, true, true, true, false, false] rfl rfl (by kernel_rfl) (by decide) (fun K hK => ?_)
          refine goes_ Tryz.func110 (by kernel_rfl) rfl #[.int .u8 ((g2 ^ q).n : Nat), .int .i64 (wrap64 ((j : Int) + 1))] (by rfl) rfl rfl (by simp only [List.map_toArray, List.map_cons, List.map_nil]; rfl) ?_
          with_reducible refine (HPB.out _ (HP2.out.drew.drawn HD5.out)).mono ?_
          rintro e w6 ⟨rfl, hd6⟩
          refine ⟨_, rfl, ?_⟩
          have hb6 := (drawn_trans HD5.out hd6).below
          have hM6 := HM2.out.drew.below hb6
          have hcell6 := hM6.cell j k hpj (by omega)
          have hfree6 := hM6.free j k hpj (by omega)
          have HNM := Aside0.mk ((hM6.set j k hpj (by omega) ((g2 ^ q) ^ (j + 1))).ext (fun a b _ _ => HST.out a b))
          have HNB := Aside0.mk (((HB2.out.drew).trans (hb6.mono HSZ.out)).setCell (p := ⟨m, j * 5 + k, none⟩) (Nat.le_refl _) (.int .u8 (((g2 ^ q) ^ (j + 1)).n : Nat)))
          clear hd6 hb6 hM6
          refine hK.out _ _ trivial (fun hHeld => ?_)
          clear hK K
          refine norm_ (a' := ?_) ?_ ?_
          rotate_left
          · show Act.put _ (some 43) _ = _
            simp only [Act.put, List.setIfInBounds_toArray, List.set_cons_zero, List.set_cons_succ, i64_w, i32_w]
            rfl
          refine pure_ (i := 12) (N := some 45) (v := ?_) (a' := ?_) #[true, true, true, true, true, true, true, true, true, true, true, true, true, false] rfl rfl (by kernel_rfl) (fun _ _ _ h => h) (Or.inl ⟨by rfl, ?_⟩) ?_ ?_
          rotate_left
          · intro w'
            go_simp
            with_reducible rfl
          rotate_left
          · simp only [Act.put, List.setIfInBounds_toArray, List.set_cons_zero, List.set_cons_succ, i64_w, i32_w]
            rfl
          refine one_ (i := 13) (N := none) #[true, true, true, true, true, true, true, true, true, true, true, true, true, true] rfl rfl (by kernel_rfl) (by decide) (fun K hK => ?_)
          refine skip_ (w1 := ?_) (by rfl) rfl ?_ ?_
          rotate_left
          · go_simp
            rfl
          refine hK.out _ _ trivial (fun hHeld => ?_)
          clear hK K
          refine done_ (by kernel_rfl) ?_
          go_wp2
          go_roundw
          case rel => exact ⟨k + 1, by omega, by go_num, HNM.out, HNB.out⟩
          case measure => simp [intOf]; omega
        · obtain rfl : k = P.length := by omega
          have hB2' : Below w3.heap.size w3 wr := by rw [HMM.out]; exact HB2.out
          have hcS := (HS3.out.below hB2').cell j (by simp; omega)
          rw [synL_at l j hpj] at hcS
          have hMd := HM2.out.drew
          have hcell := hMd.cell j P.length hpj (by omega)
          have hfree := hMd.free j P.length hpj (by omega)
          have HNM := Aside0.mk ((hMd.set j P.length hpj (by omega) (syn l j)).ext (fun a b _ _ => fillM_row l P j a b))
          have HNB := Aside0.mk (HB2.out.drew.setCell (p := ⟨m, j * 5 + P.length, none⟩) (Nat.le_refl _) (.int .u8 ((syn l j).n : Nat)))
          have hcS2 : wr.drew.cell? ⟨g, j, none⟩ = some (.int .u8 ((syn l j).n : Nat)) := hcS
          have hbj : (0 : Int) ≤ (j : Int) ∧ (j : Int) < 4 := by omega
          have hbk : (0 : Int) ≤ (P.length : Int) ∧ (P.length : Int) < 5 := by omega
          clear hB2' hMd
          go_wp2_with fail
          refine start_ (n := 8) (S := fun w' => w'.cell? ⟨g, j, none⟩ = some (.int .u8 ((syn l j).n : Nat))) (ds := [7]) #[false, false, false, false, false, false, false, false] (by kernel_rfl) rfl rfl (hcS2) (fun hHeld => ?_)
          refine pure_ (i := 0) (N := some 47) (v := ?_) (a' := ?_) #[true, false, false, false, false, false, false, false] rfl rfl (by kernel_rfl) (fun _ _ _ h => h) (Or.inl ⟨by rfl, ?_⟩) ?_ ?_
          rotate_left
          · intro w'
            go_simp
            with_reducible rfl
          rotate_left
          · simp only [Act.put, List.setIfInBounds_toArray, List.set_cons_zero, List.set_cons_succ, i64_w, i32_w]
            rfl
          refine pure_ (i := 1) (N := some 48) (v := ?_) (a' := ?_) #[true, true, false, false, false, false, false, false] rfl rfl (by kernel_rfl) (fun _ _ _ h => h) (Or.inl ⟨by rfl, ?_⟩) ?_ ?_
          rotate_left
          · intro w'
            go_simp
            with_reducible rfl
          rotate_left
          · simp only [Act.put, List.setIfInBounds_toArray, List.set_cons_zero, List.set_cons_succ, i64_w, i32_w]
            rfl
          refine pure_ (i := 2) (N := some 49) (v := ?_) (a' := ?_) #[true, true, true, false, false, false, false, false] rfl rfl (by kernel_rfl) (fun _ _ _ h => h) (Or.inl ⟨by rfl, ?_⟩) ?_ ?_
          rotate_left
          · intro w'
            go_simp
            with_reducible rfl
          rotate_left
          · simp only [Act.put, List.setIfInBounds_toArray, List.set_cons_zero, List.set_cons_succ, i64_w, i32_w]
            rfl
          refine pure_ (i := 3) (N := some 50) (v := ?_) (a' := ?_) #[true, true, true, true, false, false, false, false] rfl rfl (by kernel_rfl) (fun _ _ _ h => h) (Or.inl ⟨by rfl, ?_⟩) ?_ ?_
          rotate_left
          · intro w'
            go_simp
            with_reducible rfl
          rotate_left
          · simp only [Act.put, List.setIfInBounds_toArray, List.set_cons_zero, List.set_cons_succ, i64_w, i32_w]
            rfl
          refine pure_ (i := 5) (N := some 52) (v := ?_) (a' := ?_) #[true, true, true, true, false, true, false, false] rfl rfl (by kernel_rfl) (fun _ _ _ h => h) (Or.inl ⟨by rfl, ?_⟩) ?_ ?_
          rotate_left
          · intro w'
            go_simp
            with_reducible rfl
          rotate_left
          · simp only [Act.put, List.setIfInBounds_toArray, List.set_cons_zero, List.set_cons_succ, i64_w, i32_w]
            rfl
          refine take_ (i := 4) (N := some 51) (v := ?_) (a' := ?_) #[true, true, true, true, true, true, false, false] rfl rfl (by kernel_rfl) (fun _ _ _ h => h) (Or.inl ⟨by rfl, ?_⟩) hHeld ?_ ?_
          rotate_left
          · intro w' s0
            go_simp
            with_reducible rfl
          rotate_left
          · simp only [Act.put, List.setIfInBounds_toArray, List.set_cons_zero, List.set_cons_succ, i64_w, i32_w]
            rfl
          refine pure_ (i := 6) (N := some 53) (v := ?_) (a' := ?_) #[true, true, true, true, true, true, true, false] rfl rfl (by kernel_rfl) (fun _ _ _ h => h) (Or.inl ⟨by rfl, ?_⟩) ?_ ?_
          rotate_left
          · intro w'
            go_simp
            with_reducible rfl
          rotate_left
          · simp only [Act.put, List.setIfInBounds_toArray, List.set_cons_zero, List.set_cons_succ, i64_w, i32_w]
            rfl
          refine last_ (i := 7) (N := none) #[true, true, true, true, true, true, true, true] rfl rfl (by kernel_rfl) (by decide) (fun K hK => ?_)
          refine skip_ (w1 := ?_) (by rfl) rfl ?_ ?_
          rotate_left
          · go_simp
            rfl
          refine hK.out _ _ ?_
          clear hK K
          refine done_ (by kernel_rfl) ?_
          go_wp2
          go_roundw
          case rel => exact ⟨j + 1, by omega, by go_num, HNM.out, HNB.out⟩
          case measure => simp [intOf]; omega
    · have e4j : j = 4 := by omega
      have hpj4 : ¬ ((j : Int) < 4) := by omega
      have HM := Aside0.mk (show MRow wr m (fillM l P 4 0) by rw [← e4j]; exact HM.out)
      clear HM4 HB4
      have HPV := Aside0.mk hpiv
      clear hpiv
      go_wp2_with fail
      obtain ⟨wo, rfl⟩ : ∃ wo, wo = wr := ⟨_, rfl⟩
      go_loopw [56] (fun i wr => ∃ k : Nat, k ≤ P.length ∧ i = .int .i64 k ∧ (∃ M, Elim l P k M ∧ MRow wr m M) ∧ Below m w3 wr) (fun i _ => P.length - (intOf i).toNat)
      case atStart => exact ⟨0, Nat.zero_le _, rfl, ⟨_, .zero, HM.out⟩, HB.out⟩
      case round =>
        obtain ⟨k, hk, rfl, ⟨M, hE, hM⟩, hB2⟩ := hrel
        have HE := Aside0.mk hE
        have HM2 := Aside0.mk hM
        have HB2 := Aside0.mk hB2
        clear hE hM hB2 HM HB
        by_cases hpk : k < P.length
        · have HPI := Aside0.mk (HPV.out k M hpk HE.out)
          go_wp2_with fail
          go_loop [13] (fun i => ∃ t : Nat, k ≤ t ∧ t ≤ 4 ∧ i = .int .i64 t ∧ ∀ r, k ≤ r → r < t → M r k = 0) (fun i => 4 - (intOf i).toNat)
          case atStart => exact ⟨k, Nat.le_refl _, by omega, rfl, fun r h1 h2 => by omega⟩
          case round =>
            obtain ⟨t, hkt, ht4, rfl, hz⟩ := hrel
            have HZ := Aside0.mk hz
            clear hz
            have ht : t < 4 := by
              obtain ⟨r, h1, h2, h3⟩ := HPI.out
              by_cases h : t < 4
              · exact h
              · exact absurd (HZ.out r h1 (by omega)) h3
            have hct := HM2.out.cell t k ht (by omega)
            by_cases hne : M t k = 0
            · have h0 : (M t k).n = 0 := by rw [hne]; rfl
              rw [h0] at hct
              go_wp2_with fail
              go_round
              case rel => exact ⟨t + 1, by omega, by omega, by go_num, fun r h1 h2 => by
                by_cases h : r = t
                · rw [h]; exact hne
                · exact HZ.out r h1 (by omega)⟩
              case measure => simp [intOf]; omega
            · have h0 : ¬ ((M t k).n : Int) = 0 := fun h => hne (G.ext (by show (M t k).n = 0; omega))
              go_wp2_with fail
              have hMd := HM2.out.drew
              have hl0 : wr.drew.cell? ⟨m, t * 5, none⟩ = some (.int .u8 ((M t 0).n : Nat)) := hMd.cell t 0 ht (by omega)
              have hl1 := hMd.cell t 1 ht (by omega)
              have hl2 := hMd.cell t 2 ht (by omega)
              have hl3 := hMd.cell t 3 ht (by omega)
              have hl4 := hMd.cell t 4 ht (by omega)
              have hk0 : wr.drew.cell? ⟨m, k * 5, none⟩ = some (.int .u8 ((M k 0).n : Nat)) := hMd.cell k 0 (by omega) (by omega)
              have hk1 := hMd.cell k 1 (by omega) (by omega)
              have hk2 := hMd.cell k 2 (by omega) (by omega)
              have hk3 := hMd.cell k 3 (by omega) (by omega)
              have hk4 := hMd.cell k 4 (by omega) (by omega)
              have hf0 : wr.drew.frozen? ⟨m, k * 5, none⟩ = false := hMd.free k 0 (by omega) (by omega)
              have hf1 := hMd.free k 1 (by omega) (by omega)
              have hf2 := hMd.free k 2 (by omega) (by omega)
              have hf3 := hMd.free k 3 (by omega) (by omega)
              have hf4 := hMd.free k 4 (by omega) (by omega)
              have HR1 := Aside0.mk (hMd.row k (by omega) (M t))
              have HBd := Aside0.mk HB2.out.drew
              have hbt : (0 : Int) ≤ (t : Int) ∧ (t : Int) < 4 := by omega
              have hbk : (0 : Int) ≤ (k : Int) ∧ (k : Int) < 4 := by omega
              clear hMd hct
              refine start_ (n := 12) (S := fun w' => w'.cell? ⟨m, t * 5, none⟩ = some (.int .u8 ((M t 0).n : Nat)) ∧ w'.cell? ⟨m, t * 5 + 1, none⟩ = some (.int .u8 ((M t 1).n : Nat)) ∧ w'.cell? ⟨m, t * 5 + 2, none⟩ = some (.int .u8 ((M t 2).n : Nat)) ∧ w'.cell? ⟨m, t * 5 + 3, none⟩ = some (.int .u8 ((M t 3).n : Nat)) ∧ w'.cell? ⟨m, t * 5 + 4, none⟩ = some (.int .u8 ((M t 4).n : Nat)) ∧ w'.cell? ⟨m, k * 5, none⟩ = some (.int .u8 ((M k 0).n : Nat)) ∧ w'.cell? ⟨m, k * 5 + 1, none⟩ = some (.int .u8 ((M k 1).n : Nat)) ∧ w'.cell? ⟨m, k * 5 + 2, none⟩ = some (.int .u8 ((M k 2).n : Nat)) ∧ w'.cell? ⟨m, k * 5 + 3, none⟩ = some (.int .u8 ((M k 3).n : Nat)) ∧ w'.cell? ⟨m, k * 5 + 4, none⟩ = some (.int .u8 ((M k 4).n : Nat))) (ds := [9, 11]) #[false, false, false, false, false, false, false, false, false, false, false, false] (by kernel_rfl) rfl rfl ⟨hl0, hl1, hl2, hl3, hl4, hk0, hk1, hk2, hk3, hk4⟩ (fun hHeld => ?_)
              generalize wr.drew = wd at hl0 hl1 hl2 hl3 hl4 hk0 hk1 hk2 hk3 hk4 hf0 hf1 hf2 hf3 hf4 HR1 HBd hHeld ⊢
              refine pure_ (i := 0) (N := some 74) (v := ?_) (a' := ?_) #[true, false, false, false, false, false, false, false, false, false, false, false] rfl rfl (by kernel_rfl) (fun _ _ _ h => h) (Or.inl ⟨by rfl, ?_⟩) ?_ ?_
              rotate_left
              · intro w'
                go_simp
                with_reducible rfl
              rotate_left
              · simp only [Act.put, List.setIfInBounds_toArray, List.set_cons_zero, List.set_cons_succ, i64_w, i32_w]
                rfl
              refine pure_ (i := 1) (N := some 75) (v := ?_) (a' := ?_) #[true, true, false, false, false, false, false, false, false, false, false, false] rfl rfl (by kernel_rfl) (fun _ _ _ h => h) (Or.inl ⟨by rfl, ?_⟩) ?_ ?_
              rotate_left
              · intro w'
                go_simp
                with_reducible rfl
              rotate_left
              · simp only [Act.put, List.setIfInBounds_toArray, List.set_cons_zero, List.set_cons_succ, i64_w, i32_w]
                rfl
              refine pure_ (i := 2) (N := some 76) (v := ?_) (a' := ?_) #[true, true, true, false, false, false, false, false, false, false, false, false] rfl rfl (by kernel_rfl) (fun _ _ _ h => h) (Or.inl ⟨by rfl, ?_⟩) ?_ ?_
              rotate_left
              · intro w'
                go_simp
                with_reducible rfl
              rotate_left
              · simp only [Act.put, List.setIfInBounds_toArray, List.set_cons_zero, List.set_cons_succ, i64_w, i32_w]
                rfl
              refine pure_ (i := 3) (N := some 77) (v := ?_) (a' := ?_) #[true, true, true, true, false, false, false, false, false, false, false, false] rfl rfl (by kernel_rfl) (fun _ _ _ h => h) (Or.inl ⟨by rfl, ?_⟩) ?_ ?_
              rotate_left
              · intro w'
                go_simp
                with_reducible rfl
              rotate_left
              · simp only [Act.put, List.setIfInBounds_toArray, List.set_cons_zero, List.set_cons_succ, i64_w, i32_w]
                rfl
              refine pure_ (i := 5) (N := some 79) (v := ?_) (a' := ?_) #[true, true, true, true, false, true, false, false, false, false, false, false] rfl rfl (by kernel_rfl) (fun _ _ _ h => h) (Or.inl ⟨by rfl, ?_⟩) ?_ ?_
              rotate_left
              · intro w'
                go_simp
                with_reducible rfl
              rotate_left
              · simp only [Act.put, List.setIfInBounds_toArray, List.set_cons_zero, List.set_cons_succ, i64_w, i32_w]
                rfl
              refine pure_ (i := 6) (N := some 80) (v := ?_) (a' := ?_) #[true, true, true, true, false, true, true, false, false, false, false, false] rfl rfl (by kernel_rfl) (fun _ _ _ h => h) (Or.inl ⟨by rfl, ?_⟩) ?_ ?_
              rotate_left
              · intro w'
                go_simp
                with_reducible rfl
              rotate_left
              · simp only [Act.put, List.setIfInBounds_toArray, List.set_cons_zero, List.set_cons_succ, i64_w, i32_w]
                rfl
              refine take_ (i := 4) (N := some 78) (v := ?_) (a' := ?_) #[true, true, true, true, true, true, true, false, false, false, false, false] rfl rfl (by kernel_rfl) (fun _ _ _ h => h) (Or.inl ⟨by rfl, ?_⟩) hHeld ?_ ?_
              rotate_left
              · rintro w' ⟨s0, s1, s2, s3, s4, s5, s6, s7, s8, s9⟩
                go_simp
                with_reducible rfl
              rotate_left
              · simp only [Act.put, List.setIfInBounds_toArray, List.set_cons_zero, List.set_cons_succ, i64_w, i32_w]
                rfl
              refine take_ (i := 7) (N := some 81) (v := ?_) (a' := ?_) #[true, true, true, true, true, true, true, true, false, false, false, false] rfl rfl (by kernel_rfl) (fun _ _ _ h => h) (Or.inl ⟨by rfl, ?_⟩) hHeld ?_ ?_
              rotate_left
              · rintro w' ⟨s0, s1, s2, s3, s4, s5, s6, s7, s8, s9⟩
                go_simp
                with_reducible rfl
              rotate_left
              · simp only [Act.put, List.setIfInBounds_toArray, List.set_cons_zero, List.set_cons_succ, i64_w, i32_w]
                rfl
              refine pure_ (i := 8) (N := some 82) (v := ?_) (a' := ?_) #[true, true, true, true, true, true, true, true, true, false, false, false] rfl rfl (by kernel_rfl) (fun _ _ _ h => h) (Or.inl ⟨by rfl, ?_⟩) ?_ ?_
              rotate_left
              · intro w'
                go_simp
                with_reducible rfl
              rotate_left
              · simp only [Act.put, List.setIfInBounds_toArray, List.set_cons_zero, List.set_cons_succ, i64_w, i32_w]
                rfl
              refine last_ (i := 9) (N := none) #[true, true, true, true, true, true, true, true, true, true, false, false] rfl rfl (by kernel_rfl) (by decide) (fun K hK => ?_)
              refine skip_ (w1 := ?_) (by rfl) rfl ?_ ?_
              rotate_left
              · go_simp
                rfl
              have hM1 := HR1.out
              have hB1 := below_row HBd.out m (Nat.le_refl _) (k * 5) (k * 5 + 1) (k * 5 + 2) (k * 5 + 3) (k * 5 + 4) (.int .u8 ((M t 0).n : Nat)) (.int .u8 ((M t 1).n : Nat)) (.int .u8 ((M t 2).n : Nat)) (.int .u8 ((M t 3).n : Nat)) (.int .u8 ((M t 4).n : Nat))
              generalize (((((wd.setCell ⟨m, k * 5, none⟩ (.int .u8 ((M t 0).n : Nat))).setCell ⟨m, k * 5 + 1, none⟩ (.int .u8 ((M t 1).n : Nat))).setCell ⟨m, k * 5 + 2, none⟩ (.int .u8 ((M t 2).n : Nat))).setCell ⟨m, k * 5 + 3, none⟩ (.int .u8 ((M t 3).n : Nat))).setCell ⟨m, k * 5 + 4, none⟩ (.int .u8 ((M t 4).n : Nat))) = wS at hM1 hB1 ⊢
              have ht0 : wS.cell? ⟨m, t * 5, none⟩ = some (.int .u8 ((updRow M k (M t) t 0).n : Nat)) := hM1.cell t 0 ht (by omega)
              have ht1 := hM1.cell t 1 ht (by omega)
              have ht2 := hM1.cell t 2 ht (by omega)
              have ht3 := hM1.cell t 3 ht (by omega)
              have ht4 := hM1.cell t 4 ht (by omega)
              have hg0 : wS.frozen? ⟨m, t * 5, none⟩ = false := hM1.free t 0 ht (by omega)
              have hg1 := hM1.free t 1 ht (by omega)
              have hg2 := hM1.free t 2 ht (by omega)
              have hg3 := hM1.free t 3 ht (by omega)
              have hg4 := hM1.free t 4 ht (by omega)
              have HR2 := Aside0.mk (hM1.row t ht (M k))
              have HB3 := Aside0.mk (below_row hB1 m (Nat.le_refl _) (t * 5) (t * 5 + 1) (t * 5 + 2) (t * 5 + 3) (t * 5 + 4) (.int .u8 ((M k 0).n : Nat)) (.int .u8 ((M k 1).n : Nat)) (.int .u8 ((M k 2).n : Nat)) (.int .u8 ((M k 3).n : Nat)) (.int .u8 ((M k 4).n : Nat)))
              clear hM1 hB1
              refine hK.out _ _ ?_
              clear hK K
              refine pure_ (i := 10) (N := some 83) (v := ?_) (a' := ?_) #[true, true, true, true, true, true, true, true, true, true, true, false] rfl rfl (by kernel_rfl) (fun _ _ _ h => h) (Or.inl ⟨by rfl, ?_⟩) ?_ ?_
              rotate_left
              · intro w'
                go_simp
                with_reducible rfl
              rotate_left
              · simp only [Act.put, List.setIfInBounds_toArray, List.set_cons_zero, List.set_cons_succ, i64_w, i32_w]
                rfl
              refine last_ (i := 11) (N := none) #[true, true, true, true, true, true, true, true, true, true, true, true] rfl rfl (by kernel_rfl) (by decide) (fun K hK => ?_)
              refine skip_ (w1 := ?_) (by rfl) rfl ?_ ?_
              rotate_left
              · go_simp
                rfl
              refine hK.out _ _ ?_
              clear hK K
              refine done_ (by kernel_rfl) ?_
              have hMS := HR2.out.ext (fun a b _ _ => swap_rows k t M a b)
              have hBS := HB3.out
              have HNE := Aside0.mk (show swapM k t M k k ≠ 0 by unfold swapM; rw [if_pos rfl]; exact hne)
              have HEL := Aside0.mk (Elim.step HE.out hkt ht hne)
              clear HR2 HB3 HR1 HBd ht0 ht1 ht2 ht3 ht4 hg0 hg1 hg2 hg3 hg4
              generalize swapM k t M = MS at hMS HNE HEL
              generalize (((((wS.setCell ⟨m, t * 5, none⟩ (.int .u8 ((M k 0).n : Nat))).setCell ⟨m, t * 5 + 1, none⟩ (.int .u8 ((M k 1).n : Nat))).setCell ⟨m, t * 5 + 2, none⟩ (.int .u8 ((M k 2).n : Nat))).setCell ⟨m, t * 5 + 3, none⟩ (.int .u8 ((M k 3).n : Nat))).setCell ⟨m, t * 5 + 4, none⟩ (.int .u8 ((M k 4).n : Nat))) = wT at hMS hBS ⊢
              have HMS := Aside0.mk (hMS.ext (fun a b _ _ => (partM_zero P.length k MS a b).symm))
              have HBS := Aside0.mk hBS
              clear hMS hBS HM2 HB2 HZ HPI
              go_wp2_with fail
              go_loopw [84] (fun i wr => ∃ i' : Nat, i' ≤ 4 ∧ i = .int .i64 i' ∧ MRow wr m (partM P.length k MS i' 0) ∧ Below m w3 wr) (fun i _ => 4 - (intOf i).toNat)
              case atStart => exact ⟨0, Nat.zero_le _, rfl, HMS.out, HBS.out⟩
              case round =>
                obtain ⟨i, hi, rfl, hM3, hB3⟩ := hrel
                have HM3 := Aside0.mk hM3
                have HB3 := Aside0.mk hB3
                clear hM3 hB3 HMS HBS
                by_cases hpi : i < 4
                · have hcik := HM3.out.cell i k hpi (by omega)
                  rw [partM_at _ _ _ _ _ _ (Nat.zero_le _)] at hcik
                  by_cases hik : i = k
                  · have hiki : (i : Int) = (k : Int) := by omega
                    have HNX := Aside0.mk (HM3.out.ext (fun a b _ _ => partM_same P.length k MS i a b (.inl hik)))
                    go_wp2_with fail
                    go_roundw
                    case rel => exact ⟨i + 1, by omega, by go_num, HNX.out, HB3.out⟩
                    case measure => simp [intOf]; omega
                  · have hiki : ¬ (i : Int) = (k : Int) := by omega
                    have hikb : ((i : Int) == (k : Int)) = false := beq_eq_false_iff_ne.2 hiki
                    by_cases hz : MS i k = 0
                    · have hzn : (MS i k).n = 0 := by rw [hz]; rfl
                      rw [hzn] at hcik
                      have HNX := Aside0.mk (HM3.out.ext (fun a b _ _ => partM_same P.length k MS i a b (.inr hz)))
                      go_wp2_with fail
                      go_roundw
                      case rel => exact ⟨i + 1, by omega, by go_num, HNX.out, HB3.out⟩
                      case measure => simp [intOf]; omega
                    · have hzn : ¬ ((MS i k).n : Int) = 0 := fun h => hz (G.ext (by show (MS i k).n = 0; omega))
                      have hznb : (((MS i k).n : Int) == 0) = false := beq_eq_false_iff_ne.2 hzn
                      have HKK := Aside0.mk (show (MS k k).n ≠ 0 from fun h => HNE.out (G.ext h))
                      have hBx : Below w3.heap.size w3 wr := by rw [HMM.out]; exact HB3.out
                      have HPd := Aside0.mk (HP3.out.below hBx).drew
                      have HMd := Aside0.mk HM3.out.drew
                      have HBd := Aside0.mk HB3.out.drew
                      have hd1 : wr.drew.cell? ⟨m, i * 5 + k, none⟩ = some (.int .u8 ((MS i k).n : Nat)) := hcik
                      have hd2 : wr.drew.cell? ⟨m, k * 5 + k, none⟩ = some (.int .u8 ((MS k k).n : Nat)) := by
                        have := HMd.out.cell k k (by omega) (by omega)
                        rw [partM_k] at this
                        exact this
                      have hbi : (0 : Int) ≤ (i : Int) ∧ (i : Int) < 4 := by omega
                      have hbk4 : (0 : Int) ≤ (k : Int) ∧ (k : Int) < 4 := by omega
                      have hbk5 : (k : Int) < 5 := by omega
                      clear hBx
                      go_wp2_with fail
                      refine start_ (n := 12) (S := fun w' => w'.cell? ⟨m, i * 5 + k, none⟩ = some (.int .u8 ((MS i k).n : Nat)) ∧ w'.cell? ⟨m, k * 5 + k, none⟩ = some (.int .u8 ((MS k k).n : Nat))) (ds := [10]) #[false, false, false, false, false, false, false, false, false, false, false, false] (by kernel_rfl) rfl rfl ⟨hd1, hd2⟩ (fun hHeld => ?_)
                      generalize wr.drew = wd at hd1 hd2 HPd HMd HBd hHeld ⊢
                      refine pure_ (i := 0) (N := some 98) (v := ?_) (a' := ?_) #[true, false, false, false, false, false, false, false, false, false, false, false] rfl rfl (by kernel_rfl) (fun _ _ _ h => h) (Or.inl ⟨by rfl, ?_⟩) ?_ ?_
                      rotate_left
                      · intro w'
                        go_simp
                        with_reducible rfl
                      rotate_left
                      · simp only [Act.put, List.setIfInBounds_toArray, List.set_cons_zero, List.set_cons_succ, i64_w, i32_w]
                        rfl
                      refine pure_ (i := 1) (N := some 99) (v := ?_) (a' := ?_) #[true, true, false, false, false, false, false, false, false, false, false, false] rfl rfl (by kernel_rfl) (fun _ _ _ h => h) (Or.inl ⟨by rfl, ?_⟩) ?_ ?_
                      rotate_left
                      · intro w'
                        go_simp
                        with_reducible rfl
                      rotate_left
                      · simp only [Act.put, List.setIfInBounds_toArray, List.set_cons_zero, List.set_cons_succ, i64_w, i32_w]
                        rfl
                      refine pure_ (i := 2) (N := some 100) (v := ?_) (a' := ?_) #[true, true, true, false, false, false, false, false, false, false, false, false] rfl rfl (by kernel_rfl) (fun _ _ _ h => h) (Or.inl ⟨by rfl, ?_⟩) ?_ ?_
                      rotate_left
                      · intro w'
                        go_simp
                        with_reducible rfl
                      rotate_left
                      · simp only [Act.put, List.setIfInBounds_toArray, List.set_cons_zero, List.set_cons_succ, i64_w, i32_w]
                        rfl
                      refine pure_ (i := 3) (N := some 101) (v := ?_) (a' := ?_) #[true, true, true, true, false, false, false, false, false, false, false, false] rfl rfl (by kernel_rfl) (fun _ _ _ h => h) (Or.inl ⟨by rfl, ?_⟩) ?_ ?_
                      rotate_left
                      · intro w'
                        go_simp
                        with_reducible rfl
                      rotate_left
                      · simp only [Act.put, List.setIfInBounds_toArray, List.set_cons_zero, List.set_cons_succ, i64_w, i32_w]
                        rfl
                      refine pure_ (i := 5) (N := some 103) (v := ?_) (a' := ?_) #[true, true, true, true, false, true, false, false, false, false, false, false] rfl rfl (by kernel_rfl) (fun _ _ _ h => h) (Or.inl ⟨by rfl, ?_⟩) ?_ ?_
                      rotate_left
                      · intro w'
                        go_simp
                        with_reducible rfl
                      rotate_left
                      · simp only [Act.put, List.setIfInBounds_toArray, List.set_cons_zero, List.set_cons_succ, i64_w, i32_w]
                        rfl
                      refine pure_ (i := 6) (N := some 104) (v := ?_) (a' := ?_) #[true, true, true, true, false, true, true, false, false, false, false, false] rfl rfl (by kernel_rfl) (fun _ _ _ h => h) (Or.inl ⟨by rfl, ?_⟩) ?_ ?_
                      rotate_left
                      · intro w'
                        go_simp
                        with_reducible rfl
                      rotate_left
                      · simp only [Act.put, List.setIfInBounds_toArray, List.set_cons_zero, List.set_cons_succ, i64_w, i32_w]
                        rfl
                      refine pure_ (i := 7) (N := some 105) (v := ?_) (a' := ?_) #[true, true, true, true, false, true, true, true, false, false, false, false] rfl rfl (by kernel_rfl) (fun _ _ _ h => h) (Or.inl ⟨by rfl, ?_⟩) ?_ ?_
                      rotate_left
                      · intro w'
                        go_simp
                        with_reducible rfl
                      rotate_left
                      · simp only [Act.put, List.setIfInBounds_toArray, List.set_cons_zero, List.set_cons_succ, i64_w, i32_w]
                        rfl
                      refine pure_ (i := 8) (N := some 106) (v := ?_) (a' := ?_) #[true, true, true, true, false, true, true, true, true, false, false, false] rfl rfl (by kernel_rfl) (fun _ _ _ h => h) (Or.inl ⟨by rfl, ?_⟩) ?_ ?_
                      rotate_left
                      · intro w'
                        go_simp
                        with_reducible rfl
                      rotate_left
                      · simp only [Act.put, List.setIfInBounds_toArray, List.set_cons_zero, List.set_cons_succ, i64_w, i32_w]
                        rfl
                      refine take_ (i := 4) (N := some 102) (v := ?_) (a' := ?_) #[true, true, true, true, true, true, true, true, true, false, false, false] rfl rfl (by kernel_rfl) (fun _ _ _ h => h) (Or.inl ⟨by rfl, ?_⟩) hHeld ?_ ?_
                      rotate_left
                      · rintro w' ⟨s0, s1⟩
                        go_simp
                        with_reducible rfl
                      rotate_left
                      · simp only [Act.put, List.setIfInBounds_toArray, List.set_cons_zero, List.set_cons_succ, i64_w, i32_w]
                        rfl
                      refine take_ (i := 9) (N := some 107) (v := ?_) (a' := ?_) #[true, true, true, true, true, true, true, true, true, true, false, false] rfl rfl (by kernel_rfl) (fun _ _ _ h => h) (Or.inl ⟨by rfl, ?_⟩) hHeld ?_ ?_
                      rotate_left
                      · rintro w' ⟨s0, s1⟩
                        go_simp
                        with_reducible rfl
                      rotate_left
                      · simp only [Act.put, List.setIfInBounds_toArray, List.set_cons_zero, List.set_cons_succ, i64_w, i32_w]
                        rfl
                      refine last_ (i := 10) (N := some 108) #[true, true, true, true, true, true, true, true, true, true, true, false] rfl rfl (by kernel_rfl) (by decide) (fun K hK => ?_)
                      refine goes_ Tryz.func111 (by kernel_rfl) rfl #[.int .u8 ((MS i k).n : Nat), .int .u8 ((MS k k).n : Nat)] (by rfl) rfl rfl (by simp only [List.map_toArray, List.map_cons, List.map_nil]; rfl) ?_
                      with_reducible refine (sdiv_any (MS i k) (MS k k) _ HPd.out HKK.out).mono ?_
                      rintro e w7 ⟨rfl, hb7⟩
                      refine ⟨_, rfl, ?_⟩
                      have HB7 := Aside0.mk hb7
                      clear hb7
                      refine hK.out _ _ ?_
                      clear hK K
                      refine norm_ (a' := ?_) ?_ ?_
                      rotate_left
                      · show Act.put _ (some 108) _ = _
                        simp only [Act.put, List.setIfInBounds_toArray, List.set_cons_zero, List.set_cons_succ, i64_w, i32_w]
                        rfl
                      refine pure_ (i := 11) (N := some 15) (v := ?_) (a' := ?_) #[true, true, true, true, true, true, true, true, true, true, true, true] rfl rfl (by kernel_rfl) (fun _ _ _ h => h) (Or.inl ⟨by rfl, ?_⟩) ?_ ?_
                      rotate_left
                      · intro w'
                        go_simp
                        with_reducible rfl
                      rotate_left
                      · simp only [Act.put, List.setIfInBounds_toArray, List.set_cons_zero, List.set_cons_succ, i64_w, i32_w]
                        rfl
                      refine done_ (by kernel_rfl) ?_
                      have HM7 := Aside0.mk (HMd.out.below HB7.out)
                      have HSd := Aside0.mk (show m ≤ wd.heap.size by rw [← HMM.out]; exact HBd.out.size)
                      have HB8 := Aside0.mk (HBd.out.trans (HB7.out.mono HSd.out))
                      clear HB7 HPd HMd HBd hd1 hd2 hcik
                      go_wp2_with fail
                      obtain ⟨wi, rfl⟩ : ∃ wi, wi = wr := ⟨_, rfl⟩
                      go_loopw [111] (fun jj wr => ∃ j : Nat, j ≤ P.length + 1 ∧ jj = .int .i64 j ∧ MRow wr m (partM P.length k MS i j) ∧ Below m w3 wr) (fun jj _ => P.length + 1 - (intOf jj).toNat)
                      case atStart => exact ⟨0, Nat.zero_le _, rfl, HM7.out, HB8.out⟩
                      case round =>
                        obtain ⟨j, hj, rfl, hM9, hB9⟩ := hrel
                        have HM9 := Aside0.mk hM9
                        have HB9 := Aside0.mk hB9
                        clear hM9 hB9
                        by_cases hpj2 : j < P.length + 1
                        · have hBx : Below w3.heap.size w3 wr := by rw [HMM.out]; exact HB9.out
                          have HPd := Aside0.mk (HP3.out.below hBx).drew
                          have HMd := Aside0.mk HM9.out.drew
                          have HBd := Aside0.mk HB9.out.drew
                          have hd1 : wr.drew.cell? ⟨m, i * 5 + j, none⟩ = some (.int .u8 ((MS i j).n : Nat)) := by
                            have := HMd.out.cell i j hpi (by omega)
                            rw [partM_at _ _ _ _ _ _ (Nat.le_refl _)] at this
                            exact this
                          have hd2 : wr.drew.cell? ⟨m, k * 5 + j, none⟩ = some (.int .u8 ((MS k j).n : Nat)) := by
                            have := HMd.out.cell k j (by omega) (by omega)
                            rw [partM_k] at this
                            exact this
                          have HST := Aside0.mk (fun a b => partM_step P.length k MS i j a b hik (by omega))
                          have hbj5 : (0 : Int) ≤ (j : Int) ∧ (j : Int) < 5 := by omega
                          clear hBx
                          go_wp2_with fail
                          refine start_ (n := 16) (S := fun w' => w'.cell? ⟨m, i * 5 + j, none⟩ = some (.int .u8 ((MS i j).n : Nat)) ∧ w'.cell? ⟨m, k * 5 + j, none⟩ = some (.int .u8 ((MS k j).n : Nat))) (ds := [15]) #[false, false, false, false, false, false, false, false, false, false, false, false, false, false, false, false] (by kernel_rfl) rfl rfl ⟨hd1, hd2⟩ (fun hHeld => ?_)
                          generalize wr.drew = wd at hd1 hd2 HPd HMd HBd hHeld ⊢
                          refine pure_ (i := 0) (N := some 114) (v := ?_) (a' := ?_) #[true, false, false, false, false, false, false, false, false, false, false, false, false, false, false, false] rfl rfl (by kernel_rfl) (fun _ _ _ h => h) (Or.inl ⟨by rfl, ?_⟩) ?_ ?_
                          rotate_left
                          · intro w'
                            go_simp
                            with_reducible rfl
                          rotate_left
                          · simp only [Act.put, List.setIfInBounds_toArray, List.set_cons_zero, List.set_cons_succ, i64_w, i32_w]
                            rfl
                          refine pure_ (i := 1) (N := some 115) (v := ?_) (a' := ?_) #[true, true, false, false, false, false, false, false, false, false, false, false, false, false, false, false] rfl rfl (by kernel_rfl) (fun _ _ _ h => h) (Or.inl ⟨by rfl, ?_⟩) ?_ ?_
                          rotate_left
                          · intro w'
                            go_simp
                            with_reducible rfl
                          rotate_left
                          · simp only [Act.put, List.setIfInBounds_toArray, List.set_cons_zero, List.set_cons_succ, i64_w, i32_w]
                            rfl
                          refine pure_ (i := 2) (N := some 116) (v := ?_) (a' := ?_) #[true, true, true, false, false, false, false, false, false, false, false, false, false, false, false, false] rfl rfl (by kernel_rfl) (fun _ _ _ h => h) (Or.inl ⟨by rfl, ?_⟩) ?_ ?_
                          rotate_left
                          · intro w'
                            go_simp
                            with_reducible rfl
                          rotate_left
                          · simp only [Act.put, List.setIfInBounds_toArray, List.set_cons_zero, List.set_cons_succ, i64_w, i32_w]
                            rfl
                          refine pure_ (i := 3) (N := some 117) (v := ?_) (a' := ?_) #[true, true, true, true, false, false, false, false, false, false, false, false, false, false, false, false] rfl rfl (by kernel_rfl) (fun _ _ _ h => h) (Or.inl ⟨by rfl, ?_⟩) ?_ ?_
                          rotate_left
                          · intro w'
                            go_simp
                            with_reducible rfl
                          rotate_left
                          · simp only [Act.put, List.setIfInBounds_toArray, List.set_cons_zero, List.set_cons_succ, i64_w, i32_w]
                            rfl
                          refine pure_ (i := 5) (N := some 119) (v := ?_) (a' := ?_) #[true, true, true, true, false, true, false, false, false, false, false, false, false, false, false, false] rfl rfl (by kernel_rfl) (fun _ _ _ h => h) (Or.inl ⟨by rfl, ?_⟩) ?_ ?_
                          rotate_left
                          · intro w'
                            go_simp
                            with_reducible rfl
                          rotate_left
                          · simp only [Act.put, List.setIfInBounds_toArray, List.set_cons_zero, List.set_cons_succ, i64_w, i32_w]
                            rfl
                          refine pure_ (i := 6) (N := some 120) (v := ?_) (a' := ?_) #[true, true, true, true, false, true, true, false, false, false, false, false, false, false, false, false] rfl rfl (by kernel_rfl) (fun _ _ _ h => h) (Or.inl ⟨by rfl, ?_⟩) ?_ ?_
                          rotate_left
                          · intro w'
                            go_simp
                            with_reducible rfl
                          rotate_left
                          · simp only [Act.put, List.setIfInBounds_toArray, List.set_cons_zero, List.set_cons_succ, i64_w, i32_w]
                            rfl
                          refine pure_ (i := 7) (N := some 121) (v := ?_) (a' := ?_) #[true, true, true, true, false, true, true, true, false, false, false, false, false, false, false, false] rfl rfl (by kernel_rfl) (fun _ _ _ h => h) (Or.inl ⟨by rfl, ?_⟩) ?_ ?_
                          rotate_left
                          · intro w'
                            go_simp
                            with_reducible rfl
                          rotate_left
                          · simp only [Act.put, List.setIfInBounds_toArray, List.set_cons_zero, List.set_cons_succ, i64_w, i32_w]
                            rfl
                          refine pure_ (i := 8) (N := some 122) (v := ?_) (a' := ?_) #[true, true, true, true, false, true, true, true, true, false, false, false, false, false, false, false] rfl rfl (by kernel_rfl) (fun _ _ _ h => h) (Or.inl ⟨by rfl, ?_⟩) ?_ ?_
                          rotate_left
                          · intro w'
                            go_simp
                            with_reducible rfl
                          rotate_left
                          · simp only [Act.put, List.setIfInBounds_toArray, List.set_cons_zero, List.set_cons_succ, i64_w, i32_w]
                            rfl
                          refine pure_ (i := 9) (N := some 123) (v := ?_) (a' := ?_) #[true, true, true, true, false, true, true, true, true, true, false, false, false, false, false, false] rfl rfl (by kernel_rfl) (fun _ _ _ h => h) (Or.inl ⟨by rfl, ?_⟩) ?_ ?_
                          rotate_left
                          · intro w'
                            go_simp
                            with_reducible rfl
                          rotate_left
                          · simp only [Act.put, List.setIfInBounds_toArray, List.set_cons_zero, List.set_cons_succ, i64_w, i32_w]
                            rfl
                          refine pure_ (i := 13) (N := some 127) (v := ?_) (a' := ?_) #[true, true, true, true, false, true, true, true, true, true, false, false, false, true, false, false] rfl rfl (by kernel_rfl) (fun _ _ _ h => h) (Or.inl ⟨by rfl, ?_⟩) ?_ ?_
                          rotate_left
                          · intro w'
                            go_simp
                            with_reducible rfl
                          rotate_left
                          · simp only [Act.put, List.setIfInBounds_toArray, List.set_cons_zero, List.set_cons_succ, i64_w, i32_w]
                            rfl
                          refine take_ (i := 4) (N := some 118) (v := ?_) (a' := ?_) #[true, true, true, true, true, true, true, true, true, true, false, false, false, true, false, false] rfl rfl (by kernel_rfl) (fun _ _ _ h => h) (Or.inl ⟨by rfl, ?_⟩) hHeld ?_ ?_
                          rotate_left
                          · rintro w' ⟨s0, s1⟩
                            go_simp
                            with_reducible rfl
                          rotate_left
                          · simp only [Act.put, List.setIfInBounds_toArray, List.set_cons_zero, List.set_cons_succ, i64_w, i32_w]
                            rfl
                          refine take_ (i := 10) (N := some 124) (v := ?_) (a' := ?_) #[true, true, true, true, true, true, true, true, true, true, true, false, false, true, false, false] rfl rfl (by kernel_rfl) (fun _ _ _ h => h) (Or.inl ⟨by rfl, ?_⟩) hHeld ?_ ?_
                          rotate_left
                          · rintro w' ⟨s0, s1⟩
                            go_simp
                            with_reducible rfl
                          rotate_left
                          · simp only [Act.put, List.setIfInBounds_toArray, List.set_cons_zero, List.set_cons_succ, i64_w, i32_w]
                            rfl
                          refine one_ (i := 11) (N := some 125) #[true, true, true, true, true, true, true, true, true, true, true, true, false, true, false, false] rfl rfl (by kernel_rfl) (by decide) (fun K hK => ?_)
                          refine goes_ Tryz.func112 (by kernel_rfl) rfl #[.int .u8 ((MS i k / MS k k).n : Nat), .int .u8 ((MS k j).n : Nat)] (by rfl) rfl rfl (by simp only [List.map_toArray, List.map_cons, List.map_nil]; rfl) ?_
                          with_reducible refine (smul_any (MS i k / MS k k) (MS k j) _ HPd.out).mono ?_
                          rintro e w9 ⟨rfl, hb9⟩
                          refine ⟨_, rfl, ?_⟩
                          have hM9 := HMd.out.below hb9
                          have hs1 := (hb9.cell (p := ⟨m, i * 5 + j, none⟩) HMd.out.lt).trans hd1
                          have hs2 := (hb9.cell (p := ⟨m, k * 5 + j, none⟩) HMd.out.lt).trans hd2
                          have hfr := hM9.free i j hpi (by omega)
                          have HM10 := Aside0.mk hM9
                          have HB10 := Aside0.mk hb9
                          clear hb9 hM9
                          refine hK.out _ _ ⟨hs1, hs2⟩ (fun hHeld => ?_)
                          clear hK K
                          refine norm_ (a' := ?_) ?_ ?_
                          rotate_left
                          · show Act.put _ (some 125) _ = _
                            simp only [Act.put, List.setIfInBounds_toArray, List.set_cons_zero, List.set_cons_succ, i64_w, i32_w]
                            rfl
                          refine pure_ (i := 12) (N := some 126) (v := ?_) (a' := ?_) #[true, true, true, true, true, true, true, true, true, true, true, true, true, true, false, false] rfl rfl (by kernel_rfl) (fun _ _ _ h => h) (Or.inl ⟨by rfl, ?_⟩) ?_ ?_
                          rotate_left
                          · intro w'
                            go_simp
                            with_reducible rfl
                          rotate_left
                          · simp only [Act.put, List.setIfInBounds_toArray, List.set_cons_zero, List.set_cons_succ, i64_w, i32_w]
                            rfl
                          refine pure_ (i := 14) (N := some 128) (v := ?_) (a' := ?_) #[true, true, true, true, true, true, true, true, true, true, true, true, true, true, true, false] rfl rfl (by kernel_rfl) (fun _ _ _ h => h) (Or.inl ⟨by rfl, ?_⟩) ?_ ?_
                          rotate_left
                          · intro w'
                            go_simp
                            with_reducible rfl
                          rotate_left
                          · simp only [Act.put, List.setIfInBounds_toArray, List.set_cons_zero, List.set_cons_succ, i64_w, i32_w]
                            rfl
                          refine last_ (i := 15) (N := none) #[true, true, true, true, true, true, true, true, true, true, true, true, true, true, true, true] rfl rfl (by kernel_rfl) (by decide) (fun K hK => ?_)
                          refine skip_ (w1 := ?_) (by rfl) rfl ?_ ?_
                          rotate_left
                          · go_simp
                            rfl
                          refine hK.out _ _ ?_
                          clear hK K
                          refine done_ (by kernel_rfl) ?_
                          have hx0 := xor_n (MS i j) (MS i k / MS k k * MS k j)
                          rw [hx0]
                          have HSd := Aside0.mk (show m ≤ wd.heap.size by rw [← HMM.out]; exact HBd.out.size)
                          have HNM := Aside0.mk ((HM10.out.set i j hpi (by omega) (MS i j + MS i k / MS k k * MS k j)).ext (fun a b _ _ => HST.out a b))
                          have HNB := Aside0.mk ((HBd.out.trans (HB10.out.mono HSd.out)).setCell (p := ⟨m, i * 5 + j, none⟩) (Nat.le_refl _) (.int .u8 ((MS i j + MS i k / MS k k * MS k j).n : Nat)))
                          go_wp2
                          go_roundw
                          case rel => exact ⟨j + 1, by omega, by go_num, HNM.out, HNB.out⟩
                          case measure => simp [intOf]; omega
                        · obtain rfl : j = P.length + 1 := by omega
                          have HNM := Aside0.mk (HM9.out.ext (fun a b _ hb => partM_row P.length k MS i a b hb))
                          have HNB := Aside0.mk HB9.out
                          clear HM9 HB9
                          go_wp2_with fail
                          go_roundw
                          case rel => exact ⟨i + 1, by omega, by go_num, HNM.out, HNB.out⟩
                          case measure => simp [intOf]; omega
                · have e4i : i = 4 := by omega
                  have hpi4 : ¬ ((i : Int) < 4) := by omega
                  have HNM := Aside0.mk ((show MRow wr m (partM P.length k MS 4 0) by rw [← e4i]; exact HM3.out).ext (fun a b ha _ => partM_last P.length k MS a b ha))
                  go_wp2_with fail
                  go_roundw
                  case rel => exact ⟨k + 1, by omega, by go_num, ⟨_, HEL.out, HNM.out⟩, HB3.out⟩
                  case measure => simp [intOf]; omega
        · obtain rfl : k = P.length := by omega
          have hmk : ∀ W : World, (Instr.makeSlice 48 (.int .i64 (P.length : Int)) (.int .i64 (P.length : Int))).run Tryz.prog W = .ok (.slice (some ⟨W.heap.size, 0, none⟩) P.length P.length) (W.alloc (.cells (madeCells #[.int .u8 0] P.length) 5)) :=
            fun W => run_make_row' 48 5 (.int .u8 0) 1 Tryz.underlying48 info_u8 rfl .i64 .i64 P.length (by omega) (by omega) W
          obtain ⟨w5, hw5⟩ : ∃ w5, wr.alloc (.cells (madeCells #[.int .u8 0] P.length) 5) = w5 := ⟨_, rfl⟩
          have hb5 : Below wr.heap.size wr w5 := by rw [← hw5]; exact (Below.refl _ _).alloc (Nat.le_refl _) _
          have hrow := CRow.made (Value.int .u8) (0 : Int) wr 5 P.length
          rw [hw5, outP_zero P.length M] at hrow
          have HO5 := Aside0.mk hrow
          have HB5 := Aside0.mk hb5
          have HRD := Aside0.mk (red_all HE.out (Nat.le_refl _))
          have HWM := Aside0.mk (show m ≤ wr.heap.size by rw [← HMM.out]; exact HB2.out.size)
          clear hrow hb5
          go_wp2_with (first | rw [hw5])
          obtain ⟨wo, rfl⟩ : ∃ wo, wo = wr := ⟨_, rfl⟩
          obtain ⟨h, hh⟩ : ∃ h, wo.heap.size = h := ⟨_, rfl⟩
          rw [hh] at HO5 HB5 HWM ⊢
          have HHH := Aside0.mk hh
          clear hh hmk
          go_loopw [134] (fun i ws => ∃ j : Nat, j ≤ 4 ∧ i = .int .i64 j ∧ CRow (Value.int .u8) 0 ws h (outP P.length M j) ∧ (∀ r, P.length ≤ r → r < j → M r P.length = 0) ∧ Below h wo ws) (fun i _ => 4 - (intOf i).toNat)
          case atStart => exact ⟨0, Nat.zero_le _, rfl, HO5.out, fun r h1 h2 => by omega, HB5.out⟩
          case round =>
            obtain ⟨i, hi, rfl, hO, hZ, hB⟩ := hrel
            have HO := Aside0.mk hO
            have HZ := Aside0.mk hZ
            have HB := Aside0.mk hB
            have hB' : Below wo.heap.size wo wr := by rw [HHH.out]; exact hB
            have HMr := Aside0.mk (HM2.out.below hB')
            have HBA := Aside0.mk (HB2.out.trans (hB.mono HWM.out))
            have hB3' : Below w3.heap.size w3 wr := by rw [HMM.out]; exact HBA.out
            have HPr := Aside0.mk (HP3.out.below hB3')
            have HBW := Aside0.mk (HB3.out.trans (hB3'.mono HB3.out.size))
            clear hO hZ hB hB' hB3' HO5 HB5
            by_cases hpi : i < 4
            · have hbi : (0 : Int) ≤ (i : Int) ∧ (i : Int) < 4 := by omega
              by_cases hin : i < P.length
              · have hini : (i : Int) < (P.length : Int) := by omega
                have hbn : (0 : Int) ≤ (P.length : Int) ∧ (P.length : Int) < 5 := by omega
                have hbi5 : (i : Int) < 5 := by omega
                have HPd := Aside0.mk HPr.out.drew
                have HMd := Aside0.mk HMr.out.drew
                have HOd := Aside0.mk HO.out.drew
                have HBd := Aside0.mk HB.out.drew
                have hd1 := HMd.out.cell i P.length hpi (by omega)
                have hd2 := HMd.out.cell i i hpi (by omega)
                have HKK := Aside0.mk (show (M i i).n ≠ 0 from fun h => HRD.out.on i hin (G.ext h))
                clear HPr HMr HO
                go_wp2_with fail
                refine start_ (n := 15) (S := fun w' => w'.cell? ⟨m, i * 5 + P.length, none⟩ = some (.int .u8 ((M i P.length).n : Nat)) ∧ w'.cell? ⟨m, i * 5 + i, none⟩ = some (.int .u8 ((M i i).n : Nat))) (ds := [12, 14]) #[false, false, false, false, false, false, false, false, false, false, false, false, false, false, false] (by kernel_rfl) rfl rfl ⟨hd1, hd2⟩ (fun hHeld => ?_)
                generalize wr.drew = wd at hd1 hd2 HPd HMd HOd HBd hHeld ⊢
                refine pure_ (i := 0) (N := some 141) (v := ?_) (a' := ?_) #[true, false, false, false, false, false, false, false, false, false, false, false, false, false, false] rfl rfl (by kernel_rfl) (fun _ _ _ h => h) (Or.inl ⟨by rfl, ?_⟩) ?_ ?_
                rotate_left
                · intro w'
                  go_simp
                  with_reducible rfl
                rotate_left
                · simp only [Act.put, List.setIfInBounds_toArray, List.set_cons_zero, List.set_cons_succ, i64_w, i32_w]
                  rfl
                refine pure_ (i := 1) (N := some 142) (v := ?_) (a' := ?_) #[true, true, false, false, false, false, false, false, false, false, false, false, false, false, false] rfl rfl (by kernel_rfl) (fun _ _ _ h => h) (Or.inl ⟨by rfl, ?_⟩) ?_ ?_
                rotate_left
                · intro w'
                  go_simp
                  with_reducible rfl
                rotate_left
                · simp only [Act.put, List.setIfInBounds_toArray, List.set_cons_zero, List.set_cons_succ, i64_w, i32_w]
                  rfl
                refine pure_ (i := 2) (N := some 143) (v := ?_) (a' := ?_) #[true, true, true, false, false, false, false, false, false, false, false, false, false, false, false] rfl rfl (by kernel_rfl) (fun _ _ _ h => h) (Or.inl ⟨by rfl, ?_⟩) ?_ ?_
                rotate_left
                · intro w'
                  go_simp
                  with_reducible rfl
                rotate_left
                · simp only [Act.put, List.setIfInBounds_toArray, List.set_cons_zero, List.set_cons_succ, i64_w, i32_w]
                  rfl
                refine pure_ (i := 3) (N := some 144) (v := ?_) (a' := ?_) #[true, true, true, true, false, false, false, false, false, false, false, false, false, false, false] rfl rfl (by kernel_rfl) (fun _ _ _ h => h) (Or.inl ⟨by rfl, ?_⟩) ?_ ?_
                rotate_left
                · intro w'
                  go_simp
                  with_reducible rfl
                rotate_left
                · simp only [Act.put, List.setIfInBounds_toArray, List.set_cons_zero, List.set_cons_succ, i64_w, i32_w]
                  rfl
                refine pure_ (i := 4) (N := some 145) (v := ?_) (a' := ?_) #[true, true, true, true, true, false, false, false, false, false, false, false, false, false, false] rfl rfl (by kernel_rfl) (fun _ _ _ h => h) (Or.inl ⟨by rfl, ?_⟩) ?_ ?_
                rotate_left
                · intro w'
                  go_simp
                  with_reducible rfl
                rotate_left
                · simp only [Act.put, List.setIfInBounds_toArray, List.set_cons_zero, List.set_cons_succ, i64_w, i32_w]
                  rfl
                refine pure_ (i := 5) (N := some 146) (v := ?_) (a' := ?_) #[true, true, true, true, true, true, false, false, false, false, false, false, false, false, false] rfl rfl (by kernel_rfl) (fun _ _ _ h => h) (Or.inl ⟨by rfl, ?_⟩) ?_ ?_
                rotate_left
                · intro w'
                  go_simp
                  with_reducible rfl
                rotate_left
                · simp only [Act.put, List.setIfInBounds_toArray, List.set_cons_zero, List.set_cons_succ, i64_w, i32_w]
                  rfl
                refine pure_ (i := 7) (N := some 148) (v := ?_) (a' := ?_) #[true, true, true, true, true, true, false, true, false, false, false, false, false, false, false] rfl rfl (by kernel_rfl) (fun _ _ _ h => h) (Or.inl ⟨by rfl, ?_⟩) ?_ ?_
                rotate_left
                · intro w'
                  go_simp
                  with_reducible rfl
                rotate_left
                · simp only [Act.put, List.setIfInBounds_toArray, List.set_cons_zero, List.set_cons_succ, i64_w, i32_w]
                  rfl
                refine pure_ (i := 8) (N := some 149) (v := ?_) (a' := ?_) #[true, true, true, true, true, true, false, true, true, false, false, false, false, false, false] rfl rfl (by kernel_rfl) (fun _ _ _ h => h) (Or.inl ⟨by rfl, ?_⟩) ?_ ?_
                rotate_left
                · intro w'
                  go_simp
                  with_reducible rfl
                rotate_left
                · simp only [Act.put, List.setIfInBounds_toArray, List.set_cons_zero, List.set_cons_succ, i64_w, i32_w]
                  rfl
                refine pure_ (i := 9) (N := some 150) (v := ?_) (a' := ?_) #[true, true, true, true, true, true, false, true, true, true, false, false, false, false, false] rfl rfl (by kernel_rfl) (fun _ _ _ h => h) (Or.inl ⟨by rfl, ?_⟩) ?_ ?_
                rotate_left
                · intro w'
                  go_simp
                  with_reducible rfl
                rotate_left
                · simp only [Act.put, List.setIfInBounds_toArray, List.set_cons_zero, List.set_cons_succ, i64_w, i32_w]
                  rfl
                refine pure_ (i := 10) (N := some 151) (v := ?_) (a' := ?_) #[true, true, true, true, true, true, false, true, true, true, true, false, false, false, false] rfl rfl (by kernel_rfl) (fun _ _ _ h => h) (Or.inl ⟨by rfl, ?_⟩) ?_ ?_
                rotate_left
                · intro w'
                  go_simp
                  with_reducible rfl
                rotate_left
                · simp only [Act.put, List.setIfInBounds_toArray, List.set_cons_zero, List.set_cons_succ, i64_w, i32_w]
                  rfl
                refine take_ (i := 6) (N := some 147) (v := ?_) (a' := ?_) #[true, true, true, true, true, true, true, true, true, true, true, false, false, false, false] rfl rfl (by kernel_rfl) (fun _ _ _ h => h) (Or.inl ⟨by rfl, ?_⟩) hHeld ?_ ?_
                rotate_left
                · rintro w' ⟨s0, s1⟩
                  go_simp
                  with_reducible rfl
                rotate_left
                · simp only [Act.put, List.setIfInBounds_toArray, List.set_cons_zero, List.set_cons_succ, i64_w, i32_w]
                  rfl
                refine take_ (i := 11) (N := some 152) (v := ?_) (a' := ?_) #[true, true, true, true, true, true, true, true, true, true, true, true, false, false, false] rfl rfl (by kernel_rfl) (fun _ _ _ h => h) (Or.inl ⟨by rfl, ?_⟩) hHeld ?_ ?_
                rotate_left
                · rintro w' ⟨s0, s1⟩
                  go_simp
                  with_reducible rfl
                rotate_left
                · simp only [Act.put, List.setIfInBounds_toArray, List.set_cons_zero, List.set_cons_succ, i64_w, i32_w]
                  rfl
                refine last_ (i := 12) (N := some 153) #[true, true, true, true, true, true, true, true, true, true, true, true, true, false, false] rfl rfl (by kernel_rfl) (by decide) (fun K hK => ?_)
                refine goes_ Tryz.func111 (by kernel_rfl) rfl #[.int .u8 ((M i P.length).n : Nat), .int .u8 ((M i i).n : Nat)] (by rfl) rfl rfl (by simp only [List.map_toArray, List.map_cons, List.map_nil]; rfl) ?_
                with_reducible refine (sdiv_any (M i P.length) (M i i) _ HPd.out HKK.out).mono ?_
                rintro e w7 ⟨rfl, hb7⟩
                refine ⟨_, rfl, ?_⟩
                have hO7 := HOd.out.below hb7
                have hcell7 := hO7.cell i (by rw [outP_length]; exact hin)
                have hfree7 := hO7.free i (by rw [outP_length]; exact hin)
                have HNO := Aside0.mk (show CRow (Value.int .u8) 0 (w7.setCell ⟨h, i, none⟩ (.int .u8 ((M i P.length / M i i).n : Nat))) h (outP P.length M (i + 1)) by rw [← outP_set _ _ _ hin]; exact hO7.set i (by rw [outP_length]; exact hin) _)
                have HSd := Aside0.mk (show h ≤ wd.heap.size by rw [← HHH.out]; exact HBd.out.size)
                have HNB := Aside0.mk ((HBd.out.trans (hb7.mono HSd.out)).setCell (p := ⟨h, i, none⟩) (Nat.le_refl _) (.int .u8 ((M i P.length / M i i).n : Nat)))
                clear hb7 hO7
                refine hK.out _ _ ?_
                clear hK K
                refine norm_ (a' := ?_) ?_ ?_
                rotate_left
                · show Act.put _ (some 153) _ = _
                  simp only [Act.put, List.setIfInBounds_toArray, List.set_cons_zero, List.set_cons_succ, i64_w, i32_w]
                  rfl
                refine pure_ (i := 13) (N := some 154) (v := ?_) (a' := ?_) #[true, true, true, true, true, true, true, true, true, true, true, true, true, true, false] rfl rfl (by kernel_rfl) (fun _ _ _ h => h) (Or.inl ⟨by rfl, ?_⟩) ?_ ?_
                rotate_left
                · intro w'
                  go_simp
                  with_reducible rfl
                rotate_left
                · simp only [Act.put, List.setIfInBounds_toArray, List.set_cons_zero, List.set_cons_succ, i64_w, i32_w]
                  rfl
                refine last_ (i := 14) (N := none) #[true, true, true, true, true, true, true, true, true, true, true, true, true, true, true] rfl rfl (by kernel_rfl) (by decide) (fun K hK => ?_)
                refine skip_ (w1 := ?_) (by rfl) rfl ?_ ?_
                rotate_left
                · go_simp
                  rfl
                refine hK.out _ _ ?_
                clear hK K
                refine done_ (by kernel_rfl) ?_
                go_wp2
                go_roundw
                case rel => exact ⟨i + 1, by omega, by go_num, HNO.out, fun r h1 h2 => by omega, HNB.out⟩
                case measure => simp [intOf]; omega
              · have hini : ¬ ((i : Int) < (P.length : Int)) := by omega
                have hbn : (0 : Int) ≤ (P.length : Int) ∧ (P.length : Int) < 5 := by omega
                have hbi5 : (i : Int) < 5 := by omega
                have hd1 := HMr.out.cell i P.length hpi (by omega)
                have e0 : outP P.length M i = outP P.length M (i + 1) := by rw [outP_ge _ _ _ (by omega), outP_ge _ _ _ (by omega)]
                rw [e0] at HO
                by_cases hz : M i P.length = 0
                · have hzn : (M i P.length).n = 0 := by rw [hz]; rfl
                  rw [hzn] at hd1
                  go_wp2_with fail
                  go_roundw
                  case rel => exact ⟨i + 1, by omega, by go_num, HO.out, fun r h1 h2 => by
                    by_cases h : r = i
                    · rw [h]; exact hz
                    · exact HZ.out r h1 (by omega), HB.out⟩
                  case measure => simp [intOf]; omega
                · have hzn : ¬ ((M i P.length).n : Int) = 0 := fun h => hz (G.ext (by show (M i P.length).n = 0; omega))
                  have hznb : (((M i P.length).n : Int) == 0) = false := beq_eq_false_iff_ne.2 hzn
                  have HNO := Aside0.mk (solve_no HE.out i (by omega) hpi hz)
                  go_wp2_with fail
                  go_ret2
                  exact ⟨none, HNO.out, rfl, HBW.out⟩
            · have e4i : i = 4 := by omega
              have hpi4 : ¬ ((i : Int) < 4) := by omega
              have HYES := Aside0.mk (solve_yes HE.out (fun r h1 h2 => HZ.out r h1 (by omega)))
              have hO := HO.out
              rw [outP_ge _ _ _ (by omega)] at hO
              have HC := Aside0.mk hO
              have HLE := Aside0.mk (show w.heap.size ≤ h by have h1 := HB3.out.size; have h2 := HMM.out; have h3 := HWM.out; omega)
              clear hO
              go_wp2_with fail
              go_ret2
              refine ⟨some (outL P.length M), HYES.out, ?_, HBW.out⟩
              have hl := outL_length P.length M
              refine ⟨h, P.length, ?_, Nat.le_of_eq hl, HLE.out, HC.out⟩
              rw [hl]
              rfl
end Go.Proofs.YtajccgmeminlhaaGreatDoor
