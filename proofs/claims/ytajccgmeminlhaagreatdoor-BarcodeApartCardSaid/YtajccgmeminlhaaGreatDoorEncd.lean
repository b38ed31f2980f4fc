/- slices.Clone of ints, solomon.Encode: walks. -/
import Derived.Test.YtajccgmeminlhaaGreatDoorSolC
import Derived.Test.YtajccgmeminlhaaGreatDoorSolWord
import Derived.BigRegion
set_option linter.unusedVariables false
set_option linter.unusedSimpArgs false
namespace Go.Proofs.YtajccgmeminlhaaGreatDoor
open Go.RowKit Go.Shelf Go.Proofs.YtajccgmeminlhaaGreatDoorW.PrintWords Go.Proofs.YtajccgmeminlhaaGreatDoorW.PrintLast Go.Proofs.YtajccgmeminlhaaGreatDoor.Q Go.Proofs.YtajccgmeminlhaaGreatDoor.Gf

set_option maxHeartbeats 4000000 in
set_option maxRecDepth 100000 in
theorem Encode_bad (A : Option Addr) (c : Nat) (l : List Int) (w : World) (hr : Kd.C (Kd.int .u8) w A l.length l) (hc : l.length ≤ c) (hn : l.length ≤ 900000) (hb : wordW (l ++ [0, 0, 0, 0]) = false) :
    Calls Tryz.prog 40 #[.slice A l.length c] w fun e w' => e = .returned (.tuple #[.slice none 0 0, .int .i64 2]) ∧ Below w.heap.size w w' := by
  have HC := Aside0.mk (clone_u8 A c l w hr hc (by omega))
  clear hr
  go_enter Tryz.func40, Tryz.ntmps40
  go_wp2_with fail
  refine HC.out.mono ?_
  rintro e w1 ⟨v, rfl, ho, hb1⟩
  have HO := Aside0.mk ho.toR
  have HB1 := Aside0.mk hb1
  clear ho hb1
  go_wp2_with (first | (at_builtin; refine Kd.R_append_zeros (P := Tryz.prog) (Kd.int .u8) (w0 := w) w.heap.size rfl _ _ 48 3 5 (.int .u8 0) 1 rfl Tryz.underlying48 Tryz.underlying3 info_u8 rfl (by decide) (by decide) v l (0 : Int) 4 (fun _ => True) rfl rfl rfl (fun _ _ => trivial) HO.out (by decide) HB1.out HB1.out.size (by simp; omega) ?_; intro v1 w2 hR hB2 hg hat; have HR2 := Aside0.mk hR; have HB2 := Aside0.mk hB2; clear hR hB2 hg hat))
  obtain ⟨A2, c2, rfl, hc2, hr2⟩ := Kd.R_reads HR2.out
  change Kd.C (Kd.int .u8) w2 A2 (l ++ [0, 0, 0, 0]).length (l ++ [0, 0, 0, 0]) at hr2
  have hw := word_any A2 c2 (l ++ [0, 0, 0, 0]) w2 hr2 hc2 (by simp; omega)
  rw [hb] at hw
  have HW := Aside0.mk hw
  clear hr2 hw hc2
  go_wp2_with fail
  refine HW.out.mono ?_
  rintro e w3 ⟨rfl, rfl⟩
  go_wp2
  go_ret2
  exact ⟨rfl, HB2.out⟩
def plL (n j : Nat) : List Nat := (List.range j).map fun i => n + i
theorem plL_succ (n j : Nat) : plL n (j + 1) = plL n j ++ [n + j] := by
  unfold plL
  rw [List.range_succ, List.map_append]
  rfl
theorem plL_length (n j : Nat) : (plL n j).length = j := by simp [plL]
theorem plL_at (n j i : Nat) (h : i < j) : (plL n j).getD i 0 = n + i := by
  unfold plL
  rw [List.getD_eq_getElem?_getD, List.getElem?_map, List.getElem?_range h]
  rfl
theorem plL_mem {n j p : Nat} (h : p ∈ plL n j) : n ≤ p ∧ p < n + j := by
  unfold plL at h
  obtain ⟨i, hi, rfl⟩ := List.mem_map.1 h
  have := List.mem_range.1 hi
  omega
theorem plL_nodup (n j : Nat) : (plL n j).Nodup := by
  unfold plL
  exact List.Pairwise.map _ (fun a b h => by omega) List.nodup_range
theorem is_plL (n j : Nat) : is (plL n (j + 1)) = is (plL n j) ++ [((n + j : Nat) : Int)] := by
  unfold is
  rw [plL_succ, List.map_append]
  rfl
set_option maxHeartbeats 8000000 in
set_option maxRecDepth 100000 in
theorem Encode_ok (A : Option Addr) (c : Nat) (D : List G) (w : World) (hp : PW w) (hr : Kd.C (Kd.int .u8) w A D.length (ns D)) (hc : D.length ≤ c) (h1 : 0 < D.length) (hn : D.length ≤ 59) :
    Calls Tryz.prog 40 #[.slice A D.length c] w fun e w' => ∃ g c, e = .returned (.tuple #[.slice (some ⟨g, 0, none⟩) (D.length + 4 : Nat) c, .int .i64 0]) ∧ w.heap.size ≤ g ∧ D.length + 4 ≤ c ∧ ∃ R : List G, R.length = D.length + 4 ∧ R.take D.length = D ∧ Code R ∧ CRow (Value.int .u8) 0 w' g (ns R) ∧ Below w.heap.size w w' := by
  obtain ⟨N, hN⟩ : ∃ N, N = D.length := ⟨_, rfl⟩
  have hcl := clone_u8 A c (ns D) w (by rw [ns_length]; exact hr) (by rw [ns_length]; exact hc) (by rw [ns_length]; omega)
  rw [ns_length] at hcl
  have HC := Aside0.mk hcl
  have HP := Aside0.mk hp
  clear hr hcl hp
  rw [← hN] at HC h1 hn hc ⊢
  have HN := Aside0.mk hN
  clear hN
  go_enter Tryz.func40, Tryz.ntmps40
  go_wp2_with fail
  refine HC.out.mono ?_
  rintro e w1 ⟨v, rfl, ho, hb1⟩
  have HO := Aside0.mk ho.toR
  have HB1 := Aside0.mk hb1
  clear ho hb1
  have HLN := Aside0.mk (show ((ns D).length + (4 : Int).toNat) * 1 ≤ 140737488355328 by rw [ns_length, ← HN.out]; simp; omega)
  obtain ⟨X, hX⟩ : ∃ X, X = ns D := ⟨_, rfl⟩
  rw [← hX] at HO HLN
  have HX := Aside0.mk hX
  clear hX
  go_wp2_with (first | (at_builtin; refine Kd.R_append_zeros (P := Tryz.prog) (Kd.int .u8) (w0 := w) w.heap.size rfl _ _ 48 3 5 (.int .u8 0) 1 rfl Tryz.underlying48 Tryz.underlying3 info_u8 rfl (by decide) (by decide) v X (0 : Int) 4 (fun _ => True) rfl rfl rfl (fun _ _ => trivial) HO.out (by decide) HB1.out HB1.out.size HLN.out ?_; intro v1 w2 hR hB2 hg hat; have HR2 := Aside0.mk hR; have HB2 := Aside0.mk hB2; clear hR hB2 hg hat))
  obtain ⟨E, hE⟩ : ∃ E : List G, E = D ++ [0, 0, 0, 0] := ⟨_, rfl⟩
  have hEl : E.length = N + 4 := by rw [hE, HN.out]; simp
  have hEn : X ++ List.replicate (Int.toNat 4) 0 = ns E := by rw [HX.out, hE, ns_append]; rfl
  have HOW : Own .u8 5 w2 w.heap.size v1 (ns E) := by rw [← hEn]; exact Kd.own_of_R (enc := Value.int .u8) (h1 := fun _ => rfl) HR2.out
  obtain ⟨g, c2, rfl, hc2, hgb, hrow⟩ := own_crow HOW (by rw [ns_length]; omega)
  rw [ns_length, hEl] at hc2 ⊢
  have hrd := hrow.reads (by rw [ns_length]; omega)
  rw [ns_length] at hrd
  have hw := word_any (some ⟨g, 0, none⟩) c2 (ns E) w2 (by rw [ns_length]; exact hrd) (by rw [ns_length]; omega) (by rw [ns_length]; omega)
  rw [word_yes E (by omega) (by omega), ns_length, hEl] at hw
  have HW := Aside0.mk hw
  have HRW := Aside0.mk hrow
  have HP2 := Aside0.mk (HP.out.below HB2.out)
  have HGB := Aside0.mk hgb
  have HGL := Aside0.mk hrow.lt
  have hB0 : w.heap.size ≤ w2.heap.size := HB2.out.size
  clear hw hrow hrd hgb HOW HR2 HP
  go_wp2_with fail
  refine HW.out.mono ?_
  rintro e w3 ⟨rfl, rfl⟩
  go_wp2_with fail
  go_loopw [5, 17] (fun v i wr => ∃ j : Nat, j ≤ 4 ∧ i = .int .i64 j ∧ Own .i64 3 wr w3.heap.size v (is (plL N j)) ∧ Below w3.heap.size w3 wr) (fun _ i _ => 4 - (intOf i).toNat)
  case atStart => exact ⟨0, Nat.zero_le _, rfl, World.ownsRow_nil _ _ _ _, Below.refl _ _⟩
  case round =>
    obtain ⟨j, hj, rfl, hO, hB⟩ := hrel
    have HOJ := Aside0.mk hO
    have HBJ := Aside0.mk hB
    have HSJ := Aside0.mk hB.size
    clear hO hB
    by_cases hp4 : j < 4
    · have hbj : (j : Int) < 4 := by omega
      have HL := Aside0.mk (show ((is (plL N j)).length + 1) * 8 ≤ 140737488355328 by rw [is_length, plL_length]; omega)
      have e1 : wrap64 ((N : Int) + (j : Int)) = ((N + j : Nat) : Int) := by unfold wrap64; omega
      go_wp2_with (first | (at_builtin; refine print_append_num (w0 := w3) w3.heap.size rfl _ _ 29 3 .i64 8 rfl Tryz.underlying29 info_int (by decide) u5 (is (plL N j)) _ rfl rfl HOJ.out HBJ.out HSJ.out HL.out ?_; intro v5 w5 hown hB5 hg hat; have HO5 := Aside0.mk hown; have HB5 := Aside0.mk hB5; clear hown hB5 hg hat))
      go_roundw
      case rel => exact ⟨j + 1, by omega, by go_num, by rw [is_plL, show ((N + j : Nat) : Int) = (N : Int) + (j : Int) by omega]; exact HO5.out, HB5.out⟩
      case measure => simp [intOf]; omega
    · have e4 : j = 4 := by omega
      have hpj4 : ¬ ((j : Int) < 4) := by omega
      have HOP : Own .i64 3 wr w3.heap.size u5 (is (plL N 4)) := by rw [← e4]; exact HOJ.out
      obtain ⟨gp, cP, hvP, hcP, hgpb, hrowP⟩ := own_crow HOP (by rw [is_length, plL_length]; omega)
      have hrP := hrowP.reads (by rw [is_length, plL_length]; omega)
      rw [is_length, plL_length] at hvP hcP hrP
      subst hvP
      have hHJ := HRW.out.belowB HBJ.out HGL.out
      have hrE := hHJ.reads (by rw [ns_length]; omega)
      rw [ns_length] at hrE
      have hso := solve_any (some ⟨g, 0, none⟩) c2 E (some ⟨gp, 0, none⟩) cP (plL N 4) wr (HP2.out.below HBJ.out) hrE (by omega) (by omega) (by rw [plL_length]; exact hrP) (by rw [plL_length]; exact hcP) (by rw [plL_length]; omega) (fun p hp => by have := plL_mem hp; omega) (plL_nodup N 4)
      rw [hEl, plL_length] at hso
      have HSO := Aside0.mk hso
      have HRJ := Aside0.mk hHJ
      have HRP := Aside0.mk hrowP
      have hgl := HGL.out
      have HNE1 := Aside0.mk (show g ≠ gp by omega)
      clear hso hrE hHJ hrP hrowP HOP
      go_wp2_with fail
      refine HSO.out.mono ?_
      rintro e w6 ⟨r, hS, hR, hb6⟩
      cases r with
      | none =>
        have := hS.1
        rw [plL_length] at this
        omega
      | some o =>
        obtain ⟨go, cO, rfl, hcO, hgo, hrO⟩ := hR
        have hol : o.length = 4 := by rw [hS.1, plL_length]
        rw [hol] at hcO ⊢
        have hCode := (lin_syn (l := E) (P := plL N 4) (o := o) (fun p hp => by have := plL_mem hp; omega) hS.1).1 hS.2
        have HCode := Aside0.mk hCode
        have HRO := Aside0.mk hrO
        have HR6 := Aside0.mk (HRJ.out.below hb6)
        have HRP6 := Aside0.mk (HRP.out.below hb6)
        have HNE2 := Aside0.mk (show g ≠ go by have := HSJ.out; omega)
        have HB6 := Aside0.mk ((HB2.out.trans (HBJ.out.mono hB0)).trans (hb6.mono (Nat.le_trans hB0 HSJ.out)))
        have HOL := Aside0.mk hol
        have HEL := Aside0.mk hEl
        clear hS hrO hb6 hCode hol hEl
        go_wp2_with fail
        go_loopw [36] (fun i wr => ∃ j : Nat, j ≤ 4 ∧ i = .int .i64 j ∧ CRow (Value.int .u8) 0 wr g (ns (addAt E ((plL N 4).take j) (o.take j))) ∧ CRow (Value.int .i64) 0 wr gp (is (plL N 4)) ∧ CRow (Value.int .u8) 0 wr go (ns o) ∧ Below w.heap.size w wr) (fun i _ => 4 - (intOf i).toNat)
        case atStart => exact ⟨0, Nat.zero_le _, rfl, HR6.out, HRP6.out, HRO.out, HB6.out⟩
        case round =>
          obtain ⟨j, hj, rfl, hA1, hA2, hA3, hB⟩ := hrel
          have hal : (addAt E ((plL N 4).take j) (o.take j)).length = N + 4 := by rw [addAt_length, HEL.out]
          by_cases hpj : j < 4
          · have hpj' : (j : Int) < 4 := by omega
            have hst := addAt_step (plL N 4) E o j (by rw [plL_length]; exact hpj) (by rw [plL_length]; exact HOL.out)
            have hcp := hA2.cell j (by rw [is_length, plL_length]; exact hpj)
            have e1 : (is (plL N 4)).getD j 0 = ((N + j : Nat) : Int) := by
              have := is_rd (plL N 4) j
              unfold rd at this
              rw [Int.toNat_natCast] at this
              rw [this, plL_at N 4 j hpj]
            rw [e1] at hcp
            rw [plL_at N 4 j hpj] at hst
            have hlt : N + j < N + 4 := by omega
            obtain ⟨p, hpe⟩ : ∃ p, p = N + j := ⟨_, rfl⟩
            rw [← hpe] at hcp hst hlt
            clear hpe e1
            generalize addAt E ((plL N 4).take j) (o.take j) = L at hst hA1 hal
            have hx0 := hA1.drew.cell p (by rw [ns_length]; omega)
            have hf1 := hA1.drew.free p (by rw [ns_length]; omega)
            have hy0 := hA3.drew.cell j (by rw [ns_length, HOL.out]; omega)
            rw [ns_at] at hx0 hy0
            have hset := hA1.drew.set p (by rw [ns_length]; omega) (((L.getD p 0 + o.getD j 0).n : Nat) : Int)
            rw [ns_set, ← hst] at hset
            have HNO := Aside0.mk hset
            have HNP := Aside0.mk (hA2.drew.other g p (.int .u8 ((L.getD p 0 + o.getD j 0).n : Nat)) HNE1.out)
            have HNQ := Aside0.mk (hA3.drew.other g p (.int .u8 ((L.getD p 0 + o.getD j 0).n : Nat)) HNE2.out)
            have HNB := Aside0.mk (hB.drew.setCell (p := ⟨g, p, none⟩) HGB.out (.int .u8 ((L.getD p 0 + o.getD j 0).n : Nat)))
            have hxor := xor_n (L.getD p 0) (o.getD j 0)
            generalize L.getD p 0 = x at hx0 hxor HNO HNP HNQ HNB
            generalize o.getD j 0 = y at hy0 hxor HNO HNP HNQ HNB
            have hc1 := hx0
            have hc2' := hy0
            have hbp : (0 : Int) ≤ (p : Int) ∧ (p : Int) < (N : Int) + 4 := by omega
            have hbj : (0 : Int) ≤ (j : Int) ∧ (j : Int) < 4 := by omega
            clear hst hA1 hA2 hA3 hB hx0 hy0 hset hal
            go_wp2_with fail
            refine start_ (n := 11) (S := fun w' => w'.cell? ⟨g, p, none⟩ = some (.int .u8 (x.n : Nat)) ∧ w'.cell? ⟨go, j, none⟩ = some (.int .u8 (y.n : Nat))) (ds := [10]) #[false, false, false, false, false, false, false, false, false, false, false] (by kernel_rfl) rfl rfl ⟨hc1, hc2'⟩ (fun hHeld => ?_)
            generalize wr.drew = wd at hc1 hc2' hf1 HNO HNP HNQ HNB hHeld ⊢
            refine pure_ (i := 0) (N := some 41) (v := ?_) (a' := ?_) #[true, false, false, false, false, false, false, false, false, false, false] rfl rfl (by kernel_rfl) (fun _ _ _ h => h) (Or.inl ⟨by rfl, ?_⟩) ?_ ?_
            rotate_left
            · intro w'
              go_simp
              with_reducible rfl
            rotate_left
            · simp only [Act.put, List.setIfInBounds_toArray, List.set_cons_zero, List.set_cons_succ, i64_w, i32_w]
              rfl
            refine pure_ (i := 1) (N := some 42) (v := ?_) (a' := ?_) #[true, true, false, false, false, false, false, false, false, false, false] rfl rfl (by kernel_rfl) (fun _ _ _ h => h) (Or.inl ⟨by rfl, ?_⟩) ?_ ?_
            rotate_left
            · intro w'
              go_simp
              with_reducible rfl
            rotate_left
            · simp only [Act.put, List.setIfInBounds_toArray, List.set_cons_zero, List.set_cons_succ, i64_w, i32_w]
              rfl
            refine pure_ (i := 2) (N := some 43) (v := ?_) (a' := ?_) #[true, true, true, false, false, false, false, false, false, false, false] rfl rfl (by kernel_rfl) (fun _ _ _ h => h) (Or.inl ⟨by rfl, ?_⟩) ?_ ?_
            rotate_left
            · intro w'
              go_simp
              with_reducible rfl
            rotate_left
            · simp only [Act.put, List.setIfInBounds_toArray, List.set_cons_zero, List.set_cons_succ, i64_w, i32_w]
              rfl
            refine pure_ (i := 4) (N := some 45) (v := ?_) (a' := ?_) #[true, true, true, false, true, false, false, false, false, false, false] rfl rfl (by kernel_rfl) (fun _ _ _ h => h) (Or.inl ⟨by rfl, ?_⟩) ?_ ?_
            rotate_left
            · intro w'
              go_simp
              with_reducible rfl
            rotate_left
            · simp only [Act.put, List.setIfInBounds_toArray, List.set_cons_zero, List.set_cons_succ, i64_w, i32_w]
              rfl
            refine pure_ (i := 5) (N := some 46) (v := ?_) (a' := ?_) #[true, true, true, false, true, true, false, false, false, false, false] rfl rfl (by kernel_rfl) (fun _ _ _ h => h) (Or.inl ⟨by rfl, ?_⟩) ?_ ?_
            rotate_left
            · intro w'
              go_simp
              with_reducible rfl
            rotate_left
            · simp only [Act.put, List.setIfInBounds_toArray, List.set_cons_zero, List.set_cons_succ, i64_w, i32_w]
              rfl
            refine pure_ (i := 6) (N := some 47) (v := ?_) (a' := ?_) #[true, true, true, false, true, true, true, false, false, false, false] rfl rfl (by kernel_rfl) (fun _ _ _ h => h) (Or.inl ⟨by rfl, ?_⟩) ?_ ?_
            rotate_left
            · intro w'
              go_simp
              with_reducible rfl
            rotate_left
            · simp only [Act.put, List.setIfInBounds_toArray, List.set_cons_zero, List.set_cons_succ, i64_w, i32_w]
              rfl
            refine take_ (i := 3) (N := some 44) (v := ?_) (a' := ?_) #[true, true, true, true, true, true, true, false, false, false, false] rfl rfl (by kernel_rfl) (fun _ _ _ h => h) (Or.inl ⟨by rfl, ?_⟩) hHeld ?_ ?_
            rotate_left
            · rintro w' ⟨s0, s1⟩
              go_simp
              with_reducible rfl
            rotate_left
            · simp only [Act.put, List.setIfInBounds_toArray, List.set_cons_zero, List.set_cons_succ, i64_w, i32_w]
              rfl
            refine take_ (i := 7) (N := some 48) (v := ?_) (a' := ?_) #[true, true, true, true, true, true, true, true, false, false, false] rfl rfl (by kernel_rfl) (fun _ _ _ h => h) (Or.inl ⟨by rfl, ?_⟩) hHeld ?_ ?_
            rotate_left
            · rintro w' ⟨s0, s1⟩
              go_simp
              with_reducible rfl
            rotate_left
            · simp only [Act.put, List.setIfInBounds_toArray, List.set_cons_zero, List.set_cons_succ, i64_w, i32_w]
              rfl
            refine pure_ (i := 8) (N := some 49) (v := ?_) (a' := ?_) #[true, true, true, true, true, true, true, true, true, false, false] rfl rfl (by kernel_rfl) (fun _ _ _ h => h) (Or.inl ⟨by rfl, ?_⟩) ?_ ?_
            rotate_left
            · intro w'
              go_simp
              with_reducible rfl
            rotate_left
            · simp only [Act.put, List.setIfInBounds_toArray, List.set_cons_zero, List.set_cons_succ, i64_w, i32_w]
              rfl
            refine pure_ (i := 9) (N := some 50) (v := ?_) (a' := ?_) #[true, true, true, true, true, true, true, true, true, true, false] rfl rfl (by kernel_rfl) (fun _ _ _ h => h) (Or.inl ⟨by rfl, ?_⟩) ?_ ?_
            rotate_left
            · intro w'
              go_simp
              with_reducible rfl
            rotate_left
            · simp only [Act.put, List.setIfInBounds_toArray, List.set_cons_zero, List.set_cons_succ, i64_w, i32_w]
              rfl
            refine last_ (i := 10) (N := none) #[true, true, true, true, true, true, true, true, true, true, true] rfl rfl (by kernel_rfl) (by decide) (fun K hK => ?_)
            refine skip_ (w1 := ?_) (by rfl) rfl ?_ ?_
            rotate_left
            · go_simp
              rfl
            refine hK.out _ _ ?_
            clear hK K
            refine done_ (by kernel_rfl) ?_
            go_wp2
            go_roundw
            case rel => exact ⟨j + 1, by omega, by go_num, HNO.out, HNP.out, HNQ.out, HNB.out⟩
            case measure => simp [intOf]; omega
          · have e4j : j = 4 := by omega
            have hpj4 : ¬ ((j : Int) < 4) := by omega
            have hfin : addAt E ((plL N 4).take j) (o.take j) = addAt E (plL N 4) o := by
              rw [List.take_of_length_le (by rw [plL_length]; omega), List.take_of_length_le (by rw [HOL.out]; omega)]
            rw [hfin] at hA1
            have HA1 := Aside0.mk hA1
            have HB := Aside0.mk hB
            clear hA1 hA2 hA3 hB
            go_wp2_with fail
            go_ret2
            refine ⟨g, c2, rfl, HGB.out, hc2, addAt E (plL N 4) o, by rw [addAt_length, HEL.out], ?_, HCode.out, HA1.out, HB.out⟩
            refine ext_G (by rw [List.length_take, addAt_length, HEL.out, ← HN.out]; omega) fun t ht => ?_
            rw [List.length_take, addAt_length, HEL.out] at ht
            have h1 : ((addAt E (plL N 4) o).take N).getD t 0 = (addAt E (plL N 4) o).getD t 0 := by
              rw [List.getD_eq_getElem?_getD, List.getD_eq_getElem?_getD, List.getElem?_take, if_pos (by omega)]
            rw [h1, addAt_off _ _ _ _ (fun p hp => by have := plL_mem hp; rw [HEL.out]; omega) (fun h => by have := plL_mem h; omega), hE, List.getD_eq_getElem?_getD, List.getD_eq_getElem?_getD, List.getElem?_append_left (by rw [← HN.out]; omega)]
end Go.Proofs.YtajccgmeminlhaaGreatDoor
