/- The law BarsBack: whatever the symbols and the letters that become unclear, it returns true. -/
import Derived.Test.YtofheegapiicoaaBackPure
import Derived.Test.YtofheegapiicoaaBarsG
set_option linter.unusedVariables false
set_option linter.unusedSimpArgs false
namespace Go.Proofs.Ytofheegapiicoaa
open Go.RowKit Go.Shelf Go.Proofs.YtofheegapiicoaaW.PrintWords Go.Proofs.Ytofheegapiicoaa.Q

theorem info_bool : (Try.prog.info? 4).map (fun i => (i.zero, i.size, i.bytes)) = some (some (.bool false), 1, 1) := by kernel_rfl

set_option maxHeartbeats 8000000 in
set_option maxRecDepth 1000000 in
theorem barsBack_any (A0 : Option Addr) (c0 : Nat) (l0 : List Int) (A1 : Option Addr) (c1 : Nat) (l1 : List Int) (w : World) (hr0 : Kd.C (Kd.int .u8) w A0 l0.length l0) (hc0 : l0.length ≤ c0) (hp0 : ∀ x ∈ l0, 0 ≤ x ∧ x < 256) (hr1 : Kd.C (Kd.int .u8) w A1 l1.length l1) (hc1 : l1.length ≤ c1) (hp1 : ∀ x ∈ l1, 0 ≤ x ∧ x < 256) :
    Calls Try.prog 3 #[.slice A0 l0.length c0, .slice A1 l1.length c1] w fun e w' => e = .returned (.bool true) ∧ Below w.heap.size w w' := by
  have HR0 := Aside0.mk hr0
  have HP0 := Aside0.mk hp0
  have HR1 := Aside0.mk hr1
  have HP1 := Aside0.mk hp1
  clear hr0 hp0 hr1 hp1
  obtain ⟨m0, hm0⟩ : ∃ m, min l0.length 60 = m := ⟨_, rfl⟩
  obtain ⟨m1, hm1⟩ : ∃ m, min l1.length 10 = m := ⟨_, rfl⟩
  have hmin0 : min (l0.length : Int) 60 = (m0 : Int) := by omega
  have hmin1 : min (l1.length : Int) 10 = (m1 : Int) := by omega
  have hmax0 : max (m0 : Int) 0 = (m0 : Int) := by omega
  have hmax1 : max (m1 : Int) 0 = (m1 : Int) := by omega
  have hml0 : m0 ≤ l0.length := by omega
  have hml1 : m1 ≤ l1.length := by omega
  have hm60 : m0 ≤ 60 := by omega
  clear hm0 hm1
  go_enter Try.func3, Try.ntmps3
  go_wp2_with fail
  go_loopw [5, 26] (fun v i wr => ∃ k : Nat, k ≤ m0 ∧ i = .int .i64 k ∧ wr.ownsRow w.heap.size 5 1 v (md (l0.take k)).length (nums .u8 (md (l0.take k))) ∧ Below w.heap.size w wr) (fun _ i _ => m0 - (intOf i).toNat)
  case atStart => exact ⟨0, Nat.zero_le _, rfl, World.ownsRow_nil _ _ _ _, Below.refl _ _⟩
  case round =>
    obtain ⟨k, hk, rfl, ho, hb⟩ := hrel
    have HO := Aside0.mk ho
    have HB := Aside0.mk hb
    have HS := Aside0.mk hb.size
    clear ho hb
    by_cases hp : k < m0
    · obtain ⟨ad, rfl, hx⟩ := Kd.at_int HR0.out k (by omega) (by omega)
      have hx2 := pw_cell_below HB.out hx
      have hx0 := HP0.out _ (rd_mem l0 k (by omega))
      have HT := Aside0.mk (take_snoc_rd l0 k (by omega))
      simp only [Int.toNat_natCast] at hx2
      clear hx
      generalize rd l0 k = x at hx2 hx0 HT
      obtain ⟨hx0, hx1⟩ := hx0
      have HL := Aside0.mk (show ((md (l0.take k)).length + 1) * 1 ≤ 140737488355328 by rw [md_length, List.length_take]; omega)
      go_wp2_with (first | (at_builtin; refine print_append_num (w0 := w) w.heap.size rfl _ _ 22 5 .u8 1 rfl Try.underlying22 info_u8 (by decide) u5 (md (l0.take k)) _ rfl rfl HO.out HB.out HS.out HL.out ?_; intro v1 w1 hown hB1 hg hat; have HO1 := Aside0.mk hown; have HB1 := Aside0.mk hB1; clear hown hB1 hg hat))
      go_roundw
      case rel =>
        refine ⟨k + 1, by omega, by go_num, ?_, HB1.out⟩
        rw [HT.out, md_append]
        exact HO1.out
      case measure => simp [intOf]; omega
    · obtain rfl : k = m0 := by omega
      have HSL := Aside0.mk (show (md (l0.take k)).length = k by rw [md_length, List.length_take]; omega)
      have HSR := Aside0.mk (show ∀ x ∈ md (l0.take k), 0 ≤ x ∧ x ≤ 63 from fun x hx => md_range hx)
      generalize md (l0.take k) = S at HSL HSR HO
      obtain ⟨AS, cS, hv, hcS, hrS⟩ := Kd.R_reads (Kd.R_of_own (h1 := fun _ => rfl) (ok := fun _ => True) HO.out (fun _ _ => trivial))
      rw [HSL.out] at hv hcS hrS
      subst hv
      have HRS := Aside0.mk hrS
      have HCS := Aside0.mk hcS
      have HWF := Aside0.mk (write_f S (by rw [HSL.out]; omega) HSR.out)
      obtain ⟨tx, htx⟩ : ∃ tx : ByteArray, ⟨(writeText S).toArray⟩ = tx := ⟨_, rfl⟩
      rw [htx] at HWF
      have htb : bytesOf tx = W0 S := by rw [← htx]; exact bytesOf_write S
      have HTB := Aside0.mk htb
      have htn : (tx.size : Int) = 3 * (k : Int) := by
        have := bytesOf_length tx
        rw [htb, W0_length, HSL.out] at this
        omega
      have htn2 : Aside0 (tx.size = 3 * k) := ⟨by omega⟩
      have HWC := Aside0.mk (show Calls Try.prog 8 #[.slice AS k cS] wr (fun e w' => e = .returned (.tuple #[.string tx, .int .i64 0]) ∧ Below wr.heap.size wr w') from by
        have h := bars_Write.calls AS cS S tx 0 wr (by rw [HSL.out]; exact HRS.out) (by rw [HSL.out]; exact HCS.out) HWF.out
        rw [HSL.out] at h
        exact h)
      clear htb htx hrS hcS HO
      go_wp2_with fail
      refine HWC.out.mono ?_
      rintro e w2 ⟨rfl, hb2⟩
      have HB2 := Aside0.mk hb2
      clear hb2
      go_wp2_with fail
      obtain ⟨N, hN⟩ : ∃ N, tx.size = N := ⟨_, rfl⟩
      have hN3 : N = 3 * k := by rw [← hN]; exact htn2.out
      have HN3 := Aside0.mk hN3
      have hcv := Lib.run_convert_string_bytes (P := Try.prog) w2 9 22 5 tx Try.underlying9 Try.underlying22 Try.underlying5
      rw [hN] at hcv
      rw [hcv]
      clear hcv
      have hrow := CRow.bytes w2 5 tx
      have hbel := bytes_below w2 5 tx
      have hsz3 := Lib.bytesWorld_size w2 5 tx
      rw [HTB.out] at hrow
      generalize grownCap w2 N 0 5 = cp
      generalize Lib.bytesWorld w2 5 tx = w3 at hrow hbel hsz3 ⊢
      have HL3 := Aside0.mk hrow
      have HB3 := Aside0.mk (HB2.out.trans (hbel.mono HB2.out.size))
      have HG := Aside0.mk hbel.size
      have HBE := Aside0.mk hbel
      obtain ⟨g, hg⟩ : ∃ g, w2.heap.size = g := ⟨_, rfl⟩
      rw [hg] at HL3 HG hsz3 ⊢
      have HSZ3 := Aside0.mk hsz3
      clear hrow hbel hsz3 hN htn
      have hmk : ∀ W : World, (Instr.makeSlice 26 (.int .i64 (k : Int)) (.int .i64 (k : Int))).run Try.prog W = .ok (.slice (some ⟨W.heap.size, 0, none⟩) k k) (W.alloc (.cells (madeCells #[.bool false] k) 4)) :=
        fun W => run_make_row' 26 4 (.bool false) 1 Try.underlying26 info_bool rfl .i64 .i64 k (by omega) (by omega) W
      go_wp2_with fail
      obtain ⟨h, hh⟩ : ∃ h, w3.heap.size = h := ⟨_, rfl⟩
      have hrowH := CRow.made Value.bool false w3 4 k
      have hrowL := HL3.out.below (below_alloc (Below.refl w3.heap.size w3) (.cells (madeCells #[.bool false] k) 4))
      have hgh : g < h := by have := HSZ3.out; omega
      have hbz : Below g w2 (w3.alloc (.cells (madeCells #[.bool false] k) 4)) := by
        have h1 : Below g w2 w3 := by rw [← hg]; exact HBE.out
        exact h1.alloc HG.out _
      rw [hh] at hrowH ⊢
      generalize w3.alloc (.cells (madeCells #[.bool false] k) 4) = w4 at hrowH hrowL hbz ⊢
      have HH4 := Aside0.mk hrowH
      have HL4 := Aside0.mk hrowL
      have HZ4 := Aside0.mk hbz
      have HBW2 := Aside0.mk (HB.out.trans (HB2.out.mono HB.out.size))
      have HGW := Aside0.mk (show w.heap.size ≤ g by rw [← hg]; exact HBW2.out.size)
      have HGE := Aside0.mk hg
      clear hrowH hrowL hbz hh hg hmk
      obtain ⟨w1, rfl⟩ : ∃ w1, w1 = wr := ⟨_, rfl⟩
      go_loopw [62] (fun i wr => ∃ j : Nat, j ≤ m1 ∧ i = .int .i64 j ∧ CRow (Value.int .u8) 0 wr g (hitsL (3 * k) (W0 S) (l1.take j)) ∧ CRow Value.bool false wr h (hitsH (3 * k) (List.replicate k false) (l1.take j)) ∧ Below g w2 wr) (fun i _ => m1 - (intOf i).toNat)
      case atStart => exact ⟨0, Nat.zero_le _, rfl, HL4.out, HH4.out, HZ4.out⟩
      case round =>
        obtain ⟨j, hj, rfl, hL, hH, hZ⟩ := hrel
        have HL := Aside0.mk hL
        have HH := Aside0.mk hH
        have HZ := Aside0.mk hZ
        have HBr := Aside0.mk (HBW2.out.trans (hZ.mono HGW.out))
        clear hL hH hZ
        by_cases hpj : j < m1
        · obtain ⟨ad, rfl, hx⟩ := Kd.at_int HR1.out j (by omega) (by omega)
          have hx2 := pw_cell_below HBr.out hx
          have hx0 := HP1.out _ (rd_mem l1 j (by omega))
          have HT := Aside0.mk (take_snoc_rd l1 j (by omega))
          simp only [Int.toNat_natCast] at hx2
          clear hx
          generalize rd l1 j = x at hx2 hx0 HT
          obtain ⟨hx0, hx1⟩ := hx0
          have HLL := Aside0.mk (show (hitsL (3 * k) (W0 S) (l1.take j)).length = 3 * k by rw [hitsL_length, W0_length, HSL.out])
          have HHL := Aside0.mk (show (hitsH (3 * k) (List.replicate k false) (l1.take j)).length = k by rw [hitsH_length, List.length_replicate])
          rcases Nat.eq_zero_or_pos k with hk0 | hk0
          · have hz : ¬ (0 < 3 * (k : Int)) := by omega
            have e1 : Aside0 (hitsL (3 * k) (W0 S) (l1.take j ++ [x]) = hitsL (3 * k) (W0 S) (l1.take j)) := ⟨by
              rw [hitsL_snoc]
              have : hitsL (3 * k) (W0 S) (l1.take j) = [] := List.eq_nil_of_length_eq_zero (by rw [HLL.out]; omega)
              rw [this]
              rfl⟩
            have e2 : Aside0 (hitsH (3 * k) (List.replicate k false) (l1.take j ++ [x]) = hitsH (3 * k) (List.replicate k false) (l1.take j)) := ⟨by
              rw [hitsH_snoc]
              have : hitsH (3 * k) (List.replicate k false) (l1.take j) = [] := List.eq_nil_of_length_eq_zero (by rw [HHL.out]; omega)
              rw [this]
              rfl⟩
            clear hk0
            go_wp2_with fail
            go_roundw
            case rel => exact ⟨j + 1, by omega, by go_num, by rw [HT.out, e1.out]; exact HL.out, by rw [HT.out, e2.out]; exact HH.out, HZ.out⟩
            case measure => simp [intOf]; omega
          · have hz : 0 < 3 * (k : Int) := by omega
            obtain ⟨q, hq⟩ : ∃ q : Nat, x.toNat % (3 * k) = q := ⟨_, rfl⟩
            have hqlt : q < 3 * k := by rw [← hq]; exact Nat.mod_lt _ (by omega)
            have hqi : x % (3 * (k : Int)) = (q : Int) := by
              rw [← hq, Int.natCast_emod, Int.toNat_of_nonneg hx0]
              rfl
            obtain ⟨r, hr⟩ : ∃ r : Nat, q / 3 = r := ⟨_, rfl⟩
            have hrlt : r < k := by omega
            have hri : (q : Int) / 3 = (r : Int) := by omega
            have HQ := Aside0.mk hq
            have HRr := Aside0.mk hr
            have hc1 := HL.out.cell q (by rw [HLL.out]; exact hqlt)
            have hf1 := HL.out.free q (by rw [HLL.out]; exact hqlt)
            have hc2 := HH.out.cell r (by rw [HHL.out]; exact hrlt)
            have hf2 := HH.out.free r (by rw [HHL.out]; exact hrlt)
            have HNL := Aside0.mk (((HL.out.set q (by rw [HLL.out]; exact hqlt) 63).other h r (.bool true) (by omega)))
            have HNH := Aside0.mk ((HH.out.other g q (.int .u8 63) (by omega)).set r (by rw [HHL.out]; exact hrlt) true)
            have HNZ := Aside0.mk ((HZ.out.setCell (p := ⟨g, q, none⟩) (Nat.le_refl _) (.int .u8 63)).setCell (p := ⟨h, r, none⟩) (Nat.le_of_lt hgh) (.bool true))
            clear hq hr
            go_wp2_with fail
            go_roundw
            case rel =>
              refine ⟨j + 1, by omega, by go_num, ?_, ?_, HNZ.out⟩
              · rw [HT.out, hitsL_snoc, stepL, HQ.out]
                exact HNL.out
              · rw [HT.out, hitsH_snoc, stepH, HQ.out, HRr.out]
                exact HNH.out
            case measure => simp [intOf]; omega
        · obtain rfl : j = m1 := by omega
          have HINV := Aside0.mk (inv_hits S.length (W0 S) (l1.take j) _ _ (inv_start S))
          rw [HSL.out] at HINV
          have HLL := Aside0.mk (show (hitsL (3 * k) (W0 S) (l1.take j)).length = 3 * k by rw [hitsL_length, W0_length, HSL.out])
          generalize hitsL (3 * k) (W0 S) (l1.take j) = L at HL HINV HLL
          generalize hitsH (3 * k) (List.replicate k false) (l1.take j) = H at HH HINV
          have TOLD := Aside0.mk (told_of S (by rw [HSL.out]; exact hm60) HSR.out L H (by rw [HSL.out]; exact HINV.out))
          have hcs := HL.out.string (P := Try.prog) 22 5 9 Try.underlying22 Try.underlying5 Try.underlying9 (3 * k) cp HLL.out
          go_wp2_with fail
          have HRD := Aside0.mk TOLD.out.read
          rw [HSL.out] at HRD
          generalize hgg : gl (strOfNums L) = gg at HRD
          refine (bars_Read.calls _ _ _ _ _ HRD.out).mono ?_
          rintro e w5 ⟨v0, v1, rfl, hv0, hv1, hb5⟩
          obtain ⟨Ag, cg, hve, hcg, hrg⟩ := Kd.R_reads hv0
          obtain ⟨Ae, ce, hwe, hce, hre⟩ := Kd.R_reads hv1
          obtain ⟨ne, hne⟩ : ∃ ne, (erasedOf gg k).length = ne := ⟨_, rfl⟩
          rw [symsOf_length] at hve hcg hrg
          rw [hne] at hwe hce hre
          subst hve
          subst hwe
          have HNE := Aside0.mk hne
          have HSZW := Aside0.mk (show w1.heap.size ≤ g by rw [← HGE.out]; exact HB2.out.size)
          have HBW1 := Aside0.mk (HB2.out.trans (HZ.out.mono HSZW.out))
          have HH5 := Aside0.mk (HH.out.below hb5)
          have HRS5 := Aside0.mk (Kd.C_below (Kd.C_below HRS.out HBW1.out) hb5)
          have HB5 := Aside0.mk (HBr.out.trans (hb5.mono HBr.out.size))
          have HRG := Aside0.mk hrg
          have HRE := Aside0.mk hre
          have HUN := Aside0.mk (show ∀ i, i < k → unclear gg i = H.getD i false from fun i hi => by rw [← hgg]; exact TOLD.out.un i (by rw [HSL.out]; exact hi))
          have HSY := Aside0.mk (show ∀ i, i < k → H.getD i false = false → (symsOf gg k).getD i 0 = S.getD i 0 from fun i hi h2 => by rw [syms_at gg i k hi, ← hgg]; exact TOLD.out.sym i (by rw [HSL.out]; exact hi) h2)
          have HZE := Aside0.mk (show ∀ i, i < k → H.getD i false = true → (symsOf gg k).getD i 0 = 0 from fun i hi h2 => by rw [syms_at gg i k hi, ← hgg]; exact TOLD.out.zero i (by rw [HSL.out]; exact hi) h2)
          have HLH := Aside0.mk HINV.out.lenH
          clear hv0 hv1 hb5 hrg hre hcs hne hgg HBr HZ HL HH HRD HWC HRS HB3 HB2 HL3 HL4 HH4 HZ4 HWF HTB HR0 HP0 HR1 HP1 HBW2 HGW HGE hmin0 hmax0 hmin1 hmax1 hml0 hml1 hN3
          go_wp2_with fail
          go_loop [17, 103] (fun c i => ∃ t : Nat, t ≤ k ∧ i = .int .i64 t ∧ c = .int .i64 ((erasedOf gg t).length : Int)) (fun _ i => k - (intOf i).toNat)
          case atStart => exact ⟨0, Nat.zero_le _, rfl, rfl⟩
          case round =>
            obtain ⟨t, ht, rfl, rfl⟩ := hrel
            by_cases hpt : t < k
            · obtain ⟨aS, rfl, hxS⟩ := Kd.at_int HRS5.out t (by omega) (by omega)
              obtain ⟨aG, rfl, hxG⟩ := Kd.at_int HRG.out t (by omega) (by omega)
              have hxH := HH5.out.cell t (by rw [HLH.out]; exact hpt)
              have hel := erasedOf_le gg t
              simp only [Int.toNat_natCast, rd] at hxS hxG
              cases hHt : H.getD t false with
              | true =>
                rw [hHt] at hxH
                rw [HZE.out t hpt hHt] at hxG
                have hu := (HUN.out t hpt).trans hHt
                obtain ⟨he1, he2⟩ := erased_at gg t k hpt hu
                rw [HNE.out] at he1
                have hey := erasedOf_yes gg t hu
                have hey2 : Aside0 ((erasedOf gg (t + 1)).length = (erasedOf gg t).length + 1) := ⟨by rw [hey]; simp⟩
                generalize (erasedOf gg t).length = q at he1 he2 hey2 hel ⊢
                obtain ⟨aE, rfl, hxE⟩ := Kd.at_int HRE.out q (by omega) (by omega)
                simp only [Int.toNat_natCast, rd] at hxE
                rw [he2] at hxE
                have HE1 := Aside0.mk he1
                have hd : decide ((ne : Int) ≤ (q : Int)) = false := decide_eq_false (by omega)
                clear hey he2 hu hHt
                go_wp2_with fail
                go_round
                case rel => exact ⟨t + 1, by omega, by go_num, by rw [hey2.out]; go_num⟩
                case measure => simp [intOf]; omega
              | false =>
                rw [hHt] at hxH
                rw [HSY.out t hpt hHt] at hxG
                have hu := (HUN.out t hpt).trans hHt
                have hey2 : Aside0 ((erasedOf gg (t + 1)).length = (erasedOf gg t).length) := ⟨by rw [erasedOf_no gg t hu]⟩
                generalize (erasedOf gg t).length = q at hey2 hel ⊢
                clear hu hHt
                go_wp2_with fail
                go_round
                case rel => exact ⟨t + 1, by omega, by go_num, by rw [hey2.out]⟩
                case measure => simp [intOf]; omega
            · obtain rfl : t = k := by omega
              rw [HNE.out]
              go_wp2_with fail
              refine (awake_any _).mono ?_
              rintro e w6 ⟨rfl, hb6⟩
              have HB6 := Aside0.mk (HB5.out.trans (hb6.mono HB5.out.size))
              clear hb6
              go_wp2
              go_ret
              exact ⟨rfl, HB6.out⟩
end Go.Proofs.Ytofheegapiicoaa
