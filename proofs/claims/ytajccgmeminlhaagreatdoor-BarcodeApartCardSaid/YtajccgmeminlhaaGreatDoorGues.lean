/- solomon.guesses: the iterator's contract. -/
import Derived.Test.YtajccgmeminlhaaGreatDoorRos
import Derived.Test.YtajccgmeminlhaaGreatDoorModi
import Derived.BigRegionIn
import Derived.Stop.RegionWithIn
set_option linter.unusedVariables false
set_option linter.unusedSimpArgs false
namespace Go.Proofs.YtajccgmeminlhaaGreatDoor
open Go.RowKit Go.Shelf Go.Proofs.YtajccgmeminlhaaGreatDoorW.PrintWords Go.Proofs.YtajccgmeminlhaaGreatDoorW.PrintLast Go.Proofs.YtajccgmeminlhaaGreatDoor.Q Go.Proofs.YtajccgmeminlhaaGreatDoor.Gf

def detT (T : List G) : G := T.getD 1 0 * T.getD 1 0 + T.getD 0 0 * T.getD 2 0
def aT (T : List G) : G := (T.getD 1 0 * T.getD 2 0 + T.getD 0 0 * T.getD 3 0) / detT T
def bT (T : List G) : G := (T.getD 2 0 * T.getD 2 0 + T.getD 1 0 * T.getD 3 0) / detT T
def rootsT (T : List G) : List G := rootsN [bT T, aT T, 1] 64
def one1 (T : List G) : List (List G) := if 2 ≤ T.length ∧ T.getD 0 0 ≠ 0 then [[T.getD 1 0 / T.getD 0 0]] else []
def two2 (T : List G) : List (List G) := if T.length = 4 ∧ detT T ≠ 0 ∧ (rootsT T).length = 2 then [rootsT T] else []
def guessL (T : List G) : List (List G) := [] :: (one1 T ++ two2 T)

set_option maxHeartbeats 8000000 in
set_option maxRecDepth 100000 in
theorem guess1 (n : Nat) (hn : 1 ≤ n) (T : List G) (hT : T.length ≤ 4) (ga oa : Nat) (c : Nat) (w0 : World) (hC : Kd.C (Kd.int .u8) w0 (some ⟨ga, oa, none⟩) T.length (ns T)) (Bt : Nat) (w : World) (hw : Below w0.heap.size w0 w) (hp : PW w) (hB : Boxed w Bt 48 (.slice (some ⟨ga, oa, none⟩) T.length c)) :
    GivesG n Tryz.prog 117 #[.pointer (some ⟨Bt, 0, none⟩)] (guessL T) w := by
  intro l J Jx W hW hJ hY h0
  refine callsIn_of_wp Tryz.func117 rfl trivial ?_ rfl
  simp only [Tryz.ntmps117, List.size_toArray, List.length_cons, List.length_nil, Nat.reduceAdd, Nat.reduceSub, Array.replicate_succ, Array.replicate_zero, List.push_toArray, List.append_toArray, List.nil_append, List.cons_append]
  have hy0 : YieldAt Fence.wide (n - 1) Tryz.prog l #[.slice none 0 0] W fun e X' => ∃ b : Bool, e = .returned (.bool b) ∧ if b = true then (Below w.heap.size W X' ∧ J 1 X') else Jx X' :=
    hY 0 none 0 W (by simp [guessL]) h0 (by simp [guessL]) (Kd.C_nil _ _)
  obtain ⟨fn, tmps, assign, body, hy, hR⟩ := hy0
  have HR := Aside0.mk hR
  have HW := Aside0.mk hW
  have HY := Aside0.mk hY
  have HJ := Aside0.mk hJ
  have HC := Aside0.mk hC
  have HB := Aside0.mk hB
  have HP := Aside0.mk hp
  have HW0 := Aside0.mk hw
  clear hR h0 hW hY hJ hC hB hp hw
  gi_wp2
  refine HR.out.mono ?_
  rintro e w1 ⟨b, rfl, hb⟩
  have HBB := Aside0.mk hb
  clear hb hy
  cases b with
  | false =>
    gi_wp2
    have := HBB.out
    rw [if_neg (by simp)] at this
    exact bodyPost_ret (v := .tuple #[]) (by simp [results, Tryz.results117, go_sem]) rfl ⟨⟨_, rfl⟩, .inr this⟩
  | true =>
    have hbb := HBB.out
    rw [if_pos rfl] at hbb
    have HB1 := Aside0.mk hbb.1
    have HJ1 := Aside0.mk hbb.2
    clear hbb HBB HR
    gi_wp2
    rename_i K1 hK1 K2 hK2
    have HK1 := Aside0.mk hK1
    clear hK1
    have HBT := Aside0.mk (show Bt < w.heap.size from HB.out.lt)
    have KEY : ∀ (W1 : World) (i : Nat) {u2 u3 u4 u5 u6 u7 u8 u9 u10 u11 u12 u13 u14 u15 u16 u17 u18 u19 u20 u21 u22 u23 u24 u25 u26 u27 u28 u29 u30 u31 u32 u33 u34 u35 u36 u37 u38 u39 u40 u41 u42 u43 u44 u45 u46 u47 u48 u49 u50 u51 u52 u53 u54 u55 u56 u57 u58 u59 u60 u61 u62 u63 u64 u65 u66 u67 u68 u69 u70 u71 u72 u73 u74 u75 u76 u77 u78 u79 u80 u81 u82 u83 u84 u85 u86 u87 u88 u89 u90 u91 u92 u93 u94 u95 u96 u97 u98 u99 : Value}, i = 1 + (one1 T).length → Below w.heap.size w W1 → J i W1 → K1 { tmps := #[.func (.yield l) #[] #[], .pointer (some ⟨Bt, 0, none⟩), u2, u3, u4, u5, u6, u7, u8, u9, u10, u11, u12, u13, u14, u15, u16, u17, u18, u19, u20, u21, u22, u23, u24, u25, u26, u27, u28, u29, u30, u31, u32, u33, u34, u35, u36, u37, u38, u39, u40, u41, u42, u43, u44, u45, u46, u47, u48, u49, u50, u51, u52, u53, u54, u55, u56, u57, u58, u59, u60, u61, u62, u63, u64, u65, u66, u67, u68, u69, u70, u71, u72, u73, u74, u75, u76, u77, u78, u79, u80, u81, u82, u83, u84, u85, u86, u87, u88, u89, u90, u91, u92, u93, u94, u95, u96, u97, u98, u99], defers := [] } W1 := by
      intro W1 i u2 u3 u4 u5 u6 u7 u8 u9 u10 u11 u12 u13 u14 u15 u16 u17 u18 u19 u20 u21 u22 u23 u24 u25 u26 u27 u28 u29 u30 u31 u32 u33 u34 u35 u36 u37 u38 u39 u40 u41 u42 u43 u44 u45 u46 u47 u48 u49 u50 u51 u52 u53 u54 u55 u56 u57 u58 u59 u60 u61 u62 u63 u64 u65 u66 u67 u68 u69 u70 u71 u72 u73 u74 u75 u76 u77 u78 u79 u80 u81 u82 u83 u84 u85 u86 u87 u88 u89 u90 u91 u92 u93 u94 u95 u96 u97 u98 u99 hi hb hj
      refine HK1.out _ _ ?_
      have HBX := Aside0.mk (show Boxed W1 Bt 48 (.slice (some ⟨ga, oa, none⟩) T.length c) from (hb.block _ HB.out.lt).trans HB.out)
      have hbx := HBX.out.cell
      have HI := Aside0.mk hi
      have HJi := Aside0.mk hj
      have HBd3 := Aside0.mk hb
      clear hi hj hb HK1 hK2
      by_cases h4 : T.length = 4
      · have hCT := Kd.C_below HC.out (HW0.out.trans (HBd3.out.mono HW0.out.size))
        have hrd : ReadsInt W1 .u8 (some ⟨ga, oa, none⟩) T.length (ns T) := Kd.reads_of_C hCT
        obtain ⟨_, _, hx⟩ := hrd
        obtain ⟨ad, hA, hcell⟩ := hx (by omega)
        cases hA
        have hd0 : W1.drew.cell? ⟨Bt, 0, none⟩ = some (.slice (some ⟨ga, oa, none⟩) 4 c) := by rw [← h4]; exact hbx
        have hd1 : W1.drew.cell? ⟨ga, oa, none⟩ = some (.int .u8 ((T.getD 0 0).n : Nat)) := by have := hcell 0 (by omega); rw [ns_at, add_at] at this; exact this
        have hd2 : W1.drew.cell? ⟨ga, oa + 1, none⟩ = some (.int .u8 ((T.getD 1 0).n : Nat)) := by have := hcell 1 (by omega); rw [ns_at, add_at] at this; exact this
        have hd3 : W1.drew.cell? ⟨ga, oa + 2, none⟩ = some (.int .u8 ((T.getD 2 0).n : Nat)) := by have := hcell 2 (by omega); rw [ns_at, add_at] at this; exact this
        have hd4 : W1.drew.cell? ⟨ga, oa + 3, none⟩ = some (.int .u8 ((T.getD 3 0).n : Nat)) := by have := hcell 3 (by omega); rw [ns_at, add_at] at this; exact this
        have HPd3 := Aside0.mk (HP.out.below HBd3.out).drew
        replace HBd3 := Aside0.mk HBd3.out.drew
        have HJd3 := Aside0.mk (HJ.out _ _ _ HJi.out (Below.refl _ W1).drew)
        have HTW := Aside0.mk (show two2 T = if detT T ≠ 0 ∧ (rootsT T).length = 2 then [rootsT T] else [] by unfold two2; simp [h4])
        have HDE := Aside0.mk (show detT T = T.getD 1 0 * T.getD 1 0 + T.getD 0 0 * T.getD 2 0 from rfl)
        have HRT := Aside0.mk (show rootsT T = rootsN [(T.getD 2 0 * T.getD 2 0 + T.getD 1 0 * T.getD 3 0) / detT T, (T.getD 1 0 * T.getD 2 0 + T.getD 0 0 * T.getD 3 0) / detT T, 1] 64 from rfl)
        rw [h4] at hbx
        generalize T.getD 0 0 = x0 at hd1 HDE HRT
        generalize T.getD 1 0 = x1 at hd2 HDE HRT
        generalize T.getD 2 0 = x2 at hd3 HDE HRT
        generalize T.getD 3 0 = x3 at hd4 HDE HRT
        have hxd := xor_n (x1 * x1) (x0 * x2)
        rw [← HDE.out] at hxd
        have hxa := xor_n (x1 * x2) (x0 * x3)
        have hxb := xor_n (x2 * x2) (x1 * x3)
        generalize x1 * x2 + x0 * x3 = n5 at hxa HRT
        generalize x2 * x2 + x1 * x3 = n6 at hxb HRT
        clear hCT hx hcell
        generalize hdt : detT T = dt at hxd HRT HTW
        clear hdt HDE
        gi_wp2
        refine wpIn_wide.2 ?_
        refine start_ (n := 16) (S := fun w' => w'.cell? ⟨Bt, 0, none⟩ = some (.slice (some ⟨ga, oa, none⟩) 4 c) ∧ w'.cell? ⟨ga, oa, none⟩ = some (.int .u8 (x0.n : Nat)) ∧ w'.cell? ⟨ga, oa + 1, none⟩ = some (.int .u8 (x1.n : Nat)) ∧ w'.cell? ⟨ga, oa + 2, none⟩ = some (.int .u8 (x2.n : Nat)) ∧ w'.cell? ⟨ga, oa + 3, none⟩ = some (.int .u8 (x3.n : Nat))) (ds := []) #[false, false, false, false, false, false, false, false, false, false, false, false, false, false, false, false] (by kernel_rfl) rfl rfl ⟨hd0, hd1, hd2, hd3, hd4⟩ (fun hHeld => ?_)
        generalize W1.drew = wd at hd0 hd1 hd2 hd3 hd4 HPd3 HBd3 HJd3 hHeld ⊢
        refine take_ (i := 0) (N := some 36) (v := ?_) (a' := ?_) #[true, false, false, false, false, false, false, false, false, false, false, false, false, false, false, false] rfl rfl (by kernel_rfl) (fun _ _ _ h => h) (Or.inl ⟨by rfl, ?_⟩) hHeld ?_ ?_
        rotate_left
        · rintro w' ⟨s0, s1, s2, s3, s4⟩
          go_simp
          with_reducible rfl
        rotate_left
        · simp only [Act.put, List.setIfInBounds_toArray, List.set_cons_zero, List.set_cons_succ, i64_w, i32_w]
          rfl
        refine pure_ (i := 1) (N := some 37) (v := ?_) (a' := ?_) #[true, true, false, false, false, false, false, false, false, false, false, false, false, false, false, false] rfl rfl (by kernel_rfl) (fun _ _ _ h => h) (Or.inl ⟨by rfl, ?_⟩) ?_ ?_
        rotate_left
        · intro w'
          go_simp
          with_reducible rfl
        rotate_left
        · simp only [Act.put, List.setIfInBounds_toArray, List.set_cons_zero, List.set_cons_succ, i64_w, i32_w]
          rfl
        refine take_ (i := 2) (N := some 38) (v := ?_) (a' := ?_) #[true, true, true, false, false, false, false, false, false, false, false, false, false, false, false, false] rfl rfl (by kernel_rfl) (fun _ _ _ h => h) (Or.inl ⟨by rfl, ?_⟩) hHeld ?_ ?_
        rotate_left
        · rintro w' ⟨s0, s1, s2, s3, s4⟩
          go_simp
          with_reducible rfl
        rotate_left
        · simp only [Act.put, List.setIfInBounds_toArray, List.set_cons_zero, List.set_cons_succ, i64_w, i32_w]
          rfl
        refine take_ (i := 3) (N := some 39) (v := ?_) (a' := ?_) #[true, true, true, true, false, false, false, false, false, false, false, false, false, false, false, false] rfl rfl (by kernel_rfl) (fun _ _ _ h => h) (Or.inl ⟨by rfl, ?_⟩) hHeld ?_ ?_
        rotate_left
        · rintro w' ⟨s0, s1, s2, s3, s4⟩
          go_simp
          with_reducible rfl
        rotate_left
        · simp only [Act.put, List.setIfInBounds_toArray, List.set_cons_zero, List.set_cons_succ, i64_w, i32_w]
          rfl
        refine pure_ (i := 4) (N := some 40) (v := ?_) (a' := ?_) #[true, true, true, true, true, false, false, false, false, false, false, false, false, false, false, false] rfl rfl (by kernel_rfl) (fun _ _ _ h => h) (Or.inl ⟨by rfl, ?_⟩) ?_ ?_
        rotate_left
        · intro w'
          go_simp
          with_reducible rfl
        rotate_left
        · simp only [Act.put, List.setIfInBounds_toArray, List.set_cons_zero, List.set_cons_succ, i64_w, i32_w]
          rfl
        refine take_ (i := 5) (N := some 41) (v := ?_) (a' := ?_) #[true, true, true, true, true, true, false, false, false, false, false, false, false, false, false, false] rfl rfl (by kernel_rfl) (fun _ _ _ h => h) (Or.inl ⟨by rfl, ?_⟩) hHeld ?_ ?_
        rotate_left
        · rintro w' ⟨s0, s1, s2, s3, s4⟩
          go_simp
          with_reducible rfl
        rotate_left
        · simp only [Act.put, List.setIfInBounds_toArray, List.set_cons_zero, List.set_cons_succ, i64_w, i32_w]
          rfl
        refine take_ (i := 7) (N := some 43) (v := ?_) (a' := ?_) #[true, true, true, true, true, true, false, true, false, false, false, false, false, false, false, false] rfl rfl (by kernel_rfl) (fun _ _ _ h => h) (Or.inl ⟨by rfl, ?_⟩) hHeld ?_ ?_
        rotate_left
        · rintro w' ⟨s0, s1, s2, s3, s4⟩
          go_simp
          with_reducible rfl
        rotate_left
        · simp only [Act.put, List.setIfInBounds_toArray, List.set_cons_zero, List.set_cons_succ, i64_w, i32_w]
          rfl
        refine pure_ (i := 8) (N := some 44) (v := ?_) (a' := ?_) #[true, true, true, true, true, true, false, true, true, false, false, false, false, false, false, false] rfl rfl (by kernel_rfl) (fun _ _ _ h => h) (Or.inl ⟨by rfl, ?_⟩) ?_ ?_
        rotate_left
        · intro w'
          go_simp
          with_reducible rfl
        rotate_left
        · simp only [Act.put, List.setIfInBounds_toArray, List.set_cons_zero, List.set_cons_succ, i64_w, i32_w]
          rfl
        refine take_ (i := 9) (N := some 45) (v := ?_) (a' := ?_) #[true, true, true, true, true, true, false, true, true, true, false, false, false, false, false, false] rfl rfl (by kernel_rfl) (fun _ _ _ h => h) (Or.inl ⟨by rfl, ?_⟩) hHeld ?_ ?_
        rotate_left
        · rintro w' ⟨s0, s1, s2, s3, s4⟩
          go_simp
          with_reducible rfl
        rotate_left
        · simp only [Act.put, List.setIfInBounds_toArray, List.set_cons_zero, List.set_cons_succ, i64_w, i32_w]
          rfl
        refine take_ (i := 10) (N := some 46) (v := ?_) (a' := ?_) #[true, true, true, true, true, true, false, true, true, true, true, false, false, false, false, false] rfl rfl (by kernel_rfl) (fun _ _ _ h => h) (Or.inl ⟨by rfl, ?_⟩) hHeld ?_ ?_
        rotate_left
        · rintro w' ⟨s0, s1, s2, s3, s4⟩
          go_simp
          with_reducible rfl
        rotate_left
        · simp only [Act.put, List.setIfInBounds_toArray, List.set_cons_zero, List.set_cons_succ, i64_w, i32_w]
          rfl
        refine pure_ (i := 11) (N := some 47) (v := ?_) (a' := ?_) #[true, true, true, true, true, true, false, true, true, true, true, true, false, false, false, false] rfl rfl (by kernel_rfl) (fun _ _ _ h => h) (Or.inl ⟨by rfl, ?_⟩) ?_ ?_
        rotate_left
        · intro w'
          go_simp
          with_reducible rfl
        rotate_left
        · simp only [Act.put, List.setIfInBounds_toArray, List.set_cons_zero, List.set_cons_succ, i64_w, i32_w]
          rfl
        refine take_ (i := 12) (N := some 48) (v := ?_) (a' := ?_) #[true, true, true, true, true, true, false, true, true, true, true, true, true, false, false, false] rfl rfl (by kernel_rfl) (fun _ _ _ h => h) (Or.inl ⟨by rfl, ?_⟩) hHeld ?_ ?_
        rotate_left
        · rintro w' ⟨s0, s1, s2, s3, s4⟩
          go_simp
          with_reducible rfl
        rotate_left
        · simp only [Act.put, List.setIfInBounds_toArray, List.set_cons_zero, List.set_cons_succ, i64_w, i32_w]
          rfl
        refine one_ (i := 6) (N := some 42) #[true, true, true, true, true, true, true, true, true, true, true, true, true, false, false, false] rfl rfl (by kernel_rfl) (by decide) (fun K hK => ?_)
        refine goes_ Tryz.func112 (by kernel_rfl) rfl #[.int .u8 (x1.n : Nat), .int .u8 (x1.n : Nat)] (by rfl) rfl rfl (by simp only [List.map_toArray, List.map_cons, List.map_nil]; rfl) ?_
        with_reducible refine (smul_any x1 x1 _ HPd3.out).mono ?_
        rintro e v31 ⟨rfl, hb31⟩
        refine ⟨_, rfl, ?_⟩
        have HB31 := Aside0.mk (HBd3.out.trans (hb31.mono HBd3.out.size))
        have HP31 := Aside0.mk (HPd3.out.below hb31)
        have HJ31 := Aside0.mk (HJ.out _ _ _ HJd3.out hb31)
        have s31_0 := hb31.cell (p := ⟨Bt, 0, none⟩) (World.block_lt_of_cell? _ _ hd0) |>.trans hd0
        have s31_1 := hb31.cell (p := ⟨ga, oa, none⟩) (World.block_lt_of_cell? _ _ hd1) |>.trans hd1
        have s31_2 := hb31.cell (p := ⟨ga, oa + 1, none⟩) (World.block_lt_of_cell? _ _ hd2) |>.trans hd2
        have s31_3 := hb31.cell (p := ⟨ga, oa + 2, none⟩) (World.block_lt_of_cell? _ _ hd3) |>.trans hd3
        have s31_4 := hb31.cell (p := ⟨ga, oa + 3, none⟩) (World.block_lt_of_cell? _ _ hd4) |>.trans hd4
        clear hb31
        refine hK.out _ _ ⟨s31_0, s31_1, s31_2, s31_3, s31_4⟩ (fun hHeld => ?_)
        clear hK K
        refine norm_ (a' := ?_) ?_ ?_
        rotate_left
        · show Act.put _ (some 42) _ = _
          simp only [Act.put, List.setIfInBounds_toArray, List.set_cons_zero, List.set_cons_succ, i64_w, i32_w]
          rfl
        refine one_ (i := 13) (N := some 49) #[true, true, true, true, true, true, true, true, true, true, true, true, true, true, false, false] rfl rfl (by kernel_rfl) (by decide) (fun K hK => ?_)
        refine goes_ Tryz.func112 (by kernel_rfl) rfl #[.int .u8 (x0.n : Nat), .int .u8 (x2.n : Nat)] (by rfl) rfl rfl (by simp only [List.map_toArray, List.map_cons, List.map_nil]; rfl) ?_
        with_reducible refine (smul_any x0 x2 _ HP31.out).mono ?_
        rintro e v32 ⟨rfl, hb32⟩
        refine ⟨_, rfl, ?_⟩
        have HB32 := Aside0.mk (HB31.out.trans (hb32.mono HB31.out.size))
        have HP32 := Aside0.mk (HP31.out.below hb32)
        have HJ32 := Aside0.mk (HJ.out _ _ _ HJ31.out hb32)
        have s32_0 := hb32.cell (p := ⟨Bt, 0, none⟩) (World.block_lt_of_cell? _ _ s31_0) |>.trans s31_0
        have s32_1 := hb32.cell (p := ⟨ga, oa, none⟩) (World.block_lt_of_cell? _ _ s31_1) |>.trans s31_1
        have s32_2 := hb32.cell (p := ⟨ga, oa + 1, none⟩) (World.block_lt_of_cell? _ _ s31_2) |>.trans s31_2
        have s32_3 := hb32.cell (p := ⟨ga, oa + 2, none⟩) (World.block_lt_of_cell? _ _ s31_3) |>.trans s31_3
        have s32_4 := hb32.cell (p := ⟨ga, oa + 3, none⟩) (World.block_lt_of_cell? _ _ s31_4) |>.trans s31_4
        clear hb32
        refine hK.out _ _ ⟨s32_0, s32_1, s32_2, s32_3, s32_4⟩ (fun hHeld => ?_)
        clear hK K
        refine norm_ (a' := ?_) ?_ ?_
        rotate_left
        · show Act.put _ (some 49) _ = _
          simp only [Act.put, List.setIfInBounds_toArray, List.set_cons_zero, List.set_cons_succ, i64_w, i32_w]
          rfl
        refine pure_ (i := 14) (N := some 50) (v := ?_) (a' := ?_) #[true, true, true, true, true, true, true, true, true, true, true, true, true, true, true, false] rfl rfl (by kernel_rfl) (fun _ _ _ h => h) (Or.inl ⟨by rfl, ?_⟩) ?_ ?_
        rotate_left
        · intro w'
          go_simp
          with_reducible rfl
        rotate_left
        · simp only [Act.put, List.setIfInBounds_toArray, List.set_cons_zero, List.set_cons_succ, i64_w, i32_w]
          rfl
        refine pure_ (i := 15) (N := some 3) (v := ?_) (a' := ?_) #[true, true, true, true, true, true, true, true, true, true, true, true, true, true, true, true] rfl rfl (by kernel_rfl) (fun _ _ _ h => h) (Or.inl ⟨by rfl, ?_⟩) ?_ ?_
        rotate_left
        · intro w'
          go_simp
          with_reducible rfl
        rotate_left
        · simp only [Act.put, List.setIfInBounds_toArray, List.set_cons_zero, List.set_cons_succ, i64_w, i32_w]
          rfl
        refine done_ (by kernel_rfl) ?_
        have FIN0 : two2 T = [] → Aside0 (J (guessL T).length v32) := fun h2 => ⟨by
          have e : (guessL T).length = i := by rw [HI.out]; unfold guessL; rw [h2]; simp; omega
          rw [e]; exact HJ32.out⟩
        by_cases hz : dt = 0
        · have hzn : dt.n = 0 := by rw [hz]; rfl
          rw [hzn]
          have HFIN := FIN0 (by rw [HTW.out, if_neg (fun h => h.1 hz)])
          gi_wp2
          exact bodyPost_ret (v := .tuple #[]) (by simp [results, Tryz.results117, go_sem]) rfl ⟨⟨_, rfl⟩, .inl HFIN.out⟩
        · have hzn : ¬ ((dt.n : Int) = 0) := fun h => hz (G.ext (by show dt.n = 0; omega))
          have hznb : ((dt.n : Int) == 0) = false := beq_eq_false_iff_ne.2 hzn
          have HDT := Aside0.mk (show dt.n ≠ 0 by omega)
          have hd0 : v32.drew.cell? ⟨Bt, 0, none⟩ = some (.slice (some ⟨ga, oa, none⟩) 4 c) := s32_0
          have hd1 : v32.drew.cell? ⟨ga, oa, none⟩ = some (.int .u8 (x0.n : Nat)) := s32_1
          have hd2 : v32.drew.cell? ⟨ga, oa + 1, none⟩ = some (.int .u8 (x1.n : Nat)) := s32_2
          have hd3 : v32.drew.cell? ⟨ga, oa + 2, none⟩ = some (.int .u8 (x2.n : Nat)) := s32_3
          have hd4 : v32.drew.cell? ⟨ga, oa + 3, none⟩ = some (.int .u8 (x3.n : Nat)) := s32_4
          have HPd5 := Aside0.mk HP32.out.drew
          have HBd5 := Aside0.mk HB32.out.drew
          have HJd5 := Aside0.mk (HJ.out _ _ _ HJ32.out (Below.refl _ v32).drew)
          clear hxd s32_0 s32_1 s32_2 s32_3 s32_4 FIN0
          gi_wp2
          refine wpIn_wide.2 ?_
          refine start_ (n := 18) (S := fun w' => w'.cell? ⟨Bt, 0, none⟩ = some (.slice (some ⟨ga, oa, none⟩) 4 c) ∧ w'.cell? ⟨ga, oa, none⟩ = some (.int .u8 (x0.n : Nat)) ∧ w'.cell? ⟨ga, oa + 1, none⟩ = some (.int .u8 (x1.n : Nat)) ∧ w'.cell? ⟨ga, oa + 2, none⟩ = some (.int .u8 (x2.n : Nat)) ∧ w'.cell? ⟨ga, oa + 3, none⟩ = some (.int .u8 (x3.n : Nat))) (ds := []) #[false, false, false, false, false, false, false, false, false, false, false, false, false, false, false, false, false, false] (by kernel_rfl) rfl rfl ⟨hd0, hd1, hd2, hd3, hd4⟩ (fun hHeld => ?_)
          generalize v32.drew = wd at hd0 hd1 hd2 hd3 hd4 HPd5 HBd5 HJd5 hHeld ⊢
          refine pure_ (i := 15) (N := some 68) (v := ?_) (a' := ?_) #[false, false, false, false, false, false, false, false, false, false, false, false, false, false, false, true, false, false] rfl rfl (by kernel_rfl) (fun _ _ _ h => h) (Or.inl ⟨by rfl, ?_⟩) ?_ ?_
          rotate_left
          · intro w'
            go_simp
            with_reducible rfl
          rotate_left
          · simp only [Act.put, List.setIfInBounds_toArray, List.set_cons_zero, List.set_cons_succ, i64_w, i32_w]
            rfl
          refine take_ (i := 0) (N := some 53) (v := ?_) (a' := ?_) #[true, false, false, false, false, false, false, false, false, false, false, false, false, false, false, true, false, false] rfl rfl (by kernel_rfl) (fun _ _ _ h => h) (Or.inl ⟨by rfl, ?_⟩) hHeld ?_ ?_
          rotate_left
          · rintro w' ⟨s0, s1, s2, s3, s4⟩
            go_simp
            with_reducible rfl
          rotate_left
          · simp only [Act.put, List.setIfInBounds_toArray, List.set_cons_zero, List.set_cons_succ, i64_w, i32_w]
            rfl
          refine pure_ (i := 1) (N := some 54) (v := ?_) (a' := ?_) #[true, true, false, false, false, false, false, false, false, false, false, false, false, false, false, true, false, false] rfl rfl (by kernel_rfl) (fun _ _ _ h => h) (Or.inl ⟨by rfl, ?_⟩) ?_ ?_
          rotate_left
          · intro w'
            go_simp
            with_reducible rfl
          rotate_left
          · simp only [Act.put, List.setIfInBounds_toArray, List.set_cons_zero, List.set_cons_succ, i64_w, i32_w]
            rfl
          refine take_ (i := 2) (N := some 55) (v := ?_) (a' := ?_) #[true, true, true, false, false, false, false, false, false, false, false, false, false, false, false, true, false, false] rfl rfl (by kernel_rfl) (fun _ _ _ h => h) (Or.inl ⟨by rfl, ?_⟩) hHeld ?_ ?_
          rotate_left
          · rintro w' ⟨s0, s1, s2, s3, s4⟩
            go_simp
            with_reducible rfl
          rotate_left
          · simp only [Act.put, List.setIfInBounds_toArray, List.set_cons_zero, List.set_cons_succ, i64_w, i32_w]
            rfl
          refine take_ (i := 3) (N := some 56) (v := ?_) (a' := ?_) #[true, true, true, true, false, false, false, false, false, false, false, false, false, false, false, true, false, false] rfl rfl (by kernel_rfl) (fun _ _ _ h => h) (Or.inl ⟨by rfl, ?_⟩) hHeld ?_ ?_
          rotate_left
          · rintro w' ⟨s0, s1, s2, s3, s4⟩
            go_simp
            with_reducible rfl
          rotate_left
          · simp only [Act.put, List.setIfInBounds_toArray, List.set_cons_zero, List.set_cons_succ, i64_w, i32_w]
            rfl
          refine pure_ (i := 4) (N := some 57) (v := ?_) (a' := ?_) #[true, true, true, true, true, false, false, false, false, false, false, false, false, false, false, true, false, false] rfl rfl (by kernel_rfl) (fun _ _ _ h => h) (Or.inl ⟨by rfl, ?_⟩) ?_ ?_
          rotate_left
          · intro w'
            go_simp
            with_reducible rfl
          rotate_left
          · simp only [Act.put, List.setIfInBounds_toArray, List.set_cons_zero, List.set_cons_succ, i64_w, i32_w]
            rfl
          refine take_ (i := 5) (N := some 58) (v := ?_) (a' := ?_) #[true, true, true, true, true, true, false, false, false, false, false, false, false, false, false, true, false, false] rfl rfl (by kernel_rfl) (fun _ _ _ h => h) (Or.inl ⟨by rfl, ?_⟩) hHeld ?_ ?_
          rotate_left
          · rintro w' ⟨s0, s1, s2, s3, s4⟩
            go_simp
            with_reducible rfl
          rotate_left
          · simp only [Act.put, List.setIfInBounds_toArray, List.set_cons_zero, List.set_cons_succ, i64_w, i32_w]
            rfl
          refine take_ (i := 7) (N := some 60) (v := ?_) (a' := ?_) #[true, true, true, true, true, true, false, true, false, false, false, false, false, false, false, true, false, false] rfl rfl (by kernel_rfl) (fun _ _ _ h => h) (Or.inl ⟨by rfl, ?_⟩) hHeld ?_ ?_
          rotate_left
          · rintro w' ⟨s0, s1, s2, s3, s4⟩
            go_simp
            with_reducible rfl
          rotate_left
          · simp only [Act.put, List.setIfInBounds_toArray, List.set_cons_zero, List.set_cons_succ, i64_w, i32_w]
            rfl
          refine pure_ (i := 8) (N := some 61) (v := ?_) (a' := ?_) #[true, true, true, true, true, true, false, true, true, false, false, false, false, false, false, true, false, false] rfl rfl (by kernel_rfl) (fun _ _ _ h => h) (Or.inl ⟨by rfl, ?_⟩) ?_ ?_
          rotate_left
          · intro w'
            go_simp
            with_reducible rfl
          rotate_left
          · simp only [Act.put, List.setIfInBounds_toArray, List.set_cons_zero, List.set_cons_succ, i64_w, i32_w]
            rfl
          refine take_ (i := 9) (N := some 62) (v := ?_) (a' := ?_) #[true, true, true, true, true, true, false, true, true, true, false, false, false, false, false, true, false, false] rfl rfl (by kernel_rfl) (fun _ _ _ h => h) (Or.inl ⟨by rfl, ?_⟩) hHeld ?_ ?_
          rotate_left
          · rintro w' ⟨s0, s1, s2, s3, s4⟩
            go_simp
            with_reducible rfl
          rotate_left
          · simp only [Act.put, List.setIfInBounds_toArray, List.set_cons_zero, List.set_cons_succ, i64_w, i32_w]
            rfl
          refine take_ (i := 10) (N := some 63) (v := ?_) (a' := ?_) #[true, true, true, true, true, true, false, true, true, true, true, false, false, false, false, true, false, false] rfl rfl (by kernel_rfl) (fun _ _ _ h => h) (Or.inl ⟨by rfl, ?_⟩) hHeld ?_ ?_
          rotate_left
          · rintro w' ⟨s0, s1, s2, s3, s4⟩
            go_simp
            with_reducible rfl
          rotate_left
          · simp only [Act.put, List.setIfInBounds_toArray, List.set_cons_zero, List.set_cons_succ, i64_w, i32_w]
            rfl
          refine pure_ (i := 11) (N := some 64) (v := ?_) (a' := ?_) #[true, true, true, true, true, true, false, true, true, true, true, true, false, false, false, true, false, false] rfl rfl (by kernel_rfl) (fun _ _ _ h => h) (Or.inl ⟨by rfl, ?_⟩) ?_ ?_
          rotate_left
          · intro w'
            go_simp
            with_reducible rfl
          rotate_left
          · simp only [Act.put, List.setIfInBounds_toArray, List.set_cons_zero, List.set_cons_succ, i64_w, i32_w]
            rfl
          refine take_ (i := 12) (N := some 65) (v := ?_) (a' := ?_) #[true, true, true, true, true, true, false, true, true, true, true, true, true, false, false, true, false, false] rfl rfl (by kernel_rfl) (fun _ _ _ h => h) (Or.inl ⟨by rfl, ?_⟩) hHeld ?_ ?_
          rotate_left
          · rintro w' ⟨s0, s1, s2, s3, s4⟩
            go_simp
            with_reducible rfl
          rotate_left
          · simp only [Act.put, List.setIfInBounds_toArray, List.set_cons_zero, List.set_cons_succ, i64_w, i32_w]
            rfl
          refine one_ (i := 6) (N := some 59) #[true, true, true, true, true, true, true, true, true, true, true, true, true, false, false, true, false, false] rfl rfl (by kernel_rfl) (by decide) (fun K hK => ?_)
          refine goes_ Tryz.func112 (by kernel_rfl) rfl #[.int .u8 (x1.n : Nat), .int .u8 (x2.n : Nat)] (by rfl) rfl rfl (by simp only [List.map_toArray, List.map_cons, List.map_nil]; rfl) ?_
          with_reducible refine (smul_any x1 x2 _ HPd5.out).mono ?_
          rintro e v51 ⟨rfl, hb51⟩
          refine ⟨_, rfl, ?_⟩
          have HB51 := Aside0.mk (HBd5.out.trans (hb51.mono HBd5.out.size))
          have HP51 := Aside0.mk (HPd5.out.below hb51)
          have HJ51 := Aside0.mk (HJ.out _ _ _ HJd5.out hb51)
          have s51_0 := hb51.cell (p := ⟨Bt, 0, none⟩) (World.block_lt_of_cell? _ _ hd0) |>.trans hd0
          have s51_1 := hb51.cell (p := ⟨ga, oa, none⟩) (World.block_lt_of_cell? _ _ hd1) |>.trans hd1
          have s51_2 := hb51.cell (p := ⟨ga, oa + 1, none⟩) (World.block_lt_of_cell? _ _ hd2) |>.trans hd2
          have s51_3 := hb51.cell (p := ⟨ga, oa + 2, none⟩) (World.block_lt_of_cell? _ _ hd3) |>.trans hd3
          have s51_4 := hb51.cell (p := ⟨ga, oa + 3, none⟩) (World.block_lt_of_cell? _ _ hd4) |>.trans hd4
          clear hb51
          refine hK.out _ _ ⟨s51_0, s51_1, s51_2, s51_3, s51_4⟩ (fun hHeld => ?_)
          clear hK K
          refine norm_ (a' := ?_) ?_ ?_
          rotate_left
          · show Act.put _ (some 59) _ = _
            simp only [Act.put, List.setIfInBounds_toArray, List.set_cons_zero, List.set_cons_succ, i64_w, i32_w]
            rfl
          refine one_ (i := 13) (N := some 66) #[true, true, true, true, true, true, true, true, true, true, true, true, true, true, false, true, false, false] rfl rfl (by kernel_rfl) (by decide) (fun K hK => ?_)
          refine goes_ Tryz.func112 (by kernel_rfl) rfl #[.int .u8 (x0.n : Nat), .int .u8 (x3.n : Nat)] (by rfl) rfl rfl (by simp only [List.map_toArray, List.map_cons, List.map_nil]; rfl) ?_
          with_reducible refine (smul_any x0 x3 _ HP51.out).mono ?_
          rintro e v52 ⟨rfl, hb52⟩
          refine ⟨_, rfl, ?_⟩
          have HB52 := Aside0.mk (HB51.out.trans (hb52.mono HB51.out.size))
          have HP52 := Aside0.mk (HP51.out.below hb52)
          have HJ52 := Aside0.mk (HJ.out _ _ _ HJ51.out hb52)
          have s52_0 := hb52.cell (p := ⟨Bt, 0, none⟩) (World.block_lt_of_cell? _ _ s51_0) |>.trans s51_0
          have s52_1 := hb52.cell (p := ⟨ga, oa, none⟩) (World.block_lt_of_cell? _ _ s51_1) |>.trans s51_1
          have s52_2 := hb52.cell (p := ⟨ga, oa + 1, none⟩) (World.block_lt_of_cell? _ _ s51_2) |>.trans s51_2
          have s52_3 := hb52.cell (p := ⟨ga, oa + 2, none⟩) (World.block_lt_of_cell? _ _ s51_3) |>.trans s51_3
          have s52_4 := hb52.cell (p := ⟨ga, oa + 3, none⟩) (World.block_lt_of_cell? _ _ s51_4) |>.trans s51_4
          clear hb52
          refine hK.out _ _ ⟨s52_0, s52_1, s52_2, s52_3, s52_4⟩ (fun hHeld => ?_)
          clear hK K
          refine norm_ (a' := ?_) ?_ ?_
          rotate_left
          · show Act.put _ (some 66) _ = _
            simp only [Act.put, List.setIfInBounds_toArray, List.set_cons_zero, List.set_cons_succ, i64_w, i32_w]
            rfl
          refine pure_ (i := 14) (N := some 67) (v := ?_) (a' := ?_) #[true, true, true, true, true, true, true, true, true, true, true, true, true, true, true, true, false, false] rfl rfl (by kernel_rfl) (fun _ _ _ h => h) (Or.inl ⟨by rfl, ?_⟩) ?_ ?_
          rotate_left
          · intro w'
            go_simp
            with_reducible rfl
          rotate_left
          · simp only [Act.put, List.setIfInBounds_toArray, List.set_cons_zero, List.set_cons_succ, i64_w, i32_w]
            rfl
          refine one_ (i := 16) (N := some 69) #[true, true, true, true, true, true, true, true, true, true, true, true, true, true, true, true, true, false] rfl rfl (by kernel_rfl) (by decide) (fun K hK => ?_)
          refine goes_ Tryz.func111 (by kernel_rfl) rfl #[.int .u8 (n5.n : Nat), .int .u8 (dt.n : Nat)] (by rfl) rfl rfl (by simp only [List.map_toArray, List.map_cons, List.map_nil]; rfl) ?_
          with_reducible refine (sdiv_any n5 dt _ HP52.out HDT.out).mono ?_
          rintro e v53 ⟨rfl, hb53⟩
          refine ⟨_, rfl, ?_⟩
          have HB53 := Aside0.mk (HB52.out.trans (hb53.mono HB52.out.size))
          have HP53 := Aside0.mk (HP52.out.below hb53)
          have HJ53 := Aside0.mk (HJ.out _ _ _ HJ52.out hb53)
          have s53_0 := hb53.cell (p := ⟨Bt, 0, none⟩) (World.block_lt_of_cell? _ _ s52_0) |>.trans s52_0
          have s53_1 := hb53.cell (p := ⟨ga, oa, none⟩) (World.block_lt_of_cell? _ _ s52_1) |>.trans s52_1
          have s53_2 := hb53.cell (p := ⟨ga, oa + 1, none⟩) (World.block_lt_of_cell? _ _ s52_2) |>.trans s52_2
          have s53_3 := hb53.cell (p := ⟨ga, oa + 2, none⟩) (World.block_lt_of_cell? _ _ s52_3) |>.trans s52_3
          have s53_4 := hb53.cell (p := ⟨ga, oa + 3, none⟩) (World.block_lt_of_cell? _ _ s52_4) |>.trans s52_4
          clear hb53
          refine hK.out _ _ ⟨s53_0, s53_1, s53_2, s53_3, s53_4⟩ (fun hHeld => ?_)
          clear hK K
          refine norm_ (a' := ?_) ?_ ?_
          rotate_left
          · show Act.put _ (some 69) _ = _
            simp only [Act.put, List.setIfInBounds_toArray, List.set_cons_zero, List.set_cons_succ, i64_w, i32_w]
            rfl
          refine pure_ (i := 17) (N := some 4) (v := ?_) (a' := ?_) #[true, true, true, true, true, true, true, true, true, true, true, true, true, true, true, true, true, true] rfl rfl (by kernel_rfl) (fun _ _ _ h => h) (Or.inl ⟨by rfl, ?_⟩) ?_ ?_
          rotate_left
          · intro w'
            go_simp
            with_reducible rfl
          rotate_left
          · simp only [Act.put, List.setIfInBounds_toArray, List.set_cons_zero, List.set_cons_succ, i64_w, i32_w]
            rfl
          refine done_ (by kernel_rfl) ?_
          have hd0 : v53.drew.cell? ⟨Bt, 0, none⟩ = some (.slice (some ⟨ga, oa, none⟩) 4 c) := s53_0
          have hd1 : v53.drew.cell? ⟨ga, oa, none⟩ = some (.int .u8 (x0.n : Nat)) := s53_1
          have hd2 : v53.drew.cell? ⟨ga, oa + 1, none⟩ = some (.int .u8 (x1.n : Nat)) := s53_2
          have hd3 : v53.drew.cell? ⟨ga, oa + 2, none⟩ = some (.int .u8 (x2.n : Nat)) := s53_3
          have hd4 : v53.drew.cell? ⟨ga, oa + 3, none⟩ = some (.int .u8 (x3.n : Nat)) := s53_4
          have HPd6 := Aside0.mk HP53.out.drew
          have HBd6 := Aside0.mk HB53.out.drew
          have HJd6 := Aside0.mk (HJ.out _ _ _ HJ53.out (Below.refl _ v53).drew)
          clear s53_0 s53_1 s53_2 s53_3 s53_4
          gi_wp2
          refine wpIn_wide.2 ?_
          refine start_ (n := 18) (S := fun w' => w'.cell? ⟨Bt, 0, none⟩ = some (.slice (some ⟨ga, oa, none⟩) 4 c) ∧ w'.cell? ⟨ga, oa, none⟩ = some (.int .u8 (x0.n : Nat)) ∧ w'.cell? ⟨ga, oa + 1, none⟩ = some (.int .u8 (x1.n : Nat)) ∧ w'.cell? ⟨ga, oa + 2, none⟩ = some (.int .u8 (x2.n : Nat)) ∧ w'.cell? ⟨ga, oa + 3, none⟩ = some (.int .u8 (x3.n : Nat))) (ds := []) #[false, false, false, false, false, false, false, false, false, false, false, false, false, false, false, false, false, false] (by kernel_rfl) rfl rfl ⟨hd0, hd1, hd2, hd3, hd4⟩ (fun hHeld => ?_)
          generalize v53.drew = wd at hd0 hd1 hd2 hd3 hd4 HPd6 HBd6 HJd6 hHeld ⊢
          refine pure_ (i := 15) (N := some 85) (v := ?_) (a' := ?_) #[false, false, false, false, false, false, false, false, false, false, false, false, false, false, false, true, false, false] rfl rfl (by kernel_rfl) (fun _ _ _ h => h) (Or.inl ⟨by rfl, ?_⟩) ?_ ?_
          rotate_left
          · intro w'
            go_simp
            with_reducible rfl
          rotate_left
          · simp only [Act.put, List.setIfInBounds_toArray, List.set_cons_zero, List.set_cons_succ, i64_w, i32_w]
            rfl
          refine take_ (i := 0) (N := some 70) (v := ?_) (a' := ?_) #[true, false, false, false, false, false, false, false, false, false, false, false, false, false, false, true, false, false] rfl rfl (by kernel_rfl) (fun _ _ _ h => h) (Or.inl ⟨by rfl, ?_⟩) hHeld ?_ ?_
          rotate_left
          · rintro w' ⟨s0, s1, s2, s3, s4⟩
            go_simp
            with_reducible rfl
          rotate_left
          · simp only [Act.put, List.setIfInBounds_toArray, List.set_cons_zero, List.set_cons_succ, i64_w, i32_w]
            rfl
          refine pure_ (i := 1) (N := some 71) (v := ?_) (a' := ?_) #[true, true, false, false, false, false, false, false, false, false, false, false, false, false, false, true, false, false] rfl rfl (by kernel_rfl) (fun _ _ _ h => h) (Or.inl ⟨by rfl, ?_⟩) ?_ ?_
          rotate_left
          · intro w'
            go_simp
            with_reducible rfl
          rotate_left
          · simp only [Act.put, List.setIfInBounds_toArray, List.set_cons_zero, List.set_cons_succ, i64_w, i32_w]
            rfl
          refine take_ (i := 2) (N := some 72) (v := ?_) (a' := ?_) #[true, true, true, false, false, false, false, false, false, false, false, false, false, false, false, true, false, false] rfl rfl (by kernel_rfl) (fun _ _ _ h => h) (Or.inl ⟨by rfl, ?_⟩) hHeld ?_ ?_
          rotate_left
          · rintro w' ⟨s0, s1, s2, s3, s4⟩
            go_simp
            with_reducible rfl
          rotate_left
          · simp only [Act.put, List.setIfInBounds_toArray, List.set_cons_zero, List.set_cons_succ, i64_w, i32_w]
            rfl
          refine take_ (i := 3) (N := some 73) (v := ?_) (a' := ?_) #[true, true, true, true, false, false, false, false, false, false, false, false, false, false, false, true, false, false] rfl rfl (by kernel_rfl) (fun _ _ _ h => h) (Or.inl ⟨by rfl, ?_⟩) hHeld ?_ ?_
          rotate_left
          · rintro w' ⟨s0, s1, s2, s3, s4⟩
            go_simp
            with_reducible rfl
          rotate_left
          · simp only [Act.put, List.setIfInBounds_toArray, List.set_cons_zero, List.set_cons_succ, i64_w, i32_w]
            rfl
          refine pure_ (i := 4) (N := some 74) (v := ?_) (a' := ?_) #[true, true, true, true, true, false, false, false, false, false, false, false, false, false, false, true, false, false] rfl rfl (by kernel_rfl) (fun _ _ _ h => h) (Or.inl ⟨by rfl, ?_⟩) ?_ ?_
          rotate_left
          · intro w'
            go_simp
            with_reducible rfl
          rotate_left
          · simp only [Act.put, List.setIfInBounds_toArray, List.set_cons_zero, List.set_cons_succ, i64_w, i32_w]
            rfl
          refine take_ (i := 5) (N := some 75) (v := ?_) (a' := ?_) #[true, true, true, true, true, true, false, false, false, false, false, false, false, false, false, true, false, false] rfl rfl (by kernel_rfl) (fun _ _ _ h => h) (Or.inl ⟨by rfl, ?_⟩) hHeld ?_ ?_
          rotate_left
          · rintro w' ⟨s0, s1, s2, s3, s4⟩
            go_simp
            with_reducible rfl
          rotate_left
          · simp only [Act.put, List.setIfInBounds_toArray, List.set_cons_zero, List.set_cons_succ, i64_w, i32_w]
            rfl
          refine take_ (i := 7) (N := some 77) (v := ?_) (a' := ?_) #[true, true, true, true, true, true, false, true, false, false, false, false, false, false, false, true, false, false] rfl rfl (by kernel_rfl) (fun _ _ _ h => h) (Or.inl ⟨by rfl, ?_⟩) hHeld ?_ ?_
          rotate_left
          · rintro w' ⟨s0, s1, s2, s3, s4⟩
            go_simp
            with_reducible rfl
          rotate_left
          · simp only [Act.put, List.setIfInBounds_toArray, List.set_cons_zero, List.set_cons_succ, i64_w, i32_w]
            rfl
          refine pure_ (i := 8) (N := some 78) (v := ?_) (a' := ?_) #[true, true, true, true, true, true, false, true, true, false, false, false, false, false, false, true, false, false] rfl rfl (by kernel_rfl) (fun _ _ _ h => h) (Or.inl ⟨by rfl, ?_⟩) ?_ ?_
          rotate_left
          · intro w'
            go_simp
            with_reducible rfl
          rotate_left
          · simp only [Act.put, List.setIfInBounds_toArray, List.set_cons_zero, List.set_cons_succ, i64_w, i32_w]
            rfl
          refine take_ (i := 9) (N := some 79) (v := ?_) (a' := ?_) #[true, true, true, true, true, true, false, true, true, true, false, false, false, false, false, true, false, false] rfl rfl (by kernel_rfl) (fun _ _ _ h => h) (Or.inl ⟨by rfl, ?_⟩) hHeld ?_ ?_
          rotate_left
          · rintro w' ⟨s0, s1, s2, s3, s4⟩
            go_simp
            with_reducible rfl
          rotate_left
          · simp only [Act.put, List.setIfInBounds_toArray, List.set_cons_zero, List.set_cons_succ, i64_w, i32_w]
            rfl
          refine take_ (i := 10) (N := some 80) (v := ?_) (a' := ?_) #[true, true, true, true, true, true, false, true, true, true, true, false, false, false, false, true, false, false] rfl rfl (by kernel_rfl) (fun _ _ _ h => h) (Or.inl ⟨by rfl, ?_⟩) hHeld ?_ ?_
          rotate_left
          · rintro w' ⟨s0, s1, s2, s3, s4⟩
            go_simp
            with_reducible rfl
          rotate_left
          · simp only [Act.put, List.setIfInBounds_toArray, List.set_cons_zero, List.set_cons_succ, i64_w, i32_w]
            rfl
          refine pure_ (i := 11) (N := some 81) (v := ?_) (a' := ?_) #[true, true, true, true, true, true, false, true, true, true, true, true, false, false, false, true, false, false] rfl rfl (by kernel_rfl) (fun _ _ _ h => h) (Or.inl ⟨by rfl, ?_⟩) ?_ ?_
          rotate_left
          · intro w'
            go_simp
            with_reducible rfl
          rotate_left
          · simp only [Act.put, List.setIfInBounds_toArray, List.set_cons_zero, List.set_cons_succ, i64_w, i32_w]
            rfl
          refine take_ (i := 12) (N := some 82) (v := ?_) (a' := ?_) #[true, true, true, true, true, true, false, true, true, true, true, true, true, false, false, true, false, false] rfl rfl (by kernel_rfl) (fun _ _ _ h => h) (Or.inl ⟨by rfl, ?_⟩) hHeld ?_ ?_
          rotate_left
          · rintro w' ⟨s0, s1, s2, s3, s4⟩
            go_simp
            with_reducible rfl
          rotate_left
          · simp only [Act.put, List.setIfInBounds_toArray, List.set_cons_zero, List.set_cons_succ, i64_w, i32_w]
            rfl
          refine one_ (i := 6) (N := some 76) #[true, true, true, true, true, true, true, true, true, true, true, true, true, false, false, true, false, false] rfl rfl (by kernel_rfl) (by decide) (fun K hK => ?_)
          refine goes_ Tryz.func112 (by kernel_rfl) rfl #[.int .u8 (x2.n : Nat), .int .u8 (x2.n : Nat)] (by rfl) rfl rfl (by simp only [List.map_toArray, List.map_cons, List.map_nil]; rfl) ?_
          with_reducible refine (smul_any x2 x2 _ HPd6.out).mono ?_
          rintro e v61 ⟨rfl, hb61⟩
          refine ⟨_, rfl, ?_⟩
          have HB61 := Aside0.mk (HBd6.out.trans (hb61.mono HBd6.out.size))
          have HP61 := Aside0.mk (HPd6.out.below hb61)
          have HJ61 := Aside0.mk (HJ.out _ _ _ HJd6.out hb61)
          have s61_0 := hb61.cell (p := ⟨Bt, 0, none⟩) (World.block_lt_of_cell? _ _ hd0) |>.trans hd0
          have s61_1 := hb61.cell (p := ⟨ga, oa, none⟩) (World.block_lt_of_cell? _ _ hd1) |>.trans hd1
          have s61_2 := hb61.cell (p := ⟨ga, oa + 1, none⟩) (World.block_lt_of_cell? _ _ hd2) |>.trans hd2
          have s61_3 := hb61.cell (p := ⟨ga, oa + 2, none⟩) (World.block_lt_of_cell? _ _ hd3) |>.trans hd3
          have s61_4 := hb61.cell (p := ⟨ga, oa + 3, none⟩) (World.block_lt_of_cell? _ _ hd4) |>.trans hd4
          clear hb61
          refine hK.out _ _ ⟨s61_0, s61_1, s61_2, s61_3, s61_4⟩ (fun hHeld => ?_)
          clear hK K
          refine norm_ (a' := ?_) ?_ ?_
          rotate_left
          · show Act.put _ (some 76) _ = _
            simp only [Act.put, List.setIfInBounds_toArray, List.set_cons_zero, List.set_cons_succ, i64_w, i32_w]
            rfl
          refine one_ (i := 13) (N := some 83) #[true, true, true, true, true, true, true, true, true, true, true, true, true, true, false, true, false, false] rfl rfl (by kernel_rfl) (by decide) (fun K hK => ?_)
          refine goes_ Tryz.func112 (by kernel_rfl) rfl #[.int .u8 (x1.n : Nat), .int .u8 (x3.n : Nat)] (by rfl) rfl rfl (by simp only [List.map_toArray, List.map_cons, List.map_nil]; rfl) ?_
          with_reducible refine (smul_any x1 x3 _ HP61.out).mono ?_
          rintro e v62 ⟨rfl, hb62⟩
          refine ⟨_, rfl, ?_⟩
          have HB62 := Aside0.mk (HB61.out.trans (hb62.mono HB61.out.size))
          have HP62 := Aside0.mk (HP61.out.below hb62)
          have HJ62 := Aside0.mk (HJ.out _ _ _ HJ61.out hb62)
          have s62_0 := hb62.cell (p := ⟨Bt, 0, none⟩) (World.block_lt_of_cell? _ _ s61_0) |>.trans s61_0
          have s62_1 := hb62.cell (p := ⟨ga, oa, none⟩) (World.block_lt_of_cell? _ _ s61_1) |>.trans s61_1
          have s62_2 := hb62.cell (p := ⟨ga, oa + 1, none⟩) (World.block_lt_of_cell? _ _ s61_2) |>.trans s61_2
          have s62_3 := hb62.cell (p := ⟨ga, oa + 2, none⟩) (World.block_lt_of_cell? _ _ s61_3) |>.trans s61_3
          have s62_4 := hb62.cell (p := ⟨ga, oa + 3, none⟩) (World.block_lt_of_cell? _ _ s61_4) |>.trans s61_4
          clear hb62
          refine hK.out _ _ ⟨s62_0, s62_1, s62_2, s62_3, s62_4⟩ (fun hHeld => ?_)
          clear hK K
          refine norm_ (a' := ?_) ?_ ?_
          rotate_left
          · show Act.put _ (some 83) _ = _
            simp only [Act.put, List.setIfInBounds_toArray, List.set_cons_zero, List.set_cons_succ, i64_w, i32_w]
            rfl
          refine pure_ (i := 14) (N := some 84) (v := ?_) (a' := ?_) #[true, true, true, true, true, true, true, true, true, true, true, true, true, true, true, true, false, false] rfl rfl (by kernel_rfl) (fun _ _ _ h => h) (Or.inl ⟨by rfl, ?_⟩) ?_ ?_
          rotate_left
          · intro w'
            go_simp
            with_reducible rfl
          rotate_left
          · simp only [Act.put, List.setIfInBounds_toArray, List.set_cons_zero, List.set_cons_succ, i64_w, i32_w]
            rfl
          refine one_ (i := 16) (N := some 86) #[true, true, true, true, true, true, true, true, true, true, true, true, true, true, true, true, true, false] rfl rfl (by kernel_rfl) (by decide) (fun K hK => ?_)
          refine goes_ Tryz.func111 (by kernel_rfl) rfl #[.int .u8 (n6.n : Nat), .int .u8 (dt.n : Nat)] (by rfl) rfl rfl (by simp only [List.map_toArray, List.map_cons, List.map_nil]; rfl) ?_
          with_reducible refine (sdiv_any n6 dt _ HP62.out HDT.out).mono ?_
          rintro e v63 ⟨rfl, hb63⟩
          refine ⟨_, rfl, ?_⟩
          have HB63 := Aside0.mk (HB62.out.trans (hb63.mono HB62.out.size))
          have HP63 := Aside0.mk (HP62.out.below hb63)
          have HJ63 := Aside0.mk (HJ.out _ _ _ HJ62.out hb63)
          have s63_0 := hb63.cell (p := ⟨Bt, 0, none⟩) (World.block_lt_of_cell? _ _ s62_0) |>.trans s62_0
          have s63_1 := hb63.cell (p := ⟨ga, oa, none⟩) (World.block_lt_of_cell? _ _ s62_1) |>.trans s62_1
          have s63_2 := hb63.cell (p := ⟨ga, oa + 1, none⟩) (World.block_lt_of_cell? _ _ s62_2) |>.trans s62_2
          have s63_3 := hb63.cell (p := ⟨ga, oa + 2, none⟩) (World.block_lt_of_cell? _ _ s62_3) |>.trans s62_3
          have s63_4 := hb63.cell (p := ⟨ga, oa + 3, none⟩) (World.block_lt_of_cell? _ _ s62_4) |>.trans s62_4
          clear hb63
          refine hK.out _ _ ⟨s63_0, s63_1, s63_2, s63_3, s63_4⟩ (fun hHeld => ?_)
          clear hK K
          refine norm_ (a' := ?_) ?_ ?_
          rotate_left
          · show Act.put _ (some 86) _ = _
            simp only [Act.put, List.setIfInBounds_toArray, List.set_cons_zero, List.set_cons_succ, i64_w, i32_w]
            rfl
          refine pure_ (i := 17) (N := some 5) (v := ?_) (a' := ?_) #[true, true, true, true, true, true, true, true, true, true, true, true, true, true, true, true, true, true] rfl rfl (by kernel_rfl) (fun _ _ _ h => h) (Or.inl ⟨by rfl, ?_⟩) ?_ ?_
          rotate_left
          · intro w'
            go_simp
            with_reducible rfl
          rotate_left
          · simp only [Act.put, List.setIfInBounds_toArray, List.set_cons_zero, List.set_cons_succ, i64_w, i32_w]
            rfl
          refine done_ (by kernel_rfl) ?_
          clear s63_0 s63_1 s63_2 s63_3 s63_4
          generalize n5 / dt = aa at HRT ⊢
          generalize n6 / dt = bb at HRT ⊢
          obtain ⟨vr, hvr⟩ : ∃ vr, v63.alloc (.cells #[.int .u8 (bb.n : Nat), .int .u8 (aa.n : Nat), .int .u8 1] 5) = vr := ⟨_, rfl⟩
          have hbr : Below v63.heap.size v63 vr := by rw [← hvr]; exact (Below.refl _ _).alloc (Nat.le_refl _) _
          have hrr : Kd.C (Kd.int .u8) vr (some ⟨v63.heap.size, 0, none⟩) 3 (ns [bb, aa, 1]) := by rw [← hvr]; exact lit_reads v63 .u8 5 (ns [bb, aa, 1]) _ rfl 3 rfl (by omega)
          have HRO := Aside0.mk (Roots_any (some ⟨v63.heap.size, 0, none⟩) 3 [bb, aa, 1] vr (HP63.out.below hbr) hrr (by simp) (by simp) (by simp) (by show (1 : G).n ≠ 0; decide))
          have HJr := Aside0.mk (HJ.out _ _ _ HJ63.out hbr)
          have HBr := Aside0.mk (HB63.out.trans (hbr.mono HB63.out.size))
          clear hbr hrr
          gi_wp2
          refine ⟨trivial, callsIn_wide.2 (HRO.out.mono ?_)⟩
          rintro e v7 ⟨v, rfl, ho, hb7⟩
          have hrt : rootsN [bb, aa, 1] 64 = rootsT T := HRT.out.symm
          rw [hrt] at ho
          obtain ⟨A7, c7, rfl, hc7, hr7⟩ := Kd.R_reads ho.toR
          rw [ns_length] at hc7 hr7 ⊢
          have HJ7 := Aside0.mk (HJ.out _ _ _ HJr.out hb7)
          have HR7 := Aside0.mk hr7
          have HC7 := Aside0.mk hc7
          clear ho hb7 hr7 hc7 hrt HRO
          by_cases hl2 : (rootsT T).length = 2
          · have hg2 : two2 T = [rootsT T] := by rw [HTW.out, if_pos ⟨hz, hl2⟩]
            have hgi : (guessL T).getD i [] = rootsT T := by
              rw [HI.out]
              unfold guessL
              rw [hg2, Nat.add_comm, List.getD_cons_succ, List.getD_eq_getElem?_getD, List.getElem?_append_right (Nat.le_refl _), Nat.sub_self]
              rfl
            have hil : i + 1 = (guessL T).length := by rw [HI.out]; unfold guessL; rw [hg2]; simp; omega
            have hy7 := HY.out i A7 c7 v7 (by omega) HJ7.out (by rw [hgi]; exact HC7.out) (by rw [hgi]; exact HR7.out)
            rw [hgi, hl2] at hy7
            rw [hl2]
            obtain ⟨fn9, tmps9, assign9, body9, hy9, hR9⟩ := hy7
            have HR9 := Aside0.mk hR9
            have HIL := Aside0.mk hil
            clear hR9 hil hl2
            gi_wp2
            refine HR9.out.mono ?_
            rintro e v9 ⟨b, rfl, hb⟩
            have HBB := Aside0.mk hb
            clear hb hy9
            gi_wp2
            have hend : J (guessL T).length v9 ∨ Jx v9 := by
              have := HBB.out
              cases b with
              | true => rw [if_pos rfl] at this; rw [← HIL.out]; exact .inl this.2
              | false => rw [if_neg (by simp)] at this; exact .inr this
            go_end0
            exact ⟨⟨_, rfl⟩, hend⟩
          · have hli : ¬ (((rootsT T).length : Int) = 2) := by omega
            have hlib : (((rootsT T).length : Int) == 2) = false := beq_eq_false_iff_ne.2 hli
            have HFIN := Aside0.mk (show J (guessL T).length v7 by
              have h2 : two2 T = [] := by rw [HTW.out, if_neg (fun h => hl2 h.2)]
              have e : (guessL T).length = i := by rw [HI.out]; unfold guessL; rw [h2]; simp; omega
              rw [e]; exact HJ7.out)
            gi_wp2
            go_end0
            exact ⟨⟨_, rfl⟩, .inl HFIN.out⟩
      · have hlt4 : (T.length : Int) < 4 := by omega
        have HFIN := Aside0.mk (show J (guessL T).length W1 by
          have : two2 T = [] := by unfold two2; rw [if_neg (by omega)]
          have e : (guessL T).length = i := by rw [HI.out]; unfold guessL; rw [this]; simp; omega
          rw [e]; exact HJi.out)
        gi_wp2
        exact bodyPost_ret (v := .tuple #[]) (by simp [results, Tryz.results117, go_sem]) rfl ⟨⟨_, rfl⟩, .inl HFIN.out⟩
    have HKEY := Aside0.mk KEY
    clear KEY HK1
    have HBd := Aside0.mk (HB1.out.mono (Nat.le_refl _) |> fun h => HW.out.trans h)
    have HBX := Aside0.mk (show Boxed w1 Bt 48 (.slice (some ⟨ga, oa, none⟩) T.length c) from (HBd.out.block _ HB.out.lt).trans HB.out)
    have hbx : w1.drew.cell? ⟨Bt, 0, none⟩ = some (.slice (some ⟨ga, oa, none⟩) T.length c) := HBX.out.cell
    have hrd : ReadsInt w1 .u8 (some ⟨ga, oa, none⟩) T.length (ns T) := Kd.reads_of_C (Kd.C_below HC.out (HW0.out.trans (HBd.out.mono HW0.out.size)))
    obtain ⟨_, _, hx⟩ := hrd
    have HBD := Aside0.mk HBd.out.drew
    have HJD := Aside0.mk (HJ.out _ _ _ HJ1.out (Below.refl _ w1).drew)
    have HPd := Aside0.mk (HP.out.below HBD.out)
    have hlm : (T.length : Int) ≤ 4 := by omega
    by_cases h2 : 2 ≤ T.length
    · obtain ⟨ad, hA, hcell⟩ := hx (by omega)
      cases hA
      have ht0 : w1.drew.cell? ⟨ga, oa, none⟩ = some (.int .u8 ((T.getD 0 0).n : Nat)) := by have := hcell 0 (by omega); rw [ns_at, add_at] at this; exact this
      have ht1 : w1.drew.cell? ⟨ga, oa + 1, none⟩ = some (.int .u8 ((T.getD 1 0).n : Nat)) := by have := hcell 1 (by omega); rw [ns_at, add_at] at this; exact this
      have hge : (2 : Int) ≤ (T.length : Int) := by omega
      have hgeb : decide ((2 : Int) ≤ (T.length : Int)) = true := decide_eq_true hge
      have HO1 := Aside0.mk (show one1 T = if T.getD 0 0 ≠ 0 then [[T.getD 1 0 / T.getD 0 0]] else [] by unfold one1; simp [h2])
      generalize hg0 : T.getD 0 0 = x0 at ht0 HO1
      generalize hg1 : T.getD 1 0 = x1 at ht1 HO1
      have hpos : (0 : Int) < (T.length : Int) := by omega
      have hpos1 : (1 : Int) < (T.length : Int) := by omega
      have hposN : 0 < T.length := by omega
      have hpos1N : 1 < T.length := by omega
      clear hx hcell
      by_cases hz : x0 = 0
      · have hzx : (x0.n : Int) = 0 := by rw [hz]; rfl
        have hzb : ((x0.n : Int) == 0) = true := by rw [hzx]; rfl
        have HI := Aside0.mk (show 1 = 1 + (one1 T).length by rw [HO1.out, if_neg (fun h => h hz)]; rfl)
        have hzn : x0.n = 0 := by rw [hz]; rfl
        clear hg0 hg1 hz
        refine wpIn_wide.2 ?_
        refine start_ (n := 22) (S := fun w' => w'.cell? ⟨Bt, 0, none⟩ = some (.slice (some ⟨ga, oa, none⟩) T.length c) ∧ w'.cell? ⟨ga, oa, none⟩ = some (.int .u8 (x0.n : Nat))) (ds := []) #[false, false, false, false, false, false, false, false, false, false, false, false, false, false, false, false, false, false, false, false, false, false] (by kernel_rfl) rfl rfl ⟨hbx, ht0⟩ (fun hHeld => ?_)
        refine take_ (i := 0) (N := some 11) (v := ?_) (a' := ?_) #[true, false, false, false, false, false, false, false, false, false, false, false, false, false, false, false, false, false, false, false, false, false] rfl rfl (by kernel_rfl) (fun _ _ _ h => h) (Or.inl ⟨by rfl, ?_⟩) hHeld ?_ ?_
        rotate_left
        · rintro w' ⟨s0, s1⟩
          go_simp
          with_reducible rfl
        rotate_left
        · simp only [Act.put, List.setIfInBounds_toArray, List.set_cons_zero, List.set_cons_succ, i64_w, i32_w]
          rfl
        refine pure_ (i := 1) (N := some 12) (v := ?_) (a' := ?_) #[true, true, false, false, false, false, false, false, false, false, false, false, false, false, false, false, false, false, false, false, false, false] rfl rfl (by kernel_rfl) (fun _ _ _ h => h) (Or.inl ⟨by rfl, ?_⟩) ?_ ?_
        rotate_left
        · intro w'
          go_simp
          with_reducible rfl
        rotate_left
        · simp only [Act.put, List.setIfInBounds_toArray, List.set_cons_zero, List.set_cons_succ, i64_w, i32_w]
          rfl
        refine pure_ (i := 2) (N := some 13) (v := ?_) (a' := ?_) #[true, true, true, false, false, false, false, false, false, false, false, false, false, false, false, false, false, false, false, false, false, false] rfl rfl (by kernel_rfl) (fun _ _ _ h => h) (Or.inl ⟨by rfl, ?_⟩) ?_ ?_
        rotate_left
        · intro w'
          go_simp
          with_reducible rfl
        rotate_left
        · simp only [Act.put, List.setIfInBounds_toArray, List.set_cons_zero, List.set_cons_succ, i64_w, i32_w]
          rfl
        refine pure_ (i := 3) (N := some 14) (v := ?_) (a' := ?_) #[true, true, true, true, false, false, false, false, false, false, false, false, false, false, false, false, false, false, false, false, false, false] rfl rfl (by kernel_rfl) (fun _ _ _ h => h) (Or.inl ⟨by rfl, ?_⟩) ?_ ?_
        rotate_left
        · intro w'
          go_simp
          with_reducible rfl
        rotate_left
        · simp only [Act.put, List.setIfInBounds_toArray, List.set_cons_zero, List.set_cons_succ, i64_w, i32_w]
          rfl
        refine take_ (i := 4) (N := some 15) (v := ?_) (a' := ?_) #[true, true, true, true, true, false, false, false, false, false, false, false, false, false, false, false, false, false, false, false, false, false] rfl rfl (by kernel_rfl) (fun _ _ _ h => h) (Or.inl ⟨by rfl, ?_⟩) hHeld ?_ ?_
        rotate_left
        · rintro w' ⟨s0, s1⟩
          go_simp
          with_reducible rfl
        rotate_left
        · simp only [Act.put, List.setIfInBounds_toArray, List.set_cons_zero, List.set_cons_succ, i64_w, i32_w]
          rfl
        refine pure_ (i := 5) (N := some 16) (v := ?_) (a' := ?_) #[true, true, true, true, true, true, false, false, false, false, false, false, false, false, false, false, false, false, false, false, false, false] rfl rfl (by kernel_rfl) (fun _ _ _ h => h) (Or.inl ⟨by rfl, ?_⟩) ?_ ?_
        rotate_left
        · intro w'
          go_simp
          with_reducible rfl
        rotate_left
        · simp only [Act.put, List.setIfInBounds_toArray, List.set_cons_zero, List.set_cons_succ, i64_w, i32_w]
          rfl
        refine take_ (i := 6) (N := some 17) (v := ?_) (a' := ?_) #[true, true, true, true, true, true, true, false, false, false, false, false, false, false, false, false, false, false, false, false, false, false] rfl rfl (by kernel_rfl) (fun _ _ _ h => h) (Or.inl ⟨by rfl, ?_⟩) hHeld ?_ ?_
        rotate_left
        · rintro w' ⟨s0, s1⟩
          go_simp
          with_reducible rfl
        rotate_left
        · simp only [Act.put, List.setIfInBounds_toArray, List.set_cons_zero, List.set_cons_succ, i64_w, i32_w]
          rfl
        refine pure_ (i := 7) (N := some 18) (v := ?_) (a' := ?_) #[true, true, true, true, true, true, true, true, false, false, false, false, false, false, false, false, false, false, false, false, false, false] rfl rfl (by kernel_rfl) (fun _ _ _ h => h) (Or.inl ⟨by rfl, ?_⟩) ?_ ?_
        rotate_left
        · intro w'
          go_simp
          with_reducible rfl
        rotate_left
        · simp only [Act.put, List.setIfInBounds_toArray, List.set_cons_zero, List.set_cons_succ, i64_w, i32_w]
          rfl
        refine pure_ (i := 8) (N := some 19) (v := ?_) (a' := ?_) #[true, true, true, true, true, true, true, true, true, false, false, false, false, false, false, false, false, false, false, false, false, false] rfl rfl (by kernel_rfl) (fun _ _ _ h => h) (Or.inl ⟨by rfl, ?_⟩) ?_ ?_
        rotate_left
        · intro w'
          go_simp
          with_reducible rfl
        rotate_left
        · simp only [Act.put, List.setIfInBounds_toArray, List.set_cons_zero, List.set_cons_succ, i64_w, i32_w]
          rfl
        refine pure_ (i := 9) (N := some 20) (v := ?_) (a' := ?_) #[true, true, true, true, true, true, true, true, true, true, false, false, false, false, false, false, false, false, false, false, false, false] rfl rfl (by kernel_rfl) (fun _ _ _ h => h) (Or.inl ⟨by rfl, ?_⟩) ?_ ?_
        rotate_left
        · intro w'
          go_simp
          with_reducible rfl
        rotate_left
        · simp only [Act.put, List.setIfInBounds_toArray, List.set_cons_zero, List.set_cons_succ, i64_w, i32_w]
          rfl
        refine pure_ (i := 10) (N := some 21) (v := undef) (a' := ?_) #[true, true, true, true, true, true, true, true, true, true, true, false, false, false, false, false, false, false, false, false, false, false] rfl rfl (by kernel_rfl) (fun _ _ _ h => h) (Or.inr ⟨by rfl, rfl⟩) ?_ ?_
        rotate_left
        · simp only [Act.put, List.setIfInBounds_toArray, List.set_cons_zero, List.set_cons_succ, i64_w, i32_w]
          rfl
        refine pure_ (i := 11) (N := some 22) (v := undef) (a' := ?_) #[true, true, true, true, true, true, true, true, true, true, true, true, false, false, false, false, false, false, false, false, false, false] rfl rfl (by kernel_rfl) (fun _ _ _ h => h) (Or.inr ⟨by rfl, rfl⟩) ?_ ?_
        rotate_left
        · simp only [Act.put, List.setIfInBounds_toArray, List.set_cons_zero, List.set_cons_succ, i64_w, i32_w]
          rfl
        refine pure_ (i := 12) (N := some 23) (v := undef) (a' := ?_) #[true, true, true, true, true, true, true, true, true, true, true, true, true, false, false, false, false, false, false, false, false, false] rfl rfl (by kernel_rfl) (fun _ _ _ h => h) (Or.inr ⟨by rfl, rfl⟩) ?_ ?_
        rotate_left
        · simp only [Act.put, List.setIfInBounds_toArray, List.set_cons_zero, List.set_cons_succ, i64_w, i32_w]
          rfl
        refine pure_ (i := 13) (N := some 24) (v := undef) (a' := ?_) #[true, true, true, true, true, true, true, true, true, true, true, true, true, true, false, false, false, false, false, false, false, false] rfl rfl (by kernel_rfl) (fun _ _ _ h => h) (Or.inr ⟨by rfl, rfl⟩) ?_ ?_
        rotate_left
        · simp only [Act.put, List.setIfInBounds_toArray, List.set_cons_zero, List.set_cons_succ, i64_w, i32_w]
          rfl
        refine pure_ (i := 14) (N := some 25) (v := undef) (a' := ?_) #[true, true, true, true, true, true, true, true, true, true, true, true, true, true, true, false, false, false, false, false, false, false] rfl rfl (by kernel_rfl) (fun _ _ _ h => h) (Or.inr ⟨by rfl, rfl⟩) ?_ ?_
        rotate_left
        · simp only [Act.put, List.setIfInBounds_toArray, List.set_cons_zero, List.set_cons_succ, i64_w, i32_w]
          rfl
        refine pure_ (i := 15) (N := some 26) (v := undef) (a' := ?_) #[true, true, true, true, true, true, true, true, true, true, true, true, true, true, true, true, false, false, false, false, false, false] rfl rfl (by kernel_rfl) (fun _ _ _ h => h) (Or.inr ⟨by rfl, rfl⟩) ?_ ?_
        rotate_left
        · simp only [Act.put, List.setIfInBounds_toArray, List.set_cons_zero, List.set_cons_succ, i64_w, i32_w]
          rfl
        refine pure_ (i := 16) (N := some 27) (v := undef) (a' := ?_) #[true, true, true, true, true, true, true, true, true, true, true, true, true, true, true, true, true, false, false, false, false, false] rfl rfl (by kernel_rfl) (fun _ _ _ h => h) (Or.inr ⟨by rfl, rfl⟩) ?_ ?_
        rotate_left
        · simp only [Act.put, List.setIfInBounds_toArray, List.set_cons_zero, List.set_cons_succ, i64_w, i32_w]
          rfl
        refine pure_ (i := 17) (N := some 28) (v := undef) (a' := ?_) #[true, true, true, true, true, true, true, true, true, true, true, true, true, true, true, true, true, true, false, false, false, false] rfl rfl (by kernel_rfl) (fun _ _ _ h => h) (Or.inr ⟨by rfl, rfl⟩) ?_ ?_
        rotate_left
        · simp only [Act.put, List.setIfInBounds_toArray, List.set_cons_zero, List.set_cons_succ, i64_w, i32_w]
          rfl
        refine pure_ (i := 18) (N := some 29) (v := undef) (a' := ?_) #[true, true, true, true, true, true, true, true, true, true, true, true, true, true, true, true, true, true, true, false, false, false] rfl rfl (by kernel_rfl) (fun _ _ _ h => h) (Or.inr ⟨by rfl, rfl⟩) ?_ ?_
        rotate_left
        · simp only [Act.put, List.setIfInBounds_toArray, List.set_cons_zero, List.set_cons_succ, i64_w, i32_w]
          rfl
        refine pure_ (i := 19) (N := some 30) (v := undef) (a' := ?_) #[true, true, true, true, true, true, true, true, true, true, true, true, true, true, true, true, true, true, true, true, false, false] rfl rfl (by kernel_rfl) (fun _ _ _ h => h) (Or.inr ⟨by rfl, rfl⟩) ?_ ?_
        rotate_left
        · simp only [Act.put, List.setIfInBounds_toArray, List.set_cons_zero, List.set_cons_succ, i64_w, i32_w]
          rfl
        refine pure_ (i := 20) (N := some 31) (v := undef) (a' := ?_) #[true, true, true, true, true, true, true, true, true, true, true, true, true, true, true, true, true, true, true, true, true, false] rfl rfl (by kernel_rfl) (fun _ _ _ h => h) (Or.inr ⟨by rfl, rfl⟩) ?_ ?_
        rotate_left
        · simp only [Act.put, List.setIfInBounds_toArray, List.set_cons_zero, List.set_cons_succ, i64_w, i32_w]
          rfl
        refine pure_ (i := 21) (N := some 32) (v := ?_) (a' := ?_) #[true, true, true, true, true, true, true, true, true, true, true, true, true, true, true, true, true, true, true, true, true, true] rfl rfl (by kernel_rfl) (fun _ _ _ h => h) (Or.inl ⟨by rfl, ?_⟩) ?_ ?_
        rotate_left
        · intro w'
          go_simp
          with_reducible rfl
        rotate_left
        · simp only [Act.put, List.setIfInBounds_toArray, List.set_cons_zero, List.set_cons_succ, i64_w, i32_w]
          rfl
        refine done_ (by kernel_rfl) ?_
        gi_wp2
        exact HKEY.out _ 1 HI.out HBD.out HJD.out
      · have hzx : ¬ ((x0.n : Int) = 0) := fun h => hz (G.ext (by show x0.n = 0; omega))
        have hznb : ((x0.n : Int) == 0) = false := beq_eq_false_iff_ne.2 hzx
        have hznN : ¬ (x0.n = 0) := by omega
        have hzbn : ((x0.n : Int) != 0) = true := bne_iff_ne.2 hzx
        have hzbN : (x0.n != 0) = true := bne_iff_ne.2 hznN
        have HO1' := Aside0.mk (show one1 T = [[x1 / x0]] by rw [HO1.out, if_pos hz])
        have HY1 : Aside0 (∀ v5, Below w1.drew.heap.size w1.drew v5 → YieldAt Fence.wide (n - 1) Tryz.prog l #[.slice (some ⟨v5.heap.size, 0, none⟩) 1 1] (v5.alloc (.cells #[.int .u8 ((x1 / x0).n : Nat)] 5)) fun e X' => ∃ b : Bool, e = .returned (.bool b) ∧ if b = true then (Below w.heap.size (v5.alloc (.cells #[.int .u8 ((x1 / x0).n : Nat)] 5)) X' ∧ J 2 X') else Jx X') := ⟨fun v5 hb5 => by
          have hgi : (guessL T).getD 1 [] = [x1 / x0] := by unfold guessL; rw [HO1'.out]; rfl
          have hil : 1 < (guessL T).length := by unfold guessL; rw [HO1'.out]; simp
          have hb6 : Below w1.drew.heap.size w1.drew (v5.alloc (.cells #[.int .u8 ((x1 / x0).n : Nat)] 5)) := hb5.alloc hb5.size _
          have := HY.out 1 (some ⟨v5.heap.size, 0, none⟩) 1 (v5.alloc (.cells #[.int .u8 ((x1 / x0).n : Nat)] 5)) hil (HJ.out _ _ _ HJD.out hb6) (by rw [hgi]; simp) (by rw [hgi]; exact lit_reads v5 .u8 5 (ns [x1 / x0]) _ rfl 1 rfl (by omega))
          rw [hgi] at this
          exact this⟩
        have HB6 : Aside0 (∀ v5, Below w1.drew.heap.size w1.drew v5 → Below w.heap.size w (v5.alloc (.cells #[.int .u8 ((x1 / x0).n : Nat)] 5))) := ⟨fun v5 hb5 => (HBD.out.trans (hb5.mono HBD.out.size)).alloc (Nat.le_trans HBD.out.size hb5.size) _⟩
        have HNE := Aside0.mk (show x0.n ≠ 0 by omega)
        have HI2 := Aside0.mk (show 2 = 1 + (one1 T).length by rw [HO1'.out]; rfl)
        clear hg0 hg1 hz HO1 HBX HB1
        gi_region_with (first | (refine ⟨trivial, callsIn_wide.2 ((sdiv_any x1 x0 _ HPd.out HNE.out).mono ?_)⟩; rintro e v5 ⟨rfl, hb5⟩; obtain ⟨fn5, tmps5, assign5, body5, hy5, hR5⟩ := HY1.out v5 hb5; have HB65 := Aside0.mk (HB6.out v5 hb5); have HR5 := Aside0.mk hR5; clear hR5 hb5) | (refine HR5.out.mono ?_; rintro e v6 ⟨b, rfl, hb⟩; have HBB := Aside0.mk hb; clear hb hy5))
        all_goals
          have hbb := HBB.out
          clear HBB HR5
          cases b with
          | false =>
            rw [if_neg (by simp)] at hbb
            have HE := Aside0.mk hbb
            clear hbb
            gi_wp2
            exact bodyPost_ret (v := .tuple #[]) (by simp [results, Tryz.results117, go_sem]) rfl ⟨⟨_, rfl⟩, .inr HE.out⟩
          | true =>
            rw [if_pos rfl] at hbb
            have HB7 := Aside0.mk (HB65.out.trans hbb.1)
            have HJ7 := Aside0.mk hbb.2
            clear hbb
            gi_wp2
            exact HKEY.out _ 2 HI2.out HB7.out HJ7.out
    · have hge : ¬ ((2 : Int) ≤ (T.length : Int)) := by omega
      have HI := Aside0.mk (show 1 = 1 + (one1 T).length by unfold one1; rw [if_neg (fun h => h2 h.1)]; rfl)
      clear hx
      refine wpIn_wide.2 ?_
      refine start_ (n := 22) (S := fun w' => w'.cell? ⟨Bt, 0, none⟩ = some (.slice (some ⟨ga, oa, none⟩) T.length c)) (ds := []) #[false, false, false, false, false, false, false, false, false, false, false, false, false, false, false, false, false, false, false, false, false, false] (by kernel_rfl) rfl rfl (hbx) (fun hHeld => ?_)
      refine take_ (i := 0) (N := some 11) (v := ?_) (a' := ?_) #[true, false, false, false, false, false, false, false, false, false, false, false, false, false, false, false, false, false, false, false, false, false] rfl rfl (by kernel_rfl) (fun _ _ _ h => h) (Or.inl ⟨by rfl, ?_⟩) hHeld ?_ ?_
      rotate_left
      · intro w' s0
        go_simp
        with_reducible rfl
      rotate_left
      · simp only [Act.put, List.setIfInBounds_toArray, List.set_cons_zero, List.set_cons_succ, i64_w, i32_w]
        rfl
      refine pure_ (i := 1) (N := some 12) (v := ?_) (a' := ?_) #[true, true, false, false, false, false, false, false, false, false, false, false, false, false, false, false, false, false, false, false, false, false] rfl rfl (by kernel_rfl) (fun _ _ _ h => h) (Or.inl ⟨by rfl, ?_⟩) ?_ ?_
      rotate_left
      · intro w'
        go_simp
        with_reducible rfl
      rotate_left
      · simp only [Act.put, List.setIfInBounds_toArray, List.set_cons_zero, List.set_cons_succ, i64_w, i32_w]
        rfl
      refine pure_ (i := 2) (N := some 13) (v := ?_) (a' := ?_) #[true, true, true, false, false, false, false, false, false, false, false, false, false, false, false, false, false, false, false, false, false, false] rfl rfl (by kernel_rfl) (fun _ _ _ h => h) (Or.inl ⟨by rfl, ?_⟩) ?_ ?_
      rotate_left
      · intro w'
        go_simp
        with_reducible rfl
      rotate_left
      · simp only [Act.put, List.setIfInBounds_toArray, List.set_cons_zero, List.set_cons_succ, i64_w, i32_w]
        rfl
      refine pure_ (i := 3) (N := some 14) (v := ?_) (a' := ?_) #[true, true, true, true, false, false, false, false, false, false, false, false, false, false, false, false, false, false, false, false, false, false] rfl rfl (by kernel_rfl) (fun _ _ _ h => h) (Or.inl ⟨by rfl, ?_⟩) ?_ ?_
      rotate_left
      · intro w'
        go_simp
        with_reducible rfl
      rotate_left
      · simp only [Act.put, List.setIfInBounds_toArray, List.set_cons_zero, List.set_cons_succ, i64_w, i32_w]
        rfl
      refine pure_ (i := 4) (N := some 15) (v := undef) (a' := ?_) #[true, true, true, true, true, false, false, false, false, false, false, false, false, false, false, false, false, false, false, false, false, false] rfl rfl (by kernel_rfl) (fun _ _ _ h => h) (Or.inr ⟨by rfl, rfl⟩) ?_ ?_
      rotate_left
      · simp only [Act.put, List.setIfInBounds_toArray, List.set_cons_zero, List.set_cons_succ, i64_w, i32_w]
        rfl
      refine pure_ (i := 5) (N := some 16) (v := undef) (a' := ?_) #[true, true, true, true, true, true, false, false, false, false, false, false, false, false, false, false, false, false, false, false, false, false] rfl rfl (by kernel_rfl) (fun _ _ _ h => h) (Or.inr ⟨by rfl, rfl⟩) ?_ ?_
      rotate_left
      · simp only [Act.put, List.setIfInBounds_toArray, List.set_cons_zero, List.set_cons_succ, i64_w, i32_w]
        rfl
      refine pure_ (i := 6) (N := some 17) (v := undef) (a' := ?_) #[true, true, true, true, true, true, true, false, false, false, false, false, false, false, false, false, false, false, false, false, false, false] rfl rfl (by kernel_rfl) (fun _ _ _ h => h) (Or.inr ⟨by rfl, rfl⟩) ?_ ?_
      rotate_left
      · simp only [Act.put, List.setIfInBounds_toArray, List.set_cons_zero, List.set_cons_succ, i64_w, i32_w]
        rfl
      refine pure_ (i := 7) (N := some 18) (v := undef) (a' := ?_) #[true, true, true, true, true, true, true, true, false, false, false, false, false, false, false, false, false, false, false, false, false, false] rfl rfl (by kernel_rfl) (fun _ _ _ h => h) (Or.inr ⟨by rfl, rfl⟩) ?_ ?_
      rotate_left
      · simp only [Act.put, List.setIfInBounds_toArray, List.set_cons_zero, List.set_cons_succ, i64_w, i32_w]
        rfl
      refine pure_ (i := 8) (N := some 19) (v := ?_) (a' := ?_) #[true, true, true, true, true, true, true, true, true, false, false, false, false, false, false, false, false, false, false, false, false, false] rfl rfl (by kernel_rfl) (fun _ _ _ h => h) (Or.inl ⟨by rfl, ?_⟩) ?_ ?_
      rotate_left
      · intro w'
        go_simp
        with_reducible rfl
      rotate_left
      · simp only [Act.put, List.setIfInBounds_toArray, List.set_cons_zero, List.set_cons_succ, i64_w, i32_w]
        rfl
      refine pure_ (i := 9) (N := some 20) (v := ?_) (a' := ?_) #[true, true, true, true, true, true, true, true, true, true, false, false, false, false, false, false, false, false, false, false, false, false] rfl rfl (by kernel_rfl) (fun _ _ _ h => h) (Or.inl ⟨by rfl, ?_⟩) ?_ ?_
      rotate_left
      · intro w'
        go_simp
        with_reducible rfl
      rotate_left
      · simp only [Act.put, List.setIfInBounds_toArray, List.set_cons_zero, List.set_cons_succ, i64_w, i32_w]
        rfl
      refine pure_ (i := 10) (N := some 21) (v := undef) (a' := ?_) #[true, true, true, true, true, true, true, true, true, true, true, false, false, false, false, false, false, false, false, false, false, false] rfl rfl (by kernel_rfl) (fun _ _ _ h => h) (Or.inr ⟨by rfl, rfl⟩) ?_ ?_
      rotate_left
      · simp only [Act.put, List.setIfInBounds_toArray, List.set_cons_zero, List.set_cons_succ, i64_w, i32_w]
        rfl
      refine pure_ (i := 11) (N := some 22) (v := undef) (a' := ?_) #[true, true, true, true, true, true, true, true, true, true, true, true, false, false, false, false, false, false, false, false, false, false] rfl rfl (by kernel_rfl) (fun _ _ _ h => h) (Or.inr ⟨by rfl, rfl⟩) ?_ ?_
      rotate_left
      · simp only [Act.put, List.setIfInBounds_toArray, List.set_cons_zero, List.set_cons_succ, i64_w, i32_w]
        rfl
      refine pure_ (i := 12) (N := some 23) (v := undef) (a' := ?_) #[true, true, true, true, true, true, true, true, true, true, true, true, true, false, false, false, false, false, false, false, false, false] rfl rfl (by kernel_rfl) (fun _ _ _ h => h) (Or.inr ⟨by rfl, rfl⟩) ?_ ?_
      rotate_left
      · simp only [Act.put, List.setIfInBounds_toArray, List.set_cons_zero, List.set_cons_succ, i64_w, i32_w]
        rfl
      refine pure_ (i := 13) (N := some 24) (v := undef) (a' := ?_) #[true, true, true, true, true, true, true, true, true, true, true, true, true, true, false, false, false, false, false, false, false, false] rfl rfl (by kernel_rfl) (fun _ _ _ h => h) (Or.inr ⟨by rfl, rfl⟩) ?_ ?_
      rotate_left
      · simp only [Act.put, List.setIfInBounds_toArray, List.set_cons_zero, List.set_cons_succ, i64_w, i32_w]
        rfl
      refine pure_ (i := 14) (N := some 25) (v := undef) (a' := ?_) #[true, true, true, true, true, true, true, true, true, true, true, true, true, true, true, false, false, false, false, false, false, false] rfl rfl (by kernel_rfl) (fun _ _ _ h => h) (Or.inr ⟨by rfl, rfl⟩) ?_ ?_
      rotate_left
      · simp only [Act.put, List.setIfInBounds_toArray, List.set_cons_zero, List.set_cons_succ, i64_w, i32_w]
        rfl
      refine pure_ (i := 15) (N := some 26) (v := undef) (a' := ?_) #[true, true, true, true, true, true, true, true, true, true, true, true, true, true, true, true, false, false, false, false, false, false] rfl rfl (by kernel_rfl) (fun _ _ _ h => h) (Or.inr ⟨by rfl, rfl⟩) ?_ ?_
      rotate_left
      · simp only [Act.put, List.setIfInBounds_toArray, List.set_cons_zero, List.set_cons_succ, i64_w, i32_w]
        rfl
      refine pure_ (i := 16) (N := some 27) (v := undef) (a' := ?_) #[true, true, true, true, true, true, true, true, true, true, true, true, true, true, true, true, true, false, false, false, false, false] rfl rfl (by kernel_rfl) (fun _ _ _ h => h) (Or.inr ⟨by rfl, rfl⟩) ?_ ?_
      rotate_left
      · simp only [Act.put, List.setIfInBounds_toArray, List.set_cons_zero, List.set_cons_succ, i64_w, i32_w]
        rfl
      refine pure_ (i := 17) (N := some 28) (v := undef) (a' := ?_) #[true, true, true, true, true, true, true, true, true, true, true, true, true, true, true, true, true, true, false, false, false, false] rfl rfl (by kernel_rfl) (fun _ _ _ h => h) (Or.inr ⟨by rfl, rfl⟩) ?_ ?_
      rotate_left
      · simp only [Act.put, List.setIfInBounds_toArray, List.set_cons_zero, List.set_cons_succ, i64_w, i32_w]
        rfl
      refine pure_ (i := 18) (N := some 29) (v := undef) (a' := ?_) #[true, true, true, true, true, true, true, true, true, true, true, true, true, true, true, true, true, true, true, false, false, false] rfl rfl (by kernel_rfl) (fun _ _ _ h => h) (Or.inr ⟨by rfl, rfl⟩) ?_ ?_
      rotate_left
      · simp only [Act.put, List.setIfInBounds_toArray, List.set_cons_zero, List.set_cons_succ, i64_w, i32_w]
        rfl
      refine pure_ (i := 19) (N := some 30) (v := undef) (a' := ?_) #[true, true, true, true, true, true, true, true, true, true, true, true, true, true, true, true, true, true, true, true, false, false] rfl rfl (by kernel_rfl) (fun _ _ _ h => h) (Or.inr ⟨by rfl, rfl⟩) ?_ ?_
      rotate_left
      · simp only [Act.put, List.setIfInBounds_toArray, List.set_cons_zero, List.set_cons_succ, i64_w, i32_w]
        rfl
      refine pure_ (i := 20) (N := some 31) (v := undef) (a' := ?_) #[true, true, true, true, true, true, true, true, true, true, true, true, true, true, true, true, true, true, true, true, true, false] rfl rfl (by kernel_rfl) (fun _ _ _ h => h) (Or.inr ⟨by rfl, rfl⟩) ?_ ?_
      rotate_left
      · simp only [Act.put, List.setIfInBounds_toArray, List.set_cons_zero, List.set_cons_succ, i64_w, i32_w]
        rfl
      refine pure_ (i := 21) (N := some 32) (v := ?_) (a' := ?_) #[true, true, true, true, true, true, true, true, true, true, true, true, true, true, true, true, true, true, true, true, true, true] rfl rfl (by kernel_rfl) (fun _ _ _ h => h) (Or.inl ⟨by rfl, ?_⟩) ?_ ?_
      rotate_left
      · intro w'
        go_simp
        with_reducible rfl
      rotate_left
      · simp only [Act.put, List.setIfInBounds_toArray, List.set_cons_zero, List.set_cons_succ, i64_w, i32_w]
        rfl
      refine done_ (by kernel_rfl) ?_
      gi_wp2
      exact HKEY.out _ 1 HI.out HBD.out HJD.out
end Go.Proofs.YtajccgmeminlhaaGreatDoor
