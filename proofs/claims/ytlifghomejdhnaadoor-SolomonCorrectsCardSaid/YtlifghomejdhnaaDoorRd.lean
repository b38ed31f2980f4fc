/- read: what is read of a word with noise: a word as long, the places that are erased, and those at which it differs otherwise. -/
import Derived.Test.YtlifghomejdhnaaDoorWthn
set_option linter.unusedVariables false
set_option linter.unusedSimpArgs false
namespace Go.Proofs.YtlifghomejdhnaaDoor
open Go.RowKit Go.Shelf Go.Proofs.YtlifghomejdhnaaDoorW.PrintWords Go.Proofs.YtlifghomejdhnaaDoorW.PrintLast Go.Proofs.YtlifghomejdhnaaDoorW.PrintMore Go.Proofs.YtlifghomejdhnaaDoor.Q Go.Proofs.YtlifghomejdhnaaDoor.Gf

/-- A struct of noise: two bytes and a bool. -/
def kNz : Kd (Int × Int × Bool) := Kd.pair (Kd.int .u8) (Kd.pair (Kd.int .u8) Kd.bool)
def okNz (z : Int × Int × Bool) : Prop := (0 ≤ z.1 ∧ z.1 < 256) ∧ (0 ≤ z.2.1 ∧ z.2.1 < 256)
/-- Element i's three cells. -/
theorem nz_at {w : World} {A : Option Addr} {n : Nat} {z : List (Int × Int × Bool)} (h : kNz.C w A n z) (i : Nat) (hi : i < n) :
    ∃ ad, A = some ad ∧ (z.getD i (0, 0, false)) ∈ z ∧ w.cell? (ad.add (i * 3)) = some (.int .u8 (z.getD i (0, 0, false)).1) ∧ w.cell? ⟨(ad.add (i * 3)).block, (ad.add (i * 3)).off + 1, none⟩ = some (.int .u8 (z.getD i (0, 0, false)).2.1) ∧ w.cell? ⟨(ad.add (i * 3)).block, (ad.add (i * 3)).off + 2, none⟩ = some (.bool (z.getD i (0, 0, false)).2.2) := by
  have hl : z.length = n := h.1
  obtain ⟨ad, c, rfl, hcl, hk, hc⟩ := Kd.C_get h (0, 0, false) (i : Int) (by omega) (by omega)
  obtain ⟨c0, c1, rfl, h0, c2, c3, rfl, h2, h3⟩ := hk
  have h0 : c0 = [_] := h0
  have h2 : c2 = [_] := h2
  have h3 : c3 = [_] := h3
  subst h0 h2 h3
  rw [Int.toNat_natCast] at hc
  refine ⟨ad, rfl, ?_, hc 0 _ rfl, (add_field ad (i * 3) 1 (by decide)) ▸ hc 1 _ rfl, (add_field ad (i * 3) 2 (by decide)) ▸ hc 2 _ rfl⟩
  rw [List.getD_eq_getElem?_getD, List.getElem?_eq_getElem (by omega)]
  exact List.getElem_mem _
theorem nz_take {w : World} {A : Option Addr} {n m : Nat} {z : List (Int × Int × Bool)} (h : kNz.C w A n z) (hm : m ≤ n) : kNz.C w A m (z.take m) := by
  obtain ⟨h1, h2, h3⟩ := h
  refine ⟨by rw [List.length_take]; omega, by omega, fun h0 => ?_⟩
  obtain ⟨ad, e, hc⟩ := h3 (by omega)
  exact ⟨ad, e, fun j p hj => hc j p (by rw [List.getElem?_take] at hj; split at hj; exact hj; cases hj)⟩
theorem is_snoc1 (P : List Nat) (p : Nat) : is (P ++ [p]) = is P ++ [(p : Int)] := by
  unfold is
  rw [List.map_append]
  rfl
def enc2 (b : Bool) : Value := .int .i64 (if b then 2 else 0)
/-- The places below p that are in a list. -/
def erK (P : List Nat) (p : Nat) : List Nat := (List.range p).filter fun i => decide (i ∈ P)
theorem erK_succ (P : List Nat) (p : Nat) : erK P (p + 1) = erK P p ++ (if decide (p ∈ P) then [p] else []) := by
  unfold erK
  rw [List.range_succ, List.filter_append]
  cases h : decide (p ∈ P) <;> simp [h]
theorem mem_erK {P : List Nat} {p i : Nat} : i ∈ erK P p ↔ i < p ∧ i ∈ P := by simp [erK]
theorem erK_nodup (P : List Nat) (p : Nat) : (erK P p).Nodup := List.Pairwise.filter _ List.nodup_range
theorem errL_erK (O W : List G) (P : List Nat) : errL O (erK P O.length) W = errL O P W := by
  unfold errL
  apply List.filter_congr
  intro p hp
  rw [List.mem_range] at hp
  congr 1
  rw [decide_eq_decide, mem_erK]
  exact ⟨fun h h2 => h ⟨hp, h2⟩, fun h h2 => h h2.2⟩
/-- Two rows of integers that grow side by side. -/
structure Si (B : Nat) (wd W : World) (va vb : Value) (L1 L2 : List Int) : Prop where
  a : Own .i64 3 W B va L1
  b : Own .i64 3 W B vb L2
  ap : ∀ k, va.ownBlock = some k → vb.ownBlock ≠ some k
  w : Below B wd W
theorem Si.below {B : Nat} {wd W W' : World} {va vb : Value} {L1 L2 : List Int} (h : Si B wd W va vb L1 L2) (hB : B ≤ wd.heap.size) (hb : Below W.heap.size W W') : Si B wd W' va vb L1 L2 :=
  ⟨h.a.below hb, h.b.below hb, h.ap, h.w.trans (hb.mono (Nat.le_trans hB h.w.size))⟩
theorem Si.left {B : Nat} {wd W W' : World} {va vb v1 : Value} {L1 L2 L : List Int} (h : Si B wd W va vb L1 L2) (ho : Own .i64 3 W' B v1 L) (hb : Below B W W') (hg : W.grownBy W' va.ownBlock) (hat : v1.ownBlock = va.ownBlock ∨ ∃ b, v1.ownBlock = some b ∧ W.heap.size ≤ b) : Si B wd W' v1 vb L L2 := by
  refine ⟨ho, own_other h.b hg ?_, fun k hk hk2 => ?_, h.w.trans hb⟩
  · cases hv : vb.ownBlock with
    | none => exact .inl rfl
    | some k => exact .inr fun hk => h.ap k hk.symm hv
  · rcases hat with e | ⟨b, e, hb⟩
    · exact h.ap k (e ▸ hk) hk2
    · rw [e] at hk
      obtain rfl := Option.some.inj hk
      have := own_lt h.b _ hk2
      omega
theorem Si.right {B : Nat} {wd W W' : World} {va vb v1 : Value} {L1 L2 L : List Int} (h : Si B wd W va vb L1 L2) (ho : Own .i64 3 W' B v1 L) (hb : Below B W W') (hg : W.grownBy W' vb.ownBlock) (hat : v1.ownBlock = vb.ownBlock ∨ ∃ b, v1.ownBlock = some b ∧ W.heap.size ≤ b) : Si B wd W' va v1 L1 L := by
  refine ⟨own_other h.a hg ?_, ho, fun k hk hk2 => ?_, h.w.trans hb⟩
  · cases hv : va.ownBlock with
    | none => exact .inl rfl
    | some k => exact .inr fun hk => h.ap k hv hk.symm
  · rcases hat with e | ⟨b, e, hb⟩
    · exact h.ap k hk (e ▸ hk2)
    · rw [e] at hk2
      obtain rfl := Option.some.inj hk2
      have := own_lt h.a _ hk
      omega
attribute [local go_sem] max2_int min2_int max_two min_two max_three min_three
set_option maxHeartbeats 16000000 in
set_option maxRecDepth 1000000 in
theorem read_any (gw c : Nat) (X : List G) (A1 : Option Addr) (c1 : Nat) (z : List (Int × Int × Bool)) (w : World) (hr : CRow (Value.int .u8) 0 w gw (ns X)) (hc : X.length ≤ c) (h0 : 0 < X.length) (hn : X.length ≤ 63) (hr1 : kNz.C w A1 z.length z) (hc1 : z.length ≤ c1) (hz : ∀ x ∈ z, okNz x) (hq : z.length ≤ 6) :
    Calls Tryd.prog 10 #[.slice (some ⟨gw, 0, none⟩) X.length c, .slice A1 z.length c1] w fun e w' => ∃ (g cg : Nat) (AE : Option Addr) (cE : Nat) (AC : Option Addr) (cC : Nat) (O : List G) (E : List Nat), e = .returned (.tuple #[.slice (some ⟨g, 0, none⟩) X.length cg, .slice AE E.length cE, .slice AC (errL O E X).length cC]) ∧ w.heap.size ≤ g ∧ X.length ≤ cg ∧ O.length = X.length ∧ E.length ≤ z.length ∧ E.length ≤ cE ∧ (errL O E X).length ≤ cC ∧ E.Nodup ∧ (∀ p ∈ E, p < X.length) ∧ CRow (Value.int .u8) 0 w' g (ns O) ∧ Kd.C (Kd.int .i64) w' AE E.length (is E) ∧ Kd.C (Kd.int .i64) w' AC (errL O E X).length (is (errL O E X)) ∧ Below w.heap.size w w' := by
  obtain ⟨N, hN⟩ : ∃ N, N = X.length := ⟨_, rfl⟩
  have HXN := Aside0.mk hN
  rw [← hN] at hc h0 hn ⊢
  obtain ⟨q, hqq⟩ : ∃ q, q = z.length := ⟨_, rfl⟩
  have HQ := Aside0.mk hqq
  rw [← hqq] at hr1 hc1 hq ⊢
  have HR := Aside0.mk hr
  have HR1 := Aside0.mk hr1
  have HZ := Aside0.mk hz
  obtain ⟨XS, hX⟩ : ∃ XS, XS = ns X := ⟨_, rfl⟩
  have HXL := Aside0.mk (show XS.length = N by rw [hX, ns_length, hN])
  have HX := Aside0.mk hX
  have HO1 := Aside0.mk (World.ownsRow_lit (base := w.heap.size) (e := 5) (size := 1) w #[] 0 (Nat.le_refl _) (by decide) rfl)
  have HB10 := Aside0.mk ((Below.refl _ w).alloc (Nat.le_refl _) (.cells #[] 5))
  have hrd := hr.reads (by rw [ns_length]; omega)
  rw [ns_length, ← hN, ← hX] at hrd
  have HRD1 := Aside0.mk (Kd.C_alloc hrd (.cells #[] 5))
  clear hr hr1 hz hX hrd hN hqq
  go_enter Tryd.func10, Tryd.ntmps10
  have hmk : ∀ W : World, (Instr.makeSlice 26 (.int .i64 (N : Int)) (.int .i64 (N : Int))).run Tryd.prog W = .ok (.slice (some ⟨W.heap.size, 0, none⟩) N N) (W.alloc (.cells (madeCells #[.int .i64 0] N) 3)) :=
    print_make_of 26 3 (.int .i64 0) 8 Tryd.underlying26 info_int rfl (by decide) N (by omega)
  go_wp2_with (first | (at_builtin; refine print_append_row (w0 := w) w.heap.size rfl _ _ 22 5 .u8 1 rfl Tryd.underlying22 info_u8 (by decide) _ [] XS (some ⟨gw, 0, none⟩) N c rfl rfl HO1.out (Kd.reads_of_C HRD1.out) HB10.out HB10.out.size (by simp <;> omega) ?_; intro v2 w2 hown hB2 hg2 hat; have hown' : Own .u8 5 w2 w.heap.size v2 XS := (by simpa [Own] using hown); obtain ⟨g, cg, rfl, hcg, hgb, hrowb⟩ := own_crow' hown' HXL.out h0; have HRB := Aside0.mk hrowb; have HGB := Aside0.mk hgb; have HB2 := Aside0.mk hB2; clear hown hown' hB2 hg2 hat hrowb hgb))
  obtain ⟨wm, hwm⟩ : ∃ wm, w2.alloc (.cells (madeCells #[.int .i64 0] N) 3) = wm := ⟨_, rfl⟩
  have HM := Aside0.mk (show CRow enc2 false wm w2.heap.size (marks N []) by rw [marks_nil, ← hwm]; exact CRow.made enc2 false w2 3 N)
  have hbm : Below w2.heap.size w2 wm := by rw [← hwm]; exact below_al w2 _
  have HBM := Aside0.mk (HB2.out.trans (hbm.mono HB2.out.size))
  have HRM := Aside0.mk (HRB.out.below hbm)
  obtain ⟨h, hh⟩ : ∃ h, h = w2.heap.size := ⟨_, rfl⟩
  have HGH := Aside0.mk (show g < h ∧ w.heap.size ≤ h by rw [hh]; exact ⟨HRB.out.lt, HB2.out.size⟩)
  rw [← hh] at HM ⊢
  rw [hwm]
  rw [HX.out] at HRM
  clear hwm hbm hh HO1 HB10 HRD1 hmk HRB HX
  go_loopw [23] (fun i wr => ∃ (k : Nat) (O : List G) (P : List Nat), k ≤ q ∧ i = .int .i64 k ∧ O.length = N ∧ P.length ≤ k ∧ (∀ p ∈ P, p < N) ∧ CRow (Value.int .u8) 0 wr g (ns O) ∧ CRow enc2 false wr h (marks N P) ∧ Below w.heap.size w wr) (fun i _ => q - (intOf i).toNat)
  case atStart => exact ⟨0, X, [], Nat.zero_le _, rfl, HXN.out.symm, by simp, by simp, HRM.out, HM.out, HBM.out⟩
  case round =>
    obtain ⟨k, O, P, hk, rfl, hOl, hPl, hPb, hO, hm, hb⟩ := hrel
    by_cases hkq : k < q
    · obtain ⟨ad, hA, hzm, hz0, hz1, hz2⟩ := nz_at (Kd.C_below HR1.out hb) k hkq
      subst hA
      have hzb := HZ.out _ hzm
      generalize z.getD k (0, 0, false) = zk at hzm hz0 hz1 hz2 hzb
      obtain ⟨z0, z1, z2⟩ := zk
      obtain ⟨⟨hz00, hz01⟩, ⟨hz10, hz11⟩⟩ := hzb
      obtain ⟨p, hpy⟩ : ∃ p : Nat, z0 % (N : Int) = (p : Int) := ⟨(z0 % (N : Int)).toNat, by have := Int.emod_nonneg z0 (show (N : Int) ≠ 0 by omega); omega⟩
      have hpN : p < N := by have := Int.emod_lt_of_pos z0 (show (0 : Int) < (N : Int) by omega); omega
      have hN0 : ¬ ((N : Int) = 0) := by omega
      have hbp : (0 : Int) ≤ (p : Int) ∧ (p : Int) < (N : Int) := by omega
      obtain ⟨y, hy⟩ : ∃ y, y = gOf (z1 % 64).toNat := ⟨_, rfl⟩
      have hzy : z1 % 64 = ((y.n : Nat) : Int) := by rw [hy, gOf_n _ (by omega)]; omega
      obtain ⟨wn, hwn⟩ : ∃ wn, wr.alloc (.cells #[.int .u8 z0, .int .u8 z1, .bool z2] 50) = wn := ⟨_, rfl⟩
      have hbn : Below wr.heap.size wr wn := by rw [← hwn]; exact below_al wr _
      have HBK := Aside0.mk (show wn.drew.heap[wr.heap.size]? = some (.cells #[.int .u8 z0, .int .u8 z1, .bool z2] 50 (0, 0)) by rw [← hwn]; exact heap_alloc_new wr _)
      have HGN := Aside0.mk (And.intro hO.lt hm.lt)
      have hOd := (hO.below hbn).drew
      have hmd := (hm.below hbn).drew
      have hbd := (hb.trans (hbn.mono hb.size)).drew
      have hc1 := hOd.cell p (by rw [ns_length]; omega)
      rw [ns_at] at hc1
      have hc2' : wn.drew.cell? ⟨wr.heap.size, 1, none⟩ = some (.int .u8 z1) := by unfold World.cell?; rw [HBK.out]; simp
      have hset := hOd.set p (by rw [ns_length]; omega) (((O.getD p 0 + y).n : Nat) : Int)
      rw [ns_set] at hset
      have hxor := xor_n (O.getD p 0) y
      rw [← hzy, ← Int.tmod_eq_emod_of_nonneg hz10] at hxor
      have HNO := Aside0.mk hset
      have HNM := Aside0.mk (hmd.other g p (.int .u8 (((O.getD p 0 + y).n : Nat) : Int)) (by have := HGH.out.1; omega))
      have HNB := Aside0.mk (hbd.setCell (p := ⟨g, p, none⟩) HGB.out (.int .u8 (((O.getD p 0 + y).n : Nat) : Int)))
      have hf1 := hOd.free p (by rw [ns_length]; omega)
      have HOL := Aside0.mk (show (O.set p (O.getD p 0 + y)).length = N by rw [List.length_set]; exact hOl)
      have HPB := Aside0.mk hPb
      have HWN := Aside0.mk hwn
      generalize O.getD p 0 = x at hc1 HNO HNM HNB hxor HOL
      clear hwn hbn hOd hmd hbd hset hO hm hb hy hzy hPb
      go_wp2_with fail
      rw [HWN.out]
      refine start_ (n := 10) (S := fun w' => w'.cell? ⟨g, p, none⟩ = some (.int .u8 (x.n : Nat)) ∧ w'.cell? ⟨wr.heap.size, 1, none⟩ = some (.int .u8 z1)) (ds := [9]) #[false, false, false, false, false, false, false, false, false, false] (by kernel_rfl) rfl rfl ⟨hc1, hc2'⟩ (fun hHeld => ?_)
      generalize wn.drew = wd at hc1 hc2' hf1 HNO HNM HNB HBK hHeld ⊢
      refine pure_ (i := 0) (N := some 33) (v := ?_) (a' := ?_) #[true, false, false, false, false, false, false, false, false, false] rfl rfl (by kernel_rfl) (fun _ _ _ h => h) (Or.inl ⟨by rfl, ?_⟩) ?_ ?_
      rotate_left
      · intro w'
        go_simp
        with_reducible rfl
      rotate_left
      · simp only [Act.put, List.setIfInBounds_toArray, List.set_cons_zero, List.set_cons_succ, i64_w, i32_w]
        rfl
      refine pure_ (i := 1) (N := some 34) (v := ?_) (a' := ?_) #[true, true, false, false, false, false, false, false, false, false] rfl rfl (by kernel_rfl) (fun _ _ _ h => h) (Or.inl ⟨by rfl, ?_⟩) ?_ ?_
      rotate_left
      · intro w'
        go_simp
        with_reducible rfl
      rotate_left
      · simp only [Act.put, List.setIfInBounds_toArray, List.set_cons_zero, List.set_cons_succ, i64_w, i32_w]
        rfl
      refine pure_ (i := 2) (N := some 35) (v := ?_) (a' := ?_) #[true, true, true, false, false, false, false, false, false, false] rfl rfl (by kernel_rfl) (fun _ _ _ h => h) (Or.inl ⟨by rfl, ?_⟩) ?_ ?_
      rotate_left
      · intro w'
        go_simp
        with_reducible rfl
      rotate_left
      · simp only [Act.put, List.setIfInBounds_toArray, List.set_cons_zero, List.set_cons_succ, i64_w, i32_w]
        rfl
      refine pure_ (i := 4) (N := some 37) (v := ?_) (a' := ?_) #[true, true, true, false, true, false, false, false, false, false] rfl rfl (by kernel_rfl) (fun _ _ _ h => h) (Or.inl ⟨by rfl, ?_⟩) ?_ ?_
      rotate_left
      · intro w'
        go_simp
        with_reducible rfl
      rotate_left
      · simp only [Act.put, List.setIfInBounds_toArray, List.set_cons_zero, List.set_cons_succ, i64_w, i32_w]
        rfl
      refine take_ (i := 3) (N := some 36) (v := ?_) (a' := ?_) #[true, true, true, true, true, false, false, false, false, false] rfl rfl (by kernel_rfl) (fun _ _ _ h => h) (Or.inl ⟨by rfl, ?_⟩) hHeld ?_ ?_
      rotate_left
      · rintro w' ⟨s0, s1⟩
        go_simp
        with_reducible rfl
      rotate_left
      · simp only [Act.put, List.setIfInBounds_toArray, List.set_cons_zero, List.set_cons_succ, i64_w, i32_w]
        rfl
      refine take_ (i := 5) (N := some 38) (v := ?_) (a' := ?_) #[true, true, true, true, true, true, false, false, false, false] rfl rfl (by kernel_rfl) (fun _ _ _ h => h) (Or.inl ⟨by rfl, ?_⟩) hHeld ?_ ?_
      rotate_left
      · rintro w' ⟨s0, s1⟩
        go_simp
        with_reducible rfl
      rotate_left
      · simp only [Act.put, List.setIfInBounds_toArray, List.set_cons_zero, List.set_cons_succ, i64_w, i32_w]
        rfl
      refine pure_ (i := 6) (N := some 39) (v := ?_) (a' := ?_) #[true, true, true, true, true, true, true, false, false, false] rfl rfl (by kernel_rfl) (fun _ _ _ h => h) (Or.inl ⟨by rfl, ?_⟩) ?_ ?_
      rotate_left
      · intro w'
        go_simp
        with_reducible rfl
      rotate_left
      · simp only [Act.put, List.setIfInBounds_toArray, List.set_cons_zero, List.set_cons_succ, i64_w, i32_w]
        rfl
      refine pure_ (i := 7) (N := some 40) (v := ?_) (a' := ?_) #[true, true, true, true, true, true, true, true, false, false] rfl rfl (by kernel_rfl) (fun _ _ _ h => h) (Or.inl ⟨by rfl, ?_⟩) ?_ ?_
      rotate_left
      · intro w'
        go_simp
        with_reducible rfl
      rotate_left
      · simp only [Act.put, List.setIfInBounds_toArray, List.set_cons_zero, List.set_cons_succ, i64_w, i32_w]
        rfl
      refine pure_ (i := 8) (N := some 41) (v := ?_) (a' := ?_) #[true, true, true, true, true, true, true, true, true, false] rfl rfl (by kernel_rfl) (fun _ _ _ h => h) (Or.inl ⟨by rfl, ?_⟩) ?_ ?_
      rotate_left
      · intro w'
        go_simp
        with_reducible rfl
      rotate_left
      · simp only [Act.put, List.setIfInBounds_toArray, List.set_cons_zero, List.set_cons_succ, i64_w, i32_w]
        rfl
      refine last_ (i := 9) (N := none) #[true, true, true, true, true, true, true, true, true, true] rfl rfl (by kernel_rfl) (by decide) (fun K hK => ?_)
      refine skip_ (w1 := ?_) (by rfl) rfl ?_ ?_
      rotate_left
      · go_simp
        rfl
      refine hK.out _ _ ?_
      clear hK K
      refine done_ (by kernel_rfl) ?_
      have hez : (wd.setCell ⟨g, p, none⟩ (.int .u8 (((x + y).n : Nat) : Int))).cell? ⟨wr.heap.size, 2, none⟩ = some (.bool z2) := by
        rw [World.cell?_setCell_other _ _ _ _ (by intro e; have := HGN.out.1; cases e; omega)]
        unfold World.cell?
        rw [HBK.out]
        simp
      generalize wd.setCell ⟨g, p, none⟩ (.int .u8 (((x + y).n : Nat) : Int)) = w7 at HNO HNM HNB hez ⊢
      have hcm := HNM.out.cell p (by rw [marks_length]; exact hpN)
      have hfm := HNM.out.free p (by rw [marks_length]; exact hpN)
      have hset2 := HNM.out.set p (by rw [marks_length]; exact hpN) true
      rw [marks_set _ _ _ hpN] at hset2
      have HNM2 := Aside0.mk hset2
      have HNO2 := Aside0.mk (HNO.out.other h p (enc2 true) (by have := HGH.out.1; omega))
      have HNB2 := Aside0.mk (HNB.out.setCell (p := ⟨h, p, none⟩) HGH.out.2 (enc2 true))
      change w7.cell? ⟨h, p, none⟩ = some (.int .i64 (if (marks N P).getD p false then 2 else 0)) at hcm
      generalize (if (marks N P).getD p false = true then (2 : Int) else 0) = cm at hcm
      have HE2 := Aside0.mk (show enc2 true = .int .i64 2 from rfl)
      clear hxor hset2 hc1 hc2' hf1
      cases z2 with
      | true =>
        go_wp2_with fail
        go_roundw
        case rel =>
          refine ⟨k + 1, _, P ++ [p], by omega, by go_num, HOL.out, by simp; omega, fun j hj => ?_, HNO2.out, HNM2.out, HNB2.out⟩
          rcases List.mem_append.1 hj with h1 | h1
          · exact HPB.out j h1
          · simp at h1
            omega
        case measure => simp [intOf]; omega
      | false =>
        go_wp2_with fail
        go_roundw
        case rel => exact ⟨k + 1, _, P, by omega, by go_num, HOL.out, by omega, HPB.out, HNO.out, HNM.out, HNB.out⟩
        case measure => simp [intOf]; omega
    · have hkn : ¬ ((k : Int) < (q : Int)) := by omega
      have HOL := Aside0.mk hOl
      have HPB := Aside0.mk hPb
      have HO := Aside0.mk hO
      have HM := Aside0.mk hm
      have HB := Aside0.mk hb
      have HRW := Aside0.mk (HR.out.below hb)
      have HPL := Aside0.mk (Nat.le_trans hPl hk)
      obtain ⟨wz, rfl⟩ : ∃ x, x = wr := ⟨wr, rfl⟩
      clear hOl hPb hO hm hb hPl
      go_wp2_with fail
      go_loopw [12, 13, 50] (fun va vb i wr => ∃ p : Nat, p ≤ N ∧ i = .int .i64 p ∧ Si wz.heap.size wz wr va vb (is (erK P p)) (is (errK O P X p))) (fun _ _ i _ => N - (intOf i).toNat)
      case atStart => exact ⟨0, Nat.zero_le _, rfl, World.ownsRow_nil _ _ _ _, World.ownsRow_nil _ _ _ _, (fun k hk => by simp [Value.ownBlock] at hk), Below.refl _ _⟩
      case round =>
        obtain ⟨p, hp, rfl, hst⟩ := hrel
        have HST := Aside0.mk hst
        have hOm := HO.out.below (hst.w.mono (Nat.le_refl _))
        have hMm := HM.out.below (hst.w.mono (Nat.le_refl _))
        have hXm := HRW.out.below (hst.w.mono (Nat.le_refl _))
        have HES := Aside0.mk (erK_succ P p)
        have HKS := Aside0.mk (errK_succ O P X p)
        by_cases hpN : p < N
        · have hcm := hMm.cell p (by rw [marks_length]; exact hpN)
          rw [marks_at _ _ _ hpN] at hcm
          have hbp : (0 : Int) ≤ (p : Int) ∧ (p : Int) < (N : Int) := by omega
          have HL1 := Aside0.mk (show ((is (erK P p)).length + 1) * 8 ≤ 140737488355328 by rw [is_length]; have := List.length_filter_le (fun i => decide (i ∈ P)) (List.range p); rw [List.length_range] at this; unfold erK; omega)
          have HL2 := Aside0.mk (show ((is (errK O P X p)).length + 1) * 8 ≤ 140737488355328 by rw [is_length]; have := List.length_filter_le (errF O P X) (List.range p); rw [List.length_range] at this; unfold errK; omega)
          have HSZ := Aside0.mk hst.w.size
          by_cases hin : p ∈ P
          · replace hcm : wr.cell? ⟨h, p, none⟩ = some (.int .i64 2) := by rw [hcm, decide_eq_true hin]; rfl
            have HEA := Aside0.mk (show is (erK P (p + 1)) = is (erK P p) ++ [(p : Int)] by rw [HES.out, if_pos (by simpa using hin)]; exact is_snoc1 _ _)
            have HEB := Aside0.mk (show errK O P X (p + 1) = errK O P X p by rw [HKS.out]; simp [errF, hin])
            clear hst hOm hMm hXm hin
            go_wp2_with (first | (at_builtin; refine print_append_num (w0 := wr) wz.heap.size rfl _ _ 26 3 .i64 8 rfl Tryd.underlying26 info_int (by decide) u12 (is (erK P p)) _ rfl rfl HST.out.a (Below.refl _ _) HSZ.out HL1.out ?_; intro v1 w1 hown hB1 hg hat; have HS2 := Aside0.mk (HST.out.left hown hB1 hg hat); clear hown hB1 hg hat))
            go_roundw
            case rel => exact ⟨p + 1, by omega, by go_num, by rw [HEA.out, HEB.out]; exact HS2.out⟩
            case measure => simp [intOf]; omega
          · replace hcm : wr.cell? ⟨h, p, none⟩ = some (.int .i64 0) := by rw [hcm, decide_eq_false hin]; rfl
            have HEA := Aside0.mk (show erK P (p + 1) = erK P p by rw [HES.out, if_neg (by simpa using hin)]; simp)
            have hc1 := hOm.drew.cell p (by have := HOL.out; rw [ns_length]; omega)
            have hc2' := hXm.drew.cell p (by have := HXN.out; rw [ns_length]; omega)
            rw [ns_at] at hc1 hc2'
            by_cases heq : O.getD p 0 = X.getD p 0
            · have HEB := Aside0.mk (show errK O P X (p + 1) = errK O P X p by rw [HKS.out, show errF O P X p = false by unfold errF; rw [decide_eq_false (show ¬ (O.getD p 0 ≠ X.getD p 0) from fun h => h heq), Bool.and_false]]; simp)
              have HSD := Aside0.mk (hst.below (Nat.le_refl _) (Below.refl _ wr).drew)
              rw [← heq] at hc2'
              have hne : (((((O.getD p 0).n : Nat) : Int) == (((O.getD p 0).n : Nat) : Int))) = true := by simp
              clear heq hst hOm hMm hXm hin
              generalize O.getD p 0 = x at hc1 hc2' hne
              obtain ⟨y, hy⟩ : ∃ y : G, y = x := ⟨x, rfl⟩
              have HY := Aside0.mk hy
              rw [← hy] at hc2'
              clear hy
              go_wp2_with fail
              refine start_ (n := 10) (S := fun w' => w'.cell? ⟨g, p, none⟩ = some (.int .u8 (x.n : Nat)) ∧ w'.cell? ⟨gw, p, none⟩ = some (.int .u8 (y.n : Nat))) (ds := []) #[false, false, false, false, false, false, false, false, false, false] (by kernel_rfl) rfl rfl ⟨hc1, hc2'⟩ (fun hHeld => ?_)
              refine pure_ (i := 0) (N := some 64) (v := ?_) (a' := ?_) #[true, false, false, false, false, false, false, false, false, false] rfl rfl (by kernel_rfl) (fun _ _ _ h => h) (Or.inl ⟨by rfl, ?_⟩) ?_ ?_
              rotate_left
              · intro w'
                go_simp
                with_reducible rfl
              rotate_left
              · simp only [Act.put, List.setIfInBounds_toArray, List.set_cons_zero, List.set_cons_succ, i64_w, i32_w]
                rfl
              refine pure_ (i := 1) (N := some 65) (v := ?_) (a' := ?_) #[true, true, false, false, false, false, false, false, false, false] rfl rfl (by kernel_rfl) (fun _ _ _ h => h) (Or.inl ⟨by rfl, ?_⟩) ?_ ?_
              rotate_left
              · intro w'
                go_simp
                with_reducible rfl
              rotate_left
              · simp only [Act.put, List.setIfInBounds_toArray, List.set_cons_zero, List.set_cons_succ, i64_w, i32_w]
                rfl
              refine pure_ (i := 2) (N := some 66) (v := ?_) (a' := ?_) #[true, true, true, false, false, false, false, false, false, false] rfl rfl (by kernel_rfl) (fun _ _ _ h => h) (Or.inl ⟨by rfl, ?_⟩) ?_ ?_
              rotate_left
              · intro w'
                go_simp
                with_reducible rfl
              rotate_left
              · simp only [Act.put, List.setIfInBounds_toArray, List.set_cons_zero, List.set_cons_succ, i64_w, i32_w]
                rfl
              refine pure_ (i := 4) (N := some 68) (v := ?_) (a' := ?_) #[true, true, true, false, true, false, false, false, false, false] rfl rfl (by kernel_rfl) (fun _ _ _ h => h) (Or.inl ⟨by rfl, ?_⟩) ?_ ?_
              rotate_left
              · intro w'
                go_simp
                with_reducible rfl
              rotate_left
              · simp only [Act.put, List.setIfInBounds_toArray, List.set_cons_zero, List.set_cons_succ, i64_w, i32_w]
                rfl
              refine pure_ (i := 5) (N := some 69) (v := ?_) (a' := ?_) #[true, true, true, false, true, true, false, false, false, false] rfl rfl (by kernel_rfl) (fun _ _ _ h => h) (Or.inl ⟨by rfl, ?_⟩) ?_ ?_
              rotate_left
              · intro w'
                go_simp
                with_reducible rfl
              rotate_left
              · simp only [Act.put, List.setIfInBounds_toArray, List.set_cons_zero, List.set_cons_succ, i64_w, i32_w]
                rfl
              refine pure_ (i := 6) (N := some 70) (v := ?_) (a' := ?_) #[true, true, true, false, true, true, true, false, false, false] rfl rfl (by kernel_rfl) (fun _ _ _ h => h) (Or.inl ⟨by rfl, ?_⟩) ?_ ?_
              rotate_left
              · intro w'
                go_simp
                with_reducible rfl
              rotate_left
              · simp only [Act.put, List.setIfInBounds_toArray, List.set_cons_zero, List.set_cons_succ, i64_w, i32_w]
                rfl
              refine take_ (i := 3) (N := some 67) (v := ?_) (a' := ?_) #[true, true, true, true, true, true, true, false, false, false] rfl rfl (by kernel_rfl) (fun _ _ _ h => h) (Or.inl ⟨by rfl, ?_⟩) hHeld ?_ ?_
              rotate_left
              · rintro w' ⟨s0, s1⟩
                go_simp
                with_reducible rfl
              rotate_left
              · simp only [Act.put, List.setIfInBounds_toArray, List.set_cons_zero, List.set_cons_succ, i64_w, i32_w]
                rfl
              refine take_ (i := 7) (N := some 71) (v := ?_) (a' := ?_) #[true, true, true, true, true, true, true, true, false, false] rfl rfl (by kernel_rfl) (fun _ _ _ h => h) (Or.inl ⟨by rfl, ?_⟩) hHeld ?_ ?_
              rotate_left
              · rintro w' ⟨s0, s1⟩
                go_simp
                with_reducible rfl
              rotate_left
              · simp only [Act.put, List.setIfInBounds_toArray, List.set_cons_zero, List.set_cons_succ, i64_w, i32_w]
                rfl
              refine pure_ (i := 8) (N := some 72) (v := ?_) (a' := ?_) #[true, true, true, true, true, true, true, true, true, false] rfl rfl (by kernel_rfl) (fun _ _ _ h => h) (Or.inl ⟨by rfl, ?_⟩) ?_ ?_
              rotate_left
              · intro w'
                go_simp
                with_reducible rfl
              rotate_left
              · simp only [Act.put, List.setIfInBounds_toArray, List.set_cons_zero, List.set_cons_succ, i64_w, i32_w]
                rfl
              refine pure_ (i := 9) (N := some 63) (v := ?_) (a' := ?_) #[true, true, true, true, true, true, true, true, true, true] rfl rfl (by kernel_rfl) (fun _ _ _ h => h) (Or.inl ⟨by rfl, ?_⟩) ?_ ?_
              rotate_left
              · intro w'
                go_simp
                with_reducible rfl
              rotate_left
              · simp only [Act.put, List.setIfInBounds_toArray, List.set_cons_zero, List.set_cons_succ, i64_w, i32_w]
                rfl
              refine done_ (by kernel_rfl) ?_
              rw [HY.out] at *
              go_wp2_with fail
              go_roundw
              case rel => exact ⟨p + 1, by omega, by go_num, by rw [HEA.out, HEB.out]; exact HSD.out⟩
              case measure => simp [intOf]; omega
            · have hef : errF O P X p = true := by unfold errF; rw [decide_eq_true hin, Bool.true_and]; exact decide_eq_true heq
              have HEB := Aside0.mk (show is (errK O P X (p + 1)) = is (errK O P X p) ++ [(p : Int)] by rw [HKS.out, hef, if_pos rfl]; exact is_snoc1 _ _)
              have HSD := Aside0.mk (hst.below (Nat.le_refl _) (Below.refl _ wr).drew)
              have hne : ((((O.getD p 0).n : Nat) : Int) == (((X.getD p 0).n : Nat) : Int)) = false := by
                rw [beq_eq_false_iff_ne]
                intro e
                exact heq (G.ext (by omega))
              clear heq hst hOm hMm hXm hin hef
              generalize O.getD p 0 = x at hc1 hne
              generalize X.getD p 0 = y at hc2' hne
              go_wp2_with fail
              refine start_ (n := 10) (S := fun w' => w'.cell? ⟨g, p, none⟩ = some (.int .u8 (x.n : Nat)) ∧ w'.cell? ⟨gw, p, none⟩ = some (.int .u8 (y.n : Nat))) (ds := []) #[false, false, false, false, false, false, false, false, false, false] (by kernel_rfl) rfl rfl ⟨hc1, hc2'⟩ (fun hHeld => ?_)
              refine pure_ (i := 0) (N := some 64) (v := ?_) (a' := ?_) #[true, false, false, false, false, false, false, false, false, false] rfl rfl (by kernel_rfl) (fun _ _ _ h => h) (Or.inl ⟨by rfl, ?_⟩) ?_ ?_
              rotate_left
              · intro w'
                go_simp
                with_reducible rfl
              rotate_left
              · simp only [Act.put, List.setIfInBounds_toArray, List.set_cons_zero, List.set_cons_succ, i64_w, i32_w]
                rfl
              refine pure_ (i := 1) (N := some 65) (v := ?_) (a' := ?_) #[true, true, false, false, false, false, false, false, false, false] rfl rfl (by kernel_rfl) (fun _ _ _ h => h) (Or.inl ⟨by rfl, ?_⟩) ?_ ?_
              rotate_left
              · intro w'
                go_simp
                with_reducible rfl
              rotate_left
              · simp only [Act.put, List.setIfInBounds_toArray, List.set_cons_zero, List.set_cons_succ, i64_w, i32_w]
                rfl
              refine pure_ (i := 2) (N := some 66) (v := ?_) (a' := ?_) #[true, true, true, false, false, false, false, false, false, false] rfl rfl (by kernel_rfl) (fun _ _ _ h => h) (Or.inl ⟨by rfl, ?_⟩) ?_ ?_
              rotate_left
              · intro w'
                go_simp
                with_reducible rfl
              rotate_left
              · simp only [Act.put, List.setIfInBounds_toArray, List.set_cons_zero, List.set_cons_succ, i64_w, i32_w]
                rfl
              refine pure_ (i := 4) (N := some 68) (v := ?_) (a' := ?_) #[true, true, true, false, true, false, false, false, false, false] rfl rfl (by kernel_rfl) (fun _ _ _ h => h) (Or.inl ⟨by rfl, ?_⟩) ?_ ?_
              rotate_left
              · intro w'
                go_simp
                with_reducible rfl
              rotate_left
              · simp only [Act.put, List.setIfInBounds_toArray, List.set_cons_zero, List.set_cons_succ, i64_w, i32_w]
                rfl
              refine pure_ (i := 5) (N := some 69) (v := ?_) (a' := ?_) #[true, true, true, false, true, true, false, false, false, false] rfl rfl (by kernel_rfl) (fun _ _ _ h => h) (Or.inl ⟨by rfl, ?_⟩) ?_ ?_
              rotate_left
              · intro w'
                go_simp
                with_reducible rfl
              rotate_left
              · simp only [Act.put, List.setIfInBounds_toArray, List.set_cons_zero, List.set_cons_succ, i64_w, i32_w]
                rfl
              refine pure_ (i := 6) (N := some 70) (v := ?_) (a' := ?_) #[true, true, true, false, true, true, true, false, false, false] rfl rfl (by kernel_rfl) (fun _ _ _ h => h) (Or.inl ⟨by rfl, ?_⟩) ?_ ?_
              rotate_left
              · intro w'
                go_simp
                with_reducible rfl
              rotate_left
              · simp only [Act.put, List.setIfInBounds_toArray, List.set_cons_zero, List.set_cons_succ, i64_w, i32_w]
                rfl
              refine take_ (i := 3) (N := some 67) (v := ?_) (a' := ?_) #[true, true, true, true, true, true, true, false, false, false] rfl rfl (by kernel_rfl) (fun _ _ _ h => h) (Or.inl ⟨by rfl, ?_⟩) hHeld ?_ ?_
              rotate_left
              · rintro w' ⟨s0, s1⟩
                go_simp
                with_reducible rfl
              rotate_left
              · simp only [Act.put, List.setIfInBounds_toArray, List.set_cons_zero, List.set_cons_succ, i64_w, i32_w]
                rfl
              refine take_ (i := 7) (N := some 71) (v := ?_) (a' := ?_) #[true, true, true, true, true, true, true, true, false, false] rfl rfl (by kernel_rfl) (fun _ _ _ h => h) (Or.inl ⟨by rfl, ?_⟩) hHeld ?_ ?_
              rotate_left
              · rintro w' ⟨s0, s1⟩
                go_simp
                with_reducible rfl
              rotate_left
              · simp only [Act.put, List.setIfInBounds_toArray, List.set_cons_zero, List.set_cons_succ, i64_w, i32_w]
                rfl
              refine pure_ (i := 8) (N := some 72) (v := ?_) (a' := ?_) #[true, true, true, true, true, true, true, true, true, false] rfl rfl (by kernel_rfl) (fun _ _ _ h => h) (Or.inl ⟨by rfl, ?_⟩) ?_ ?_
              rotate_left
              · intro w'
                go_simp
                with_reducible rfl
              rotate_left
              · simp only [Act.put, List.setIfInBounds_toArray, List.set_cons_zero, List.set_cons_succ, i64_w, i32_w]
                rfl
              refine pure_ (i := 9) (N := some 63) (v := ?_) (a' := ?_) #[true, true, true, true, true, true, true, true, true, true] rfl rfl (by kernel_rfl) (fun _ _ _ h => h) (Or.inl ⟨by rfl, ?_⟩) ?_ ?_
              rotate_left
              · intro w'
                go_simp
                with_reducible rfl
              rotate_left
              · simp only [Act.put, List.setIfInBounds_toArray, List.set_cons_zero, List.set_cons_succ, i64_w, i32_w]
                rfl
              refine done_ (by kernel_rfl) ?_
              go_wp2_with (first | (at_builtin; refine print_append_num (w0 := wr.drew) wz.heap.size rfl _ _ 26 3 .i64 8 rfl Tryd.underlying26 info_int (by decide) u13 (is (errK O P X p)) _ rfl rfl HSD.out.b (Below.refl _ _) HSZ.out HL2.out ?_; intro v1 w1 hown hB1 hg hat; have HS2 := Aside0.mk (HSD.out.right hown hB1 hg hat); clear hown hB1 hg hat))
              go_roundw
              case rel => exact ⟨p + 1, by omega, by go_num, by rw [HEA.out, HEB.out]; exact HS2.out⟩
              case measure => simp [intOf]; omega
        · have hpn : ¬ ((p : Int) < (N : Int)) := by omega
          obtain rfl : p = N := by omega
          have HOP := Aside0.mk (show errK O P X p = errL O (erK P p) X by rw [← HOL.out, errK_all, errL_erK])
          obtain ⟨AE, cE, hvE, hcE, hrE⟩ := Kd.R_reads hst.a.toR
          obtain ⟨AC, cC, hvC, hcC, hrC⟩ := Kd.R_reads hst.b.toR
          rw [is_length] at hvE hcE hrE hvC hcC hrC
          subst hvE hvC
          rw [HOP.out] at hcC hrC
          have HQE := Aside0.mk (show (erK P p).length ≤ q from Nat.le_trans (nodup_len _ _ (erK_nodup P p) (fun i hi => (mem_erK.1 hi).2)) HPL.out)
          have HFIN := Aside0.mk (And.intro hOm (And.intro hrE (And.intro hrC (HB.out.trans (hst.w.mono HB.out.size)))))
          have HCE := Aside0.mk (And.intro hcE hcC)
          clear hst hOm hMm hXm hrE hrC hcE hcC
          go_wp2
          go_ret3
          rw [HOP.out]
          exact ⟨g, cg, AE, cE, AC, cC, O, erK P p, rfl, HGB.out, hcg, HOL.out, HQE.out, HCE.out.1, HCE.out.2, erK_nodup P p, fun i hi => (mem_erK.1 hi).1, HFIN.out.1, HFIN.out.2.1, HFIN.out.2.2.1, HFIN.out.2.2.2⟩
end Go.Proofs.YtlifghomejdhnaaDoor
