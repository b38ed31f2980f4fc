/- The law SolomonSums: sums and multiples of code words, and code words behind zeros, are code words. -/
import Derived.Test.YtlifghomejdhnaaDoorCode
import Derived.Test.YtlifghomejdhnaaDoorAwak
set_option linter.unusedVariables false
set_option linter.unusedSimpArgs false
namespace Go.Proofs.YtlifghomejdhnaaDoor
open Go.RowKit Go.Shelf Go.Proofs.YtlifghomejdhnaaDoorW.PrintWords Go.Proofs.YtlifghomejdhnaaDoorW.PrintLast Go.Proofs.YtlifghomejdhnaaDoorW.PrintMore Go.Proofs.YtlifghomejdhnaaDoor.Q Go.Proofs.YtlifghomejdhnaaDoor.Gf

def sumL (A B : List G) (k : Nat) : List G := (List.range k).map fun i => A.getD i 0 + B.getD i 0
def scaL (A : List G) (f : G) (k : Nat) : List G := (List.range k).map fun i => A.getD i 0 * f
theorem getD_map_range (f : Nat → G) (k i : Nat) (h : i < k) : ((List.range k).map f).getD i 0 = f i := by
  rw [List.getD_eq_getElem?_getD, List.getElem?_map, List.getElem?_range h]
  rfl
theorem sumL_length (A B : List G) (k : Nat) : (sumL A B k).length = k := by simp [sumL]
theorem scaL_length (A : List G) (f : G) (k : Nat) : (scaL A f k).length = k := by simp [scaL]
theorem sumL_succ (A B : List G) (k : Nat) : ns (sumL A B (k + 1)) = ns (sumL A B k) ++ [((A.getD k 0 + B.getD k 0).n : Int)] := by
  unfold sumL ns
  rw [List.range_succ, List.map_append, List.map_append]
  rfl
theorem scaL_succ (A : List G) (f : G) (k : Nat) : ns (scaL A f (k + 1)) = ns (scaL A f k) ++ [((A.getD k 0 * f).n : Int)] := by
  unfold scaL ns
  rw [List.range_succ, List.map_append, List.map_append]
  rfl
theorem code_sum {A B : List G} (hl : B.length = A.length) (ha : Code A) (hb : Code B) : Code (sumL A B A.length) := by
  intro j hj
  have h1 := ha j hj
  have h2 := hb j hj
  rw [syn_sm] at h1 h2 ⊢
  rw [sumL_length, sm_congr (g := fun p => loc A.length p ^ (j + 1) * A.getD p 0 + loc A.length p ^ (j + 1) * B.getD p 0) (fun p hp => by rw [show (sumL A B A.length).getD p 0 = _ from getD_map_range _ _ p hp]; grind), sm_add, h1]
  rw [hl] at h2
  rw [h2]
  rfl
theorem code_sca {A : List G} (f : G) (ha : Code A) : Code (scaL A f A.length) := by
  intro j hj
  have h1 := ha j hj
  rw [syn_sm] at h1 ⊢
  rw [scaL_length, sm_congr (g := fun p => f * (loc A.length p ^ (j + 1) * A.getD p 0)) (fun p hp => by rw [show (scaL A f A.length).getD p 0 = _ from getD_map_range _ _ p hp]; grind), sm_mul, h1]
  grind
theorem horner_zeros (x : G) (L : List G) (z : Nat) : horner x (L ++ List.replicate z 0) = horner x L := by
  unfold horner
  rw [List.foldr_append]
  congr 1
  induction z with
  | zero => rfl
  | succ z ih =>
    rw [List.replicate_succ, List.foldr_cons, ih]
    grind
theorem code_zeros {A : List G} (z : Nat) (ha : Code A) : Code (List.replicate z 0 ++ A) := by
  intro j hj
  have h1 := ha j hj
  unfold syn at h1 ⊢
  rw [List.reverse_append, List.reverse_replicate, horner_zeros, h1]
theorem ns_zeros (z : Nat) : ns (List.replicate z 0) = List.replicate z 0 := by
  unfold ns
  rw [List.map_replicate]
  rfl
/-- An element that is put behind an owned row, read from a literal that stands somewhere. -/
theorem own_append_step {P : Program} {ops : Array Oper} {o : Oper} {a : Act} {Q : Exit → Act → World → Prop} {Kc : Act → World → Prop} {W : World} (base : Nat) (hw : Region.wanted o (yielded ops a.tmps) = true) (s x : Operand) (t e : TypeId) (k : IntKind) (bytes : Nat)
    (ho : o.op = .call { callee := .builtin .append, args := #[s, x], argTypes := #[t, t] })
    (ht : P.underlying t = some (.slice e)) (hinfo : (P.info? e).map (fun i => (i.zero, i.size, i.bytes)) = some (some (.int k 0), 1, bytes)) (hb0 : 0 < bytes)
    (v : Value) (xs : List Int) (y : Int) (b : Nat) (hs : a.eval s = v) (hx : a.eval x = .slice (some ⟨b, 0, none⟩) 1 1)
    (HO : Own k e W base v xs) (hcell : W.cell? ⟨b, 0, none⟩ = some (.int k y)) (hbase : base ≤ W.heap.size) (hl : (xs.length + 1) * bytes ≤ 140737488355328)
    (h : ∀ v1 w1, Own k e w1 base v1 (xs ++ [y]) → Below base W w1 → W.grownBy w1 v.ownBlock → (v1.ownBlock = v.ownBlock ∨ ∃ b, v1.ownBlock = some b ∧ W.heap.size ≤ b) → Kc (a.put o.dst v1) w1) :
    if Region.wanted o (yielded ops a.tmps) = true then Oper.wp P o a W Kc Q else Kc (a.put o.dst undef) W := by
  have HR : Kd.C (Kd.int k) W (some ⟨b, 0, none⟩) 1 [y] := Kd.C_of_reads (d := (0 : Int)) (h1 := fun _ => rfl) ⟨rfl, by decide, fun _ => ⟨_, rfl, fun j hj => by
    obtain rfl : j = 0 := by omega
    exact hcell⟩⟩
  refine Kd.R_append_rows_step (w0 := W) (Kd.int k) base hw s x t e (.int k 0) bytes ho ht hinfo rfl (show 0 < 1 by decide) hb0 v xs [y] (some ⟨b, 0, none⟩) 1 1 (fun _ => True) (fun _ => False) hs hx (Kd.R_of_own (h1 := fun _ => rfl) (ok := fun _ => True) HO (fun _ _ => trivial)) HR ?_ (fun _ hk => hk.elim) (fun _ _ => trivial) (Below.refl _ _) hbase hl ?_
  · intro x cs hx
    exact hx
  · intro v1 w1 hR hB hg hat
    exact h v1 w1 (Kd.own_of_R (enc := Value.int k) (h1 := fun _ => rfl) hR) hB hg hat
/-- Two rows that grow side by side. -/
structure St (B : Nat) (wd W : World) (va vb : Value) (L1 L2 : List Int) : Prop where
  a : Own .u8 5 W B va L1
  b : Own .u8 5 W B vb L2
  ap : ∀ k, va.ownBlock = some k → vb.ownBlock ≠ some k
  w : Below B wd W
theorem St.below {B : Nat} {wd W W' : World} {va vb : Value} {L1 L2 : List Int} (h : St B wd W va vb L1 L2) (hB : B ≤ wd.heap.size) (hb : Below W.heap.size W W') : St B wd W' va vb L1 L2 :=
  ⟨h.a.below hb, h.b.below hb, h.ap, h.w.trans (hb.mono (Nat.le_trans hB h.w.size))⟩
theorem St.left {B : Nat} {wd W W' : World} {va vb v1 : Value} {L1 L2 L : List Int} (h : St B wd W va vb L1 L2) (ho : Own .u8 5 W' B v1 L) (hb : Below B W W') (hg : W.grownBy W' va.ownBlock) (hat : v1.ownBlock = va.ownBlock ∨ ∃ b, v1.ownBlock = some b ∧ W.heap.size ≤ b) : St B wd W' v1 vb L L2 := by
  refine ⟨ho, own_other h.b hg ?_, fun k hk hk2 => ?_, h.w.trans hb⟩
  · cases hv : vb.ownBlock with
    | none => exact .inl rfl
    | some k => exact .inr fun hk => h.ap k hk.symm hv
  · rcases hat with e | ⟨b, e, hb⟩
    · exact h.ap k (e ▸ hk) hk2
    · rw [e] at hk
      obtain rfl := Option.some.inj hk
      have := own_lt h.b _ hk2
      omega
theorem St.right {B : Nat} {wd W W' : World} {va vb v1 : Value} {L1 L2 L : List Int} (h : St B wd W va vb L1 L2) (ho : Own .u8 5 W' B v1 L) (hb : Below B W W') (hg : W.grownBy W' vb.ownBlock) (hat : v1.ownBlock = vb.ownBlock ∨ ∃ b, v1.ownBlock = some b ∧ W.heap.size ≤ b) : St B wd W' va v1 L1 L := by
  refine ⟨own_other h.a hg ?_, ho, fun k hk hk2 => ?_, h.w.trans hb⟩
  · cases hv : va.ownBlock with
    | none => exact .inl rfl
    | some k => exact .inr fun hk => h.ap k hv hk.symm
  · rcases hat with e | ⟨b, e, hb⟩
    · exact h.ap k hk (e ▸ hk2)
    · rw [e] at hk2
      obtain rfl := Option.some.inj hk2
      have := own_lt h.a _ hk
      omega
theorem lit_cell0 (W : World) (x : Value) (t : TypeId) : (W.alloc (.cells #[x] t)).cell? ⟨W.heap.size, 0, none⟩ = some x := by
  have := heap_alloc_new W (.cells #[x] t)
  unfold World.cell?
  rw [this]
  simp
theorem own_crow' {k : IntKind} {e : TypeId} {W : World} {base : Nat} {v : Value} {l : List Int} {n : Nat} (h : Own k e W base v l) (hn : l.length = n) (hl : 0 < n) : ∃ g c, v = .slice (some ⟨g, 0, none⟩) n c ∧ n ≤ c ∧ base ≤ g ∧ CRow (Value.int k) 0 W g l := by
  subst hn
  exact own_crow h hl
/-- Valid says yes of a code word, in every later world. -/
theorem valid_true (g c L : Nat) (R : List G) (wL : World) (hl : R.length = L) (h5 : 5 ≤ L) (h63 : L ≤ 63) (hc : L ≤ c) (hcode : Code R) (hp : PW wL) (hrow : CRow (Value.int .u8) 0 wL g (ns R)) (W' : World) (hb : Below wL.heap.size wL W') :
    Calls Tryd.prog 16 #[.slice (some ⟨g, 0, none⟩) L c] W' fun e w' => e = .returned (.bool true) ∧ Below wL.heap.size wL w' := by
  subst hl
  refine (Valid_ok (some ⟨g, 0, none⟩) c R W' (hp.below hb) (by have := (hrow.below hb).reads (by rw [ns_length]; omega); rwa [ns_length] at this) hc (by omega) h63).mono ?_
  rintro e w' ⟨rfl, hb'⟩
  exact ⟨by rw [decide_eq_true hcode], hb.trans (hb'.mono hb.size)⟩
attribute [local go_sem] max2_int min2_int max_two min_two max_three min_three
set_option maxHeartbeats 16000000 in
set_option maxRecDepth 1000000 in
theorem sums_any (A0 : Option Addr) (c0 : Nat) (l0 : List Int) (A1 : Option Addr) (c1 : Nat) (l1 : List Int) (factor zeros : Int) (w : World) (hp : PW w) (hr0 : Kd.C (Kd.int .u8) w A0 l0.length l0) (hc0 : l0.length ≤ c0) (hl0 : l0.length ≤ 140737488351232) (hp0 : ∀ x ∈ l0, 0 ≤ x ∧ x < 256) (hr1 : Kd.C (Kd.int .u8) w A1 l1.length l1) (hc1 : l1.length ≤ c1) (hl1 : l1.length ≤ 140737488351232) (hp1 : ∀ x ∈ l1, 0 ≤ x ∧ x < 256) (hf0 : 0 ≤ factor) (hf1 : factor < 256) (hz0 : 0 ≤ zeros) (hz1 : zeros < 256) :
    Calls Tryd.prog 7 #[.slice A0 l0.length c0, .slice A1 l1.length c1, .int .u8 factor, .int .u8 zeros] w fun e w' => e = .returned (.bool true) ∧ Below w.heap.size w w' := by
  obtain ⟨n, hn⟩ : ∃ n, min (min l0.length l1.length) 59 = n := ⟨_, rfl⟩
  obtain ⟨mi, hmi⟩ : ∃ mi, min l0.length l1.length = mi := ⟨_, rfl⟩
  have hif1 : (if l1.length < l0.length then (l1.length : Int) else (l0.length : Int)) = (mi : Int) := by split <;> omega
  have hif2 : (if (59 : Int) < (mi : Int) then (59 : Int) else (mi : Int)) = (n : Int) := by split <;> omega
  have hn0 : n ≤ l0.length := by omega
  have hn1 : n ≤ l1.length := by omega
  have hn59 : n ≤ 59 := by omega
  have hnc0 : n ≤ c0 := by omega
  have hnc1 : n ≤ c1 := by omega
  have ht0 : (l0.take n).length = n := by rw [List.length_take]; omega
  have ht1 : (l1.take n).length = n := by rw [List.length_take]; omega
  obtain ⟨D0, hD0⟩ : ∃ D, D = dataG (l0.take n) := ⟨_, rfl⟩
  obtain ⟨D1, hD1⟩ : ∃ D, D = dataG (l1.take n) := ⟨_, rfl⟩
  obtain ⟨L, hL⟩ : ∃ L, L = D0.length + 4 := ⟨_, rfl⟩
  have hL1 : L = D1.length + 4 := by
    rw [hL, hD0, hD1]
    unfold dataG
    rw [ht0, ht1]
    split
    · rfl
    · simp only [mdG_length, List.length_take]; omega
  have hL5 : 5 ≤ L := by have := dataG_pos (l0.take n); rw [← hD0] at this; omega
  have hL63 : L ≤ 63 := by have := dataG_le (l0.take n); rw [← hD0] at this; omega
  have HC0 := coded_any A0 c0 (l0.take n) w hp (Kd.C_take hr0 hn0) (by rw [ht0]; exact hnc0) (by rw [ht0]; omega) (fun x hx => hp0 x (List.mem_of_mem_take hx))
  have hT1 : Kd.C (Kd.int .u8) w A1 (l1.take n).length (l1.take n) := Kd.C_take hr1 hn1
  have HC1 := fun (w' : World) (hb : Below w.heap.size w w') => coded_any A1 c1 (l1.take n) w' (hp.below hb) (Kd.C_below hT1 hb) (by rw [ht1]; exact hnc1) (by rw [ht1]; omega) (fun x hx => hp1 x (List.mem_of_mem_take hx))
  rw [ht0, ← hD0, ← hL] at HC0
  rw [ht1, ← hD1, ← hL1] at HC1
  replace HC0 := Aside0.mk HC0
  replace HC1 := Aside0.mk HC1
  have HP := Aside0.mk hp
  clear hr0 hp0 hp hr1 hp1 hT1 hD0 hD1 hL hL1 ht0 ht1 hn hmi
  go_enter Tryd.func7, Tryd.ntmps7
  go_wp2_with fail
  refine HC0.out.mono ?_
  rintro e w1 ⟨g0, k0, rfl, hg0, hk0, R0, hR0l, -, hR0c, hR0r, hb1⟩
  have HC1 := Aside0.mk (HC1.out w1 hb1)
  have HG0 := Aside0.mk hg0
  have HR0L := Aside0.mk hR0l
  have HR0C := Aside0.mk hR0c
  have HR0R := Aside0.mk hR0r
  have HB1 := Aside0.mk hb1
  clear hg0 hR0l hR0c hR0r hb1 HC0
  go_wp2_with fail
  refine HC1.out.mono ?_
  rintro e w2 ⟨g1, k1, rfl, hg1, hk1, R1, hR1l, -, hR1c, hR1r, hb2⟩
  have HG1 := Aside0.mk hg1
  have HR1L := Aside0.mk hR1l
  have HR1C := Aside0.mk hR1c
  have HR1R := Aside0.mk hR1r
  have HR0R := Aside0.mk (HR0R.out.below hb2)
  have HB2 := Aside0.mk (HB1.out.trans (hb2.mono HB1.out.size))
  have HP2 := Aside0.mk (HP.out.below HB2.out)
  clear hg1 hR1l hR1c hR1r hb2 HC1 HP
  obtain ⟨f, hf⟩ : ∃ f, f = gOf (factor % 64).toNat := ⟨_, rfl⟩
  have HF := Aside0.mk (show factor % 64 = ((f.n : Nat) : Int) by rw [hf, gOf_n _ (by omega)]; omega)
  clear hf
  go_wp2_with fail
  go_loopw [14, 15, 54] (fun va vb i wr => ∃ k : Nat, k ≤ L ∧ i = .int .i64 k ∧ St w2.heap.size w2 wr va vb (ns (sumL R0 R1 k)) (ns (scaL R0 f k))) (fun _ _ i _ => L - (intOf i).toNat)
  case atStart => exact ⟨0, Nat.zero_le _, rfl, World.ownsRow_nil _ _ _ _, World.ownsRow_nil _ _ _ _, (fun k hk => by simp [Value.ownBlock] at hk), Below.refl _ _⟩
  case round =>
    obtain ⟨k, hk, rfl, hst⟩ := hrel
    have HST := Aside0.mk hst
    have hB2 : w2.heap.size ≤ wr.heap.size := hst.w.size
    have hgl0 := HR0R.out.lt
    have hgl1 := HR1R.out.lt
    by_cases hkL : k < L
    · have hc0' := HR0R.out.cell k (by rw [ns_length, HR0L.out]; exact hkL)
      have hc1' := HR1R.out.cell k (by rw [ns_length, HR1L.out]; exact hkL)
      rw [ns_at] at hc0' hc1'
      have HSU := Aside0.mk (sumL_succ R0 R1 k)
      have HSC := Aside0.mk (scaL_succ R0 f k)
      have hxor := xor_n (R0.getD k 0) (R1.getD k 0)
      have HMU := Aside0.mk (Mul_any (R0.getD k 0) f wr (HP2.out.below (hst.w.mono (Nat.le_refl _))))
      rw [← HF.out] at HMU
      generalize R0.getD k 0 = x at hc0' hxor HSU HSC HMU
      generalize R1.getD k 0 = y at hc1' hxor HSU
      have hcr0 : wr.cell? ⟨g0, k, none⟩ = some (.int .u8 (x.n : Nat)) := (hst.w.cell (p := ⟨g0, k, none⟩) hgl0).trans hc0'
      have HC0 := Aside0.mk hc0'
      have HC1 := Aside0.mk hc1'
      have HL1 := Aside0.mk (show ((ns (sumL R0 R1 k)).length + 1) * 1 ≤ 140737488355328 by rw [ns_length, sumL_length]; omega)
      have HL2 := Aside0.mk (show ((ns (scaL R0 f k)).length + 1) * 1 ≤ 140737488355328 by rw [ns_length, scaL_length]; omega)
      obtain ⟨z, hz⟩ : ∃ z, z = x * f := ⟨_, rfl⟩
      rw [← hz] at HSC HMU
      generalize ns (sumL R0 R1 k) = LS at HST HSU HL1
      generalize ns (scaL R0 f k) = LP at HST HSC HL2
      clear hst hc0' hc1' hz
      go_wp2_with fail
      refine HMU.out.mono ?_
      rintro e w3 ⟨rfl, hb3⟩
      have HS3 := Aside0.mk (HST.out.below (Nat.le_refl _) hb3)
      clear hcr0 hb3 HMU HST
      go_wp2_with fail
      have HSd := Aside0.mk (HS3.out.below (Nat.le_refl _) (Below.refl _ w3).drew)
      have HVA := Aside0.mk (fun k hk => own_lt HSd.out.a k hk)
      have HVB := Aside0.mk (fun k hk => own_lt HSd.out.b k hk)
      have hq0 : w3.drew.cell? ⟨g0, k, none⟩ = some (.int .u8 (x.n : Nat)) := (HSd.out.w.cell (p := ⟨g0, k, none⟩) hgl0).trans HC0.out
      have hq1 : w3.drew.cell? ⟨g1, k, none⟩ = some (.int .u8 (y.n : Nat)) := (HSd.out.w.cell (p := ⟨g1, k, none⟩) hgl1).trans HC1.out
      have HGL0 := Aside0.mk hgl0
      have HGL1 := Aside0.mk hgl1
      have hki : (0 : Int) ≤ (k : Int) ∧ (k : Int) < (L : Int) := by omega
      refine start_ (n := 18) (S := fun w' => w'.cell? ⟨g0, k, none⟩ = some (.int .u8 (x.n : Nat)) ∧ w'.cell? ⟨g1, k, none⟩ = some (.int .u8 (y.n : Nat))) (ds := []) #[false, false, false, false, false, false, false, false, false, false, false, false, false, false, false, false, false, false] (by kernel_rfl) rfl rfl ⟨hq0, hq1⟩ (fun hHeld => ?_)
      generalize w3.drew = wd at HSd HVA HVB hq0 hq1 hHeld ⊢
      refine pure_ (i := 0) (N := some 69) (v := ?_) (a' := ?_) #[true, false, false, false, false, false, false, false, false, false, false, false, false, false, false, false, false, false] rfl rfl (by kernel_rfl) (fun _ _ _ h => h) (Or.inl ⟨by rfl, ?_⟩) ?_ ?_
      rotate_left
      · intro w'
        go_simp
        with_reducible rfl
      rotate_left
      · simp only [Act.put, List.setIfInBounds_toArray, List.set_cons_zero, List.set_cons_succ, i64_w, i32_w]
        rfl
      refine pure_ (i := 1) (N := some 70) (v := ?_) (a' := ?_) #[true, true, false, false, false, false, false, false, false, false, false, false, false, false, false, false, false, false] rfl rfl (by kernel_rfl) (fun _ _ _ h => h) (Or.inl ⟨by rfl, ?_⟩) ?_ ?_
      rotate_left
      · intro w'
        go_simp
        with_reducible rfl
      rotate_left
      · simp only [Act.put, List.setIfInBounds_toArray, List.set_cons_zero, List.set_cons_succ, i64_w, i32_w]
        rfl
      refine pure_ (i := 2) (N := some 71) (v := ?_) (a' := ?_) #[true, true, true, false, false, false, false, false, false, false, false, false, false, false, false, false, false, false] rfl rfl (by kernel_rfl) (fun _ _ _ h => h) (Or.inl ⟨by rfl, ?_⟩) ?_ ?_
      rotate_left
      · intro w'
        go_simp
        with_reducible rfl
      rotate_left
      · simp only [Act.put, List.setIfInBounds_toArray, List.set_cons_zero, List.set_cons_succ, i64_w, i32_w]
        rfl
      refine pure_ (i := 3) (N := some 72) (v := ?_) (a' := ?_) #[true, true, true, true, false, false, false, false, false, false, false, false, false, false, false, false, false, false] rfl rfl (by kernel_rfl) (fun _ _ _ h => h) (Or.inl ⟨by rfl, ?_⟩) ?_ ?_
      rotate_left
      · intro w'
        go_simp
        with_reducible rfl
      rotate_left
      · simp only [Act.put, List.setIfInBounds_toArray, List.set_cons_zero, List.set_cons_succ, i64_w, i32_w]
        rfl
      refine pure_ (i := 5) (N := some 74) (v := ?_) (a' := ?_) #[true, true, true, true, false, true, false, false, false, false, false, false, false, false, false, false, false, false] rfl rfl (by kernel_rfl) (fun _ _ _ h => h) (Or.inl ⟨by rfl, ?_⟩) ?_ ?_
      rotate_left
      · intro w'
        go_simp
        with_reducible rfl
      rotate_left
      · simp only [Act.put, List.setIfInBounds_toArray, List.set_cons_zero, List.set_cons_succ, i64_w, i32_w]
        rfl
      refine pure_ (i := 6) (N := some 75) (v := ?_) (a' := ?_) #[true, true, true, true, false, true, true, false, false, false, false, false, false, false, false, false, false, false] rfl rfl (by kernel_rfl) (fun _ _ _ h => h) (Or.inl ⟨by rfl, ?_⟩) ?_ ?_
      rotate_left
      · intro w'
        go_simp
        with_reducible rfl
      rotate_left
      · simp only [Act.put, List.setIfInBounds_toArray, List.set_cons_zero, List.set_cons_succ, i64_w, i32_w]
        rfl
      refine pure_ (i := 7) (N := some 76) (v := ?_) (a' := ?_) #[true, true, true, true, false, true, true, true, false, false, false, false, false, false, false, false, false, false] rfl rfl (by kernel_rfl) (fun _ _ _ h => h) (Or.inl ⟨by rfl, ?_⟩) ?_ ?_
      rotate_left
      · intro w'
        go_simp
        with_reducible rfl
      rotate_left
      · simp only [Act.put, List.setIfInBounds_toArray, List.set_cons_zero, List.set_cons_succ, i64_w, i32_w]
        rfl
      refine pure_ (i := 12) (N := some 81) (v := ?_) (a' := ?_) #[true, true, true, true, false, true, true, true, false, false, false, false, true, false, false, false, false, false] rfl rfl (by kernel_rfl) (fun _ _ _ h => h) (Or.inl ⟨by rfl, ?_⟩) ?_ ?_
      rotate_left
      · intro w'
        go_simp
        with_reducible rfl
      rotate_left
      · simp only [Act.put, List.setIfInBounds_toArray, List.set_cons_zero, List.set_cons_succ, i64_w, i32_w]
        rfl
      refine pure_ (i := 13) (N := some 82) (v := ?_) (a' := ?_) #[true, true, true, true, false, true, true, true, false, false, false, false, true, true, false, false, false, false] rfl rfl (by kernel_rfl) (fun _ _ _ h => h) (Or.inl ⟨by rfl, ?_⟩) ?_ ?_
      rotate_left
      · intro w'
        go_simp
        with_reducible rfl
      rotate_left
      · simp only [Act.put, List.setIfInBounds_toArray, List.set_cons_zero, List.set_cons_succ, i64_w, i32_w]
        rfl
      refine take_ (i := 4) (N := some 73) (v := ?_) (a' := ?_) #[true, true, true, true, true, true, true, true, false, false, false, false, true, true, false, false, false, false] rfl rfl (by kernel_rfl) (fun _ _ _ h => h) (Or.inl ⟨by rfl, ?_⟩) hHeld ?_ ?_
      rotate_left
      · rintro w' ⟨s0, s1⟩
        go_simp
        with_reducible rfl
      rotate_left
      · simp only [Act.put, List.setIfInBounds_toArray, List.set_cons_zero, List.set_cons_succ, i64_w, i32_w]
        rfl
      refine take_ (i := 8) (N := some 77) (v := ?_) (a' := ?_) #[true, true, true, true, true, true, true, true, true, false, false, false, true, true, false, false, false, false] rfl rfl (by kernel_rfl) (fun _ _ _ h => h) (Or.inl ⟨by rfl, ?_⟩) hHeld ?_ ?_
      rotate_left
      · rintro w' ⟨s0, s1⟩
        go_simp
        with_reducible rfl
      rotate_left
      · simp only [Act.put, List.setIfInBounds_toArray, List.set_cons_zero, List.set_cons_succ, i64_w, i32_w]
        rfl
      refine pure_ (i := 9) (N := some 78) (v := ?_) (a' := ?_) #[true, true, true, true, true, true, true, true, true, true, false, false, true, true, false, false, false, false] rfl rfl (by kernel_rfl) (fun _ _ _ h => h) (Or.inl ⟨by rfl, ?_⟩) ?_ ?_
      rotate_left
      · intro w'
        go_simp
        with_reducible rfl
      rotate_left
      · simp only [Act.put, List.setIfInBounds_toArray, List.set_cons_zero, List.set_cons_succ, i64_w, i32_w]
        rfl
      refine join_ (σ := Nat × Nat × Value) 3 #[true, true, true, true, true, true, true, true, true, true, true, true, true, true, true, false, false, false] (fun s => [(79, .slice (some ⟨s.1, 0, none⟩) 1 1), (83, .slice (some ⟨s.2.1, 0, none⟩) 1 1), (80, s.2.2)]) (fun s w' => St w2.heap.size w2 w' s.2.2 u15 (LS ++ [((x + y).n : Int)]) LP ∧ w'.cell? ⟨s.2.1, 0, none⟩ = some (.int .u8 (z.n : Nat))) ?_ ?_
      rotate_left
      · intro hCont
        refine two_ (i := 10) (j := 14) (Ni := some 79) (Nj := some 83) #[true, true, true, true, true, true, true, true, true, true, true, false, true, true, false, false, false, false] #[true, true, true, true, true, true, true, true, true, true, false, false, true, true, true, false, false, false] rfl rfl rfl rfl (by kernel_rfl) (by decide) (by decide) (fun K hK => ?_) (fun K hK => ?_)
        · skip
          refine value_ (w1 := ?_) (v := ?_) (by rfl) rfl ?_ ?_
          rotate_left 2
          · go_simp
            constructor
            · rfl
            · rfl
          have HS10 := Aside0.mk (HSd.out.below (Nat.le_refl _) (below_al wd (.cells #[.int .u8 ((x + y).n : Nat)] 5)))
          have HL10 := Aside0.mk (lit_cell0 wd (.int .u8 ((x + y).n : Nat)) 5)
          have HLT10 := Aside0.mk (show wd.heap.size < (wd.alloc (.cells #[.int .u8 ((x + y).n : Nat)] 5)).heap.size by simp)
          have HLE10 := Aside0.mk (show wd.heap.size ≤ wd.heap.size from Nat.le_refl _)
          have HWE10 := Aside0.mk (Nat.le_trans HLE10.out (below_al wd (.cells #[.int .u8 ((x + y).n : Nat)] 5)).size)
          generalize wd.alloc (.cells #[.int .u8 ((x + y).n : Nat)] 5) = x10 at HS10 HWE10 HLT10 HL10 ⊢
          refine hK.out _ _ ⟨(HS10.out.w.cell (p := ⟨g0, k, none⟩) HGL0.out).trans HC0.out, (HS10.out.w.cell (p := ⟨g1, k, none⟩) HGL1.out).trans HC1.out⟩ (fun hHeld => ?_)
          clear hK K
          refine norm_ (a' := ?_) ?_ ?_
          rotate_left
          · show Act.put _ (some 79) _ = _
            simp only [Act.put, List.setIfInBounds_toArray, List.set_cons_zero, List.set_cons_succ, i64_w, i32_w]
            rfl
          refine two_ (i := 11) (j := 14) (Ni := some 80) (Nj := some 83) #[true, true, true, true, true, true, true, true, true, true, true, true, true, true, false, false, false, false] #[true, true, true, true, true, true, true, true, true, true, true, false, true, true, true, false, false, false] rfl rfl rfl rfl (by kernel_rfl) (by decide) (by decide) (fun K hK => ?_) (fun K hK => ?_)
          · skip
            refine own_append_step w2.heap.size (by rfl) (.tmp 69) (.tmp 79) 22 5 .u8 1 rfl Tryd.underlying22 info_u8 (by decide) _ _ _ _ rfl rfl HS10.out.a HL10.out HS10.out.w.size HL1.out ?_
            intro v11 w11 hown hB hg hat
            have HS11 := Aside0.mk (HS10.out.left hown hB hg hat)
            have HWE11 := Aside0.mk (Nat.le_trans HWE10.out hB.size)
            clear hown hB hg hat
            refine hK.out _ _ ⟨(HS11.out.w.cell (p := ⟨g0, k, none⟩) HGL0.out).trans HC0.out, (HS11.out.w.cell (p := ⟨g1, k, none⟩) HGL1.out).trans HC1.out⟩ (fun hHeld => ?_)
            clear hK K
            refine norm_ (a' := ?_) ?_ ?_
            rotate_left
            · show Act.put _ (some 80) _ = _
              simp only [Act.put, List.setIfInBounds_toArray, List.set_cons_zero, List.set_cons_succ, i64_w, i32_w]
              rfl
            refine one_ (i := 14) (N := some 83) #[true, true, true, true, true, true, true, true, true, true, true, true, true, true, true, false, false, false] rfl rfl (by kernel_rfl) (by decide) (fun K hK => ?_)
            refine value_ (w1 := ?_) (v := ?_) (by rfl) rfl ?_ ?_
            rotate_left 2
            · go_simp
              constructor
              · rfl
              · rfl
            have HS14 := Aside0.mk (HS11.out.below (Nat.le_refl _) (below_al w11 (.cells #[.int .u8 (z.n : Nat)] 5)))
            have HL14 := Aside0.mk (lit_cell0 w11 (.int .u8 (z.n : Nat)) 5)
            have HLT14 := Aside0.mk (show w11.heap.size < (w11.alloc (.cells #[.int .u8 (z.n : Nat)] 5)).heap.size by simp)
            have HLE14 := Aside0.mk (show wd.heap.size ≤ w11.heap.size from HWE11.out)
            have HWE14 := Aside0.mk (Nat.le_trans HLE14.out (below_al w11 (.cells #[.int .u8 (z.n : Nat)] 5)).size)
            generalize w11.alloc (.cells #[.int .u8 (z.n : Nat)] 5) = x14 at HS14 HWE14 HLT14 HL14 ⊢
            refine hK.out _ _ ⟨(HS14.out.w.cell (p := ⟨g0, k, none⟩) HGL0.out).trans HC0.out, (HS14.out.w.cell (p := ⟨g1, k, none⟩) HGL1.out).trans HC1.out⟩ (fun hHeld => ?_)
            clear hK K
            refine norm_ (a' := ?_) ?_ ?_
            rotate_left
            · show Act.put _ (some 83) _ = _
              simp only [Act.put, List.setIfInBounds_toArray, List.set_cons_zero, List.set_cons_succ, i64_w, i32_w]
              rfl
            exact norm_ (by simp only [putAll, Act.put, List.setIfInBounds_toArray, List.set_cons_zero, List.set_cons_succ]) (hCont (⟨wd.heap.size, w11.heap.size, v11⟩ : Nat × Nat × Value) _ ⟨HS14.out, HL14.out⟩)
          · skip
            refine value_ (w1 := ?_) (v := ?_) (by rfl) rfl ?_ ?_
            rotate_left 2
            · go_simp
              constructor
              · rfl
              · rfl
            have HS14 := Aside0.mk (HS10.out.below (Nat.le_refl _) (below_al x10 (.cells #[.int .u8 (z.n : Nat)] 5)))
            have HL14 := Aside0.mk (lit_cell0 x10 (.int .u8 (z.n : Nat)) 5)
            have HLT14 := Aside0.mk (show x10.heap.size < (x10.alloc (.cells #[.int .u8 (z.n : Nat)] 5)).heap.size by simp)
            have HLE14 := Aside0.mk (show wd.heap.size ≤ x10.heap.size from HWE10.out)
            have HWE14 := Aside0.mk (Nat.le_trans HLE14.out (below_al x10 (.cells #[.int .u8 (z.n : Nat)] 5)).size)
            have HL10 := Aside0.mk (((below_al x10 (.cells #[.int .u8 (z.n : Nat)] 5)).cell HLT10.out).trans HL10.out)
            generalize x10.alloc (.cells #[.int .u8 (z.n : Nat)] 5) = x14 at HS14 HWE14 HLT14 HL10 HL14 ⊢
            refine hK.out _ _ ⟨(HS14.out.w.cell (p := ⟨g0, k, none⟩) HGL0.out).trans HC0.out, (HS14.out.w.cell (p := ⟨g1, k, none⟩) HGL1.out).trans HC1.out⟩ (fun hHeld => ?_)
            clear hK K
            refine norm_ (a' := ?_) ?_ ?_
            rotate_left
            · show Act.put _ (some 83) _ = _
              simp only [Act.put, List.setIfInBounds_toArray, List.set_cons_zero, List.set_cons_succ, i64_w, i32_w]
              rfl
            refine one_ (i := 11) (N := some 80) #[true, true, true, true, true, true, true, true, true, true, true, true, true, true, true, false, false, false] rfl rfl (by kernel_rfl) (by decide) (fun K hK => ?_)
            refine own_append_step w2.heap.size (by rfl) (.tmp 69) (.tmp 79) 22 5 .u8 1 rfl Tryd.underlying22 info_u8 (by decide) _ _ _ _ rfl rfl HS14.out.a HL10.out HS14.out.w.size HL1.out ?_
            intro v11 w11 hown hB hg hat
            have HS11 := Aside0.mk (HS14.out.left hown hB hg hat)
            have HWE11 := Aside0.mk (Nat.le_trans HWE14.out hB.size)
            have HL14 := Aside0.mk ((hg.cell_far ⟨_, 0, none⟩ HLT14.out (fun e => absurd (HVA.out _ e.symm) (Nat.not_lt.2 HLE14.out))).trans HL14.out)
            clear hown hB hg hat
            refine hK.out _ _ ⟨(HS11.out.w.cell (p := ⟨g0, k, none⟩) HGL0.out).trans HC0.out, (HS11.out.w.cell (p := ⟨g1, k, none⟩) HGL1.out).trans HC1.out⟩ (fun hHeld => ?_)
            clear hK K
            refine norm_ (a' := ?_) ?_ ?_
            rotate_left
            · show Act.put _ (some 80) _ = _
              simp only [Act.put, List.setIfInBounds_toArray, List.set_cons_zero, List.set_cons_succ, i64_w, i32_w]
              rfl
            exact norm_ (by simp only [putAll, Act.put, List.setIfInBounds_toArray, List.set_cons_zero, List.set_cons_succ]) (hCont (⟨wd.heap.size, x10.heap.size, v11⟩ : Nat × Nat × Value) _ ⟨HS11.out, HL14.out⟩)
        · skip
          refine value_ (w1 := ?_) (v := ?_) (by rfl) rfl ?_ ?_
          rotate_left 2
          · go_simp
            constructor
            · rfl
            · rfl
          have HS14 := Aside0.mk (HSd.out.below (Nat.le_refl _) (below_al wd (.cells #[.int .u8 (z.n : Nat)] 5)))
          have HL14 := Aside0.mk (lit_cell0 wd (.int .u8 (z.n : Nat)) 5)
          have HLT14 := Aside0.mk (show wd.heap.size < (wd.alloc (.cells #[.int .u8 (z.n : Nat)] 5)).heap.size by simp)
          have HLE14 := Aside0.mk (show wd.heap.size ≤ wd.heap.size from Nat.le_refl _)
          have HWE14 := Aside0.mk (Nat.le_trans HLE14.out (below_al wd (.cells #[.int .u8 (z.n : Nat)] 5)).size)
          generalize wd.alloc (.cells #[.int .u8 (z.n : Nat)] 5) = x14 at HS14 HWE14 HLT14 HL14 ⊢
          refine hK.out _ _ ⟨(HS14.out.w.cell (p := ⟨g0, k, none⟩) HGL0.out).trans HC0.out, (HS14.out.w.cell (p := ⟨g1, k, none⟩) HGL1.out).trans HC1.out⟩ (fun hHeld => ?_)
          clear hK K
          refine norm_ (a' := ?_) ?_ ?_
          rotate_left
          · show Act.put _ (some 83) _ = _
            simp only [Act.put, List.setIfInBounds_toArray, List.set_cons_zero, List.set_cons_succ, i64_w, i32_w]
            rfl
          refine one_ (i := 10) (N := some 79) #[true, true, true, true, true, true, true, true, true, true, true, false, true, true, true, false, false, false] rfl rfl (by kernel_rfl) (by decide) (fun K hK => ?_)
          refine value_ (w1 := ?_) (v := ?_) (by rfl) rfl ?_ ?_
          rotate_left 2
          · go_simp
            constructor
            · rfl
            · rfl
          have HS10 := Aside0.mk (HS14.out.below (Nat.le_refl _) (below_al x14 (.cells #[.int .u8 ((x + y).n : Nat)] 5)))
          have HL10 := Aside0.mk (lit_cell0 x14 (.int .u8 ((x + y).n : Nat)) 5)
          have HLT10 := Aside0.mk (show x14.heap.size < (x14.alloc (.cells #[.int .u8 ((x + y).n : Nat)] 5)).heap.size by simp)
          have HLE10 := Aside0.mk (show wd.heap.size ≤ x14.heap.size from HWE14.out)
          have HWE10 := Aside0.mk (Nat.le_trans HLE10.out (below_al x14 (.cells #[.int .u8 ((x + y).n : Nat)] 5)).size)
          have HL14 := Aside0.mk (((below_al x14 (.cells #[.int .u8 ((x + y).n : Nat)] 5)).cell HLT14.out).trans HL14.out)
          generalize x14.alloc (.cells #[.int .u8 ((x + y).n : Nat)] 5) = x10 at HS10 HWE10 HLT10 HL10 HL14 ⊢
          refine hK.out _ _ ⟨(HS10.out.w.cell (p := ⟨g0, k, none⟩) HGL0.out).trans HC0.out, (HS10.out.w.cell (p := ⟨g1, k, none⟩) HGL1.out).trans HC1.out⟩ (fun hHeld => ?_)
          clear hK K
          refine norm_ (a' := ?_) ?_ ?_
          rotate_left
          · show Act.put _ (some 79) _ = _
            simp only [Act.put, List.setIfInBounds_toArray, List.set_cons_zero, List.set_cons_succ, i64_w, i32_w]
            rfl
          refine one_ (i := 11) (N := some 80) #[true, true, true, true, true, true, true, true, true, true, true, true, true, true, true, false, false, false] rfl rfl (by kernel_rfl) (by decide) (fun K hK => ?_)
          refine own_append_step w2.heap.size (by rfl) (.tmp 69) (.tmp 79) 22 5 .u8 1 rfl Tryd.underlying22 info_u8 (by decide) _ _ _ _ rfl rfl HS10.out.a HL10.out HS10.out.w.size HL1.out ?_
          intro v11 w11 hown hB hg hat
          have HS11 := Aside0.mk (HS10.out.left hown hB hg hat)
          have HWE11 := Aside0.mk (Nat.le_trans HWE10.out hB.size)
          have HL14 := Aside0.mk ((hg.cell_far ⟨_, 0, none⟩ (Nat.lt_trans HLT14.out HLT10.out) (fun e => absurd (HVA.out _ e.symm) (Nat.not_lt.2 HLE14.out))).trans HL14.out)
          clear hown hB hg hat
          refine hK.out _ _ ⟨(HS11.out.w.cell (p := ⟨g0, k, none⟩) HGL0.out).trans HC0.out, (HS11.out.w.cell (p := ⟨g1, k, none⟩) HGL1.out).trans HC1.out⟩ (fun hHeld => ?_)
          clear hK K
          refine norm_ (a' := ?_) ?_ ?_
          rotate_left
          · show Act.put _ (some 80) _ = _
            simp only [Act.put, List.setIfInBounds_toArray, List.set_cons_zero, List.set_cons_succ, i64_w, i32_w]
            rfl
          exact norm_ (by simp only [putAll, Act.put, List.setIfInBounds_toArray, List.set_cons_zero, List.set_cons_succ]) (hCont (⟨x14.heap.size, wd.heap.size, v11⟩ : Nat × Nat × Value) _ ⟨HS11.out, HL14.out⟩)
      rintro ⟨b1, b2, v11⟩ w12 ⟨hs12, hl12⟩
      have HS12 := Aside0.mk hs12
      have HL14 := Aside0.mk hl12
      clear hs12 hl12
      have hHeld : w12.cell? ⟨g0, k, none⟩ = some (.int .u8 (x.n : Nat)) ∧ w12.cell? ⟨g1, k, none⟩ = some (.int .u8 (y.n : Nat)) := ⟨(HS12.out.w.cell (p := ⟨g0, k, none⟩) HGL0.out).trans HC0.out, (HS12.out.w.cell (p := ⟨g1, k, none⟩) HGL1.out).trans HC1.out⟩
      refine norm_ (a' := ?_) ?_ ?_
      rotate_left
      · simp only [putAll, Act.put, List.setIfInBounds_toArray, List.set_cons_zero, List.set_cons_succ]
        rfl
      refine one_ (i := 15) (N := some 84) #[true, true, true, true, true, true, true, true, true, true, true, true, true, true, true, true, false, false] rfl rfl (by kernel_rfl) (by decide) (fun K hK => ?_)
      refine own_append_step w2.heap.size (by rfl) (.tmp 81) (.tmp 83) 22 5 .u8 1 rfl Tryd.underlying22 info_u8 (by decide) _ _ _ _ rfl rfl HS12.out.b HL14.out HS12.out.w.size HL2.out ?_
      intro v15 w15 hown hB hg hat
      have HS15 := Aside0.mk (HS12.out.right hown hB hg hat)
      clear hown hB hg hat
      refine hK.out _ _ ⟨(HS15.out.w.cell (p := ⟨g0, k, none⟩) HGL0.out).trans HC0.out, (HS15.out.w.cell (p := ⟨g1, k, none⟩) HGL1.out).trans HC1.out⟩ (fun hHeld => ?_)
      clear hK K
      refine norm_ (a' := ?_) ?_ ?_
      rotate_left
      · show Act.put _ (some 84) _ = _
        simp only [Act.put, List.setIfInBounds_toArray, List.set_cons_zero, List.set_cons_succ, i64_w, i32_w]
        rfl
      refine pure_ (i := 16) (N := some 14) (v := ?_) (a' := ?_) #[true, true, true, true, true, true, true, true, true, true, true, true, true, true, true, true, true, false] rfl rfl (by kernel_rfl) (fun _ _ _ h => h) (Or.inl ⟨by rfl, ?_⟩) ?_ ?_
      rotate_left
      · intro w'
        go_simp
        with_reducible rfl
      rotate_left
      · simp only [Act.put, List.setIfInBounds_toArray, List.set_cons_zero, List.set_cons_succ, i64_w, i32_w]
        rfl
      refine pure_ (i := 17) (N := some 15) (v := ?_) (a' := ?_) #[true, true, true, true, true, true, true, true, true, true, true, true, true, true, true, true, true, true] rfl rfl (by kernel_rfl) (fun _ _ _ h => h) (Or.inl ⟨by rfl, ?_⟩) ?_ ?_
      rotate_left
      · intro w'
        go_simp
        with_reducible rfl
      rotate_left
      · simp only [Act.put, List.setIfInBounds_toArray, List.set_cons_zero, List.set_cons_succ, i64_w, i32_w]
        rfl
      refine done_ (by kernel_rfl) ?_
      go_wp2
      go_roundw
      case rel => exact ⟨k + 1, by omega, by go_num, by rw [HSU.out, HSC.out]; exact HS15.out⟩
      case measure => simp [intOf]; omega
    · have hkn : ¬ ((k : Int) < (L : Int)) := by omega
      have hkL' : k = L := by omega
      rw [hkL'] at hst
      have HST := Aside0.mk hst
      obtain ⟨zz, hzz⟩ : ∃ zz : Nat, (zz : Int) = min (zeros % 21) (63 - (L : Int)) := ⟨(min (zeros % 21) (63 - (L : Int))).toNat, by omega⟩
      have hzl : zz + L ≤ 63 := by omega
      have hif3 : (if (63 : Int) - (L : Int) < zeros % 21 then (63 : Int) - (L : Int) else zeros % 21) = (zz : Int) := by split <;> omega
      have hmk : ∀ W : World, (Instr.makeSlice 22 (.int .i64 (zz : Int)) (.int .i64 (zz : Int))).run Tryd.prog W = .ok (.slice (some ⟨W.heap.size, 0, none⟩) zz zz) (W.alloc (.cells (madeCells #[.int .u8 0] zz) 5)) :=
        print_make 22 5 .u8 1 Tryd.underlying22 info_u8 (by decide) zz (by omega)
      have HOM := Aside0.mk (own_made' wr wr.heap.size 5 .u8 zz (Nat.le_refl _) (by omega))
      have hbm := below_al wr (.cells (madeCells #[.int .u8 0] zz) 5)
      have HBM := Aside0.mk hbm
      have HRM := Aside0.mk (show Kd.C (Kd.int .u8) (wr.alloc (.cells (madeCells #[.int .u8 0] zz) 5)) (some ⟨g0, 0, none⟩) L (ns R0) by have h := (((HR0R.out.below (hst.w.mono (Nat.le_refl _))).below hbm).reads (by rw [ns_length, HR0L.out]; omega)); rwa [ns_length, HR0L.out] at h)
      have HLZ := Aside0.mk (show ((List.replicate zz (0 : Int)).length + L) * 1 ≤ 140737488355328 by simp; omega)
      clear hst hbm hkL' hzz
      go_wp2_with (first | (at_builtin; refine print_append_row (w0 := wr) wr.heap.size rfl _ _ 22 5 .u8 1 rfl Tryd.underlying22 info_u8 (by decide) _ (List.replicate zz 0) (ns R0) (some ⟨g0, 0, none⟩) L k0 rfl rfl HOM.out (Kd.reads_of_C HRM.out) HBM.out HBM.out.size HLZ.out ?_; intro v2 wL hown hBL hgL hat; have HOL := Aside0.mk hown; have HBL := Aside0.mk hBL; clear hown hBL hgL hat))
      have hb2L : Below w2.heap.size w2 wL := HST.out.w.trans (HBL.out.mono HST.out.w.size)
      have hbL : Below w.heap.size w wL := HB2.out.trans (hb2L.mono HB2.out.size)
      have hpL := HP2.out.below hb2L
      have hlong : Own .u8 5 wL wr.heap.size v2 (ns (List.replicate zz 0 ++ R0)) := by
        rw [ns_append, ns_zeros]
        exact HOL.out
      obtain ⟨g2, k2, rfl, hk2, -, hrow2⟩ := own_crow' hlong (n := zz + L) (by rw [ns_length, List.length_append, List.length_replicate, HR0L.out]) (by omega)
      obtain ⟨g3, k3, rfl, hk3, -, hrow3⟩ := own_crow' (HST.out.a.below HBL.out) (n := L) (by rw [ns_length, sumL_length]) (by omega)
      obtain ⟨g4, k4, rfl, hk4, -, hrow4⟩ := own_crow' (HST.out.b.below HBL.out) (n := L) (by rw [ns_length, scaL_length]) (by omega)
      have HV0 := Aside0.mk (valid_true g0 k0 L R0 wL HR0L.out hL5 hL63 hk0 HR0C.out hpL (HR0R.out.belowB hb2L HR0R.out.lt))
      have HV1 := Aside0.mk (valid_true g1 k1 L R1 wL HR1L.out hL5 hL63 hk1 HR1C.out hpL (HR1R.out.belowB hb2L HR1R.out.lt))
      have HV2 := Aside0.mk (valid_true g3 k3 L (sumL R0 R1 L) wL (sumL_length _ _ _) hL5 hL63 hk3 (by have := code_sum (HR1L.out.trans HR0L.out.symm) HR0C.out HR1C.out; rwa [HR0L.out] at this) hpL hrow3)
      have HV3 := Aside0.mk (valid_true g4 k4 L (scaL R0 f L) wL (scaL_length _ _ _) hL5 hL63 hk4 (by have := code_sca f HR0C.out; rwa [HR0L.out] at this) hpL hrow4)
      have HV4 := Aside0.mk (valid_true g2 k2 (zz + L) (List.replicate zz 0 ++ R0) wL (by rw [List.length_append, List.length_replicate, HR0L.out]) (by omega) (by omega) hk2 (code_zeros zz HR0C.out) hpL hrow2)
      have HAW := Aside0.mk (fun (W : World) (hb : Below wL.heap.size wL W) => awake_any W (hpL.below hb))
      have HBW := Aside0.mk hbL
      clear hb2L hbL hpL hlong hrow2 hrow3 hrow4 HOM HRM HST HBL HOL
      go_wp2_with fail
      refine (HV0.out wL (Below.refl _ _)).mono ?_
      rintro e x0 ⟨rfl, hx0⟩
      have HX0 := Aside0.mk hx0
      clear hx0
      go_wp2_with fail
      refine (HV1.out x0 HX0.out).mono ?_
      rintro e x1 ⟨rfl, hx1⟩
      have HX1 := Aside0.mk hx1
      clear hx1
      go_wp2_with fail
      refine (HV2.out x1 HX1.out).mono ?_
      rintro e x2 ⟨rfl, hx2⟩
      have HX2 := Aside0.mk hx2
      clear hx2
      go_wp2_with fail
      refine (HV3.out x2 HX2.out).mono ?_
      rintro e x3 ⟨rfl, hx3⟩
      have HX3 := Aside0.mk hx3
      clear hx3
      go_wp2_with fail
      refine (HV4.out x3 HX3.out).mono ?_
      rintro e x4 ⟨rfl, hx4⟩
      have HX4 := Aside0.mk hx4
      clear hx4
      go_wp2_with fail
      refine (HAW.out x4 HX4.out).mono ?_
      rintro e x5 ⟨rfl, hx5⟩
      go_wp2
      go_ret
      have hx : Below wL.heap.size wL x5 := HX4.out.trans (hx5.mono HX4.out.size)
      exact ⟨rfl, HBW.out.trans (hx.mono HBW.out.size)⟩
/-- The law, its arguments' bounds as the row hands them over. -/
theorem sums_law (A0 : Option Addr) (c0 : Nat) (l0 : List Int) (A1 : Option Addr) (c1 : Nat) (l1 : List Int) (factor zeros : Int) (w : World) (hr0 : Kd.C (Kd.int .u8) w A0 l0.length l0) (hc0 : l0.length ≤ c0) (hp0 : ∀ x ∈ l0, 0 ≤ x ∧ x < 256) (hl0 : l0.length ≤ 140737488351232) (hr1 : Kd.C (Kd.int .u8) w A1 l1.length l1) (hc1 : l1.length ≤ c1) (hp1 : ∀ x ∈ l1, 0 ≤ x ∧ x < 256) (hl1 : l1.length ≤ 140737488351232) (hf : 0 ≤ factor ∧ factor < 256) (hz : 0 ≤ zeros ∧ zeros < 256) (hp : PW w) :
    Calls Tryd.prog 7 #[.slice A0 l0.length c0, .slice A1 l1.length c1, .int .u8 factor, .int .u8 zeros] w fun e w' => e = .returned (.bool true) ∧ Below w.heap.size w w' :=
  sums_any A0 c0 l0 A1 c1 l1 factor zeros w hp hr0 hc0 hl0 hp0 hr1 hc1 hl1 hp1 hf.1 hf.2 hz.1 hz.2
end Go.Proofs.YtlifghomejdhnaaDoor
