/- solomon.Decode: walk. -/
import Derived.Test.YtlifghomejdhnaaDoorDecB
import Derived.Test.YtlifghomejdhnaaDoorEncd
import Derived.Test.YtlifghomejdhnaaDoorRegR
set_option linter.unusedVariables false
set_option linter.unusedSimpArgs false
namespace Go.Proofs.YtlifghomejdhnaaDoor
open Go.RowKit Go.Shelf Go.Proofs.YtlifghomejdhnaaDoorW.PrintWords Go.Proofs.YtlifghomejdhnaaDoorW.PrintLast Go.Proofs.YtlifghomejdhnaaDoor.Q Go.Proofs.YtlifghomejdhnaaDoor.Gf

theorem guesses_any (A : Option Addr) (n c : Nat) (w : World) :
    Calls Tryd.prog 37 #[.slice A n c] w fun e w' => e = .returned (.func (.func 59) #[] #[.pointer (some ⟨w.heap.size, 0, none⟩)]) ∧ w.alloc (.cells #[.slice A n c] 22) = w' := by
  have hmf : ∀ (fn : Fn) (first cap : Array Value) (w : World), (Instr.makeFunc fn first cap).run Tryd.prog w = .ok (.func fn first cap) w := fun _ _ _ _ => rfl
  go_enter Tryd.func37, Tryd.ntmps37
  go_wp2
  go_ret
  exact ⟨rfl, rfl⟩
/-- All blocks of cells are as they were. -/
def KeepC (W W' : World) : Prop := W.heap.size ≤ W'.heap.size ∧ ∀ (b : Nat) (o : Obj), W.heap[b]? = some o → o.isCells = true → W'.heap[b]? = some o
theorem KeepC.refl (W : World) : KeepC W W := ⟨Nat.le_refl _, fun _ _ h _ => h⟩
theorem KeepC.putObj {W X : World} (h : KeepC W X) {k : Nat} {o : Obj} (o' : Obj) (hk : X.heap[k]? = some o) (ho : o.isCells = false) : KeepC W (X.putObj k o') := by
  refine ⟨by simpa using h.1, fun b q hb hq => ?_⟩
  have hx := h.2 b q hb hq
  have hne : b ≠ k := fun e => by
    subst e
    rw [hx] at hk
    cases hk
    rw [ho] at hq
    cases hq
  exact (World.putObj_heap_other hne).trans hx
theorem KeepC.blk {W W' : World} (h : KeepC W W') {p : Addr} {v : Value} (hc : W.cell? p = some v) : W'.heap[p.block]? = W.heap[p.block]? := by
  cases hb : W.heap[p.block]? with
  | none =>
    unfold World.cell? at hc
    rw [hb] at hc
    simp at hc
  | some o =>
    refine h.2 _ o hb ?_
    unfold World.cell? at hc
    rw [hb] at hc
    cases o <;> simp [Obj.isCells] at hc ⊢
theorem KeepC.cell {W W' : World} (h : KeepC W W') {p : Addr} {v : Value} (hc : W.cell? p = some v) : W'.cell? p = some v := (World.cell?_of_block (h.blk hc)).trans hc
theorem KeepC.frozen {W W' : World} (h : KeepC W W') {p : Addr} {v : Value} (hc : W.cell? p = some v) (hf : W.frozen? p = false) : W'.frozen? p = false := by
  unfold World.frozen? at hf ⊢
  rw [h.blk hc]
  exact hf
theorem CRow.keepC {α : Type} {enc : α → Value} {d : α} {W W' : World} {g : Nat} {L : List α} (h : CRow enc d W g L) (hk : KeepC W W') : CRow enc d W' g L :=
  ⟨Nat.lt_of_lt_of_le h.lt hk.1, fun j hj => hk.cell (h.cell j hj), fun j hj => hk.frozen (h.cell j hj) (h.free j hj)⟩
theorem Own.keepC {k : IntKind} {e : TypeId} {W W' : World} {base : Nat} {v : Value} {l : List Int} (h : Own k e W base v l) (hk : KeepC W W') : Own k e W' base v l := by
  refine ⟨h.1, ?_⟩
  rcases h.2 with hn | ⟨g, cap, cur, hv, hb, hg, rest⟩
  · exact .inl hn
  · exact .inr ⟨g, cap, cur, hv, hb, hk.2 _ _ hg rfl, rest⟩
/-- What Decode answers. -/
def DecS (l : List G) (P : List Nat) : Option (List G × List Int) → Prop
  | none => ∀ g ∈ guessL (modL l P), Bad l P g
  | some (x, er) => ∃ g ∈ guessL (modL l P), Good l P g x er
/-- How Decode hands its answer over. -/
def DecR (B : Nat) (W : World) (e : Ending) : Option (List G × List Int) → Prop
  | none => e = .returned (.tuple #[.agg #[.slice none 0 0, .slice none 0 0], .int .i64 190])
  | some (x, er) => ∃ g c v, e = .returned (.tuple #[.agg #[.slice (some ⟨g, 0, none⟩) x.length c, v], .int .i64 0]) ∧ x.length ≤ c ∧ B ≤ g ∧ CRow (Value.int .u8) 0 W g (ns x) ∧ Own .i64 3 W B v er
/-- The world in which Decode has stored its answer. -/
def DecX (l : List G) (P : List Nat) (w : World) (X : World) : Prop :=
  ∃ x er g c v, (∃ q ∈ guessL (modL l P), Good l P q x er) ∧ X.heap[w.heap.size + 1 + 1]? = some (.cells #[.slice (some ⟨g, 0, none⟩) x.length c, v] 39 (0, 0)) ∧ X.cell? ⟨w.heap.size + 1 + 1 + 1, 0, none⟩ = some (.int .i64 0) ∧ x.length ≤ c ∧ w.heap.size ≤ g ∧ CRow (Value.int .u8) 0 X g (ns x) ∧ Own .i64 3 X w.heap.size v er ∧ Below w.heap.size w X
theorem DecX.putObj {l : List G} {P : List Nat} {w X : World} (h : DecX l P w X) {k : Nat} {o : Obj} (o' : Obj) (hk : X.heap[k]? = some o) (ho : o.isCells = false) (hw : w.heap.size ≤ k) : DecX l P w (X.putObj k o') := by
  obtain ⟨x, er, g, c, v, h1, h2, h3, h4, h5, h6, h7, h8⟩ := h
  have hK := (KeepC.refl X).putObj o' hk ho
  exact ⟨x, er, g, c, v, h1, hK.2 _ _ h2 rfl, hK.cell h3, h4, h5, h6.keepC hK, h7.keepC hK, h8.grown (grownBy_putObj' X k o') h8.size (fun j e => by cases e; exact hw)⟩
theorem is_getD (P : List Nat) (i : Nat) : (is P).getD i 0 = ((P.getD i 0 : Nat) : Int) := by
  have := is_rd P i
  unfold rd at this
  rwa [Int.toNat_natCast] at this
theorem is_mem (P : List Nat) (p : Nat) : (p : Int) ∈ is P ↔ p ∈ P := by
  unfold is
  rw [List.mem_map]
  constructor
  · rintro ⟨q, hq, he⟩
    have : q = p := by omega
    rw [← this]; exact hq
  · exact fun h => ⟨p, h, rfl⟩
theorem is_take (P : List Nat) (k : Nat) : (is P).take k = is (P.take k) := by unfold is; rw [List.map_take]
theorem okAt_is {N : Nat} {P : List Nat} (hb : ∀ p ∈ P, p < N) (hd : P.Nodup) (i : Nat) (hi : i < P.length) : okAt N (is P) i := by
  unfold okAt
  rw [is_getD, is_take, is_mem]
  refine ⟨by omega, by have := hb _ (getD_mem0 hi); omega, fun hm => ?_⟩
  obtain ⟨j, hj, he⟩ := mem_getD hm
  rw [List.length_take] at hj
  have e2 : (P.take i).getD j 0 = P.getD j 0 := by
    rw [List.getD_eq_getElem?_getD, List.getD_eq_getElem?_getD, List.getElem?_take, if_pos (by omega)]
  rw [e2] at he
  have := nodup_getD hd (by omega) hi he
  omega
section
variable {F : Fence} {n : Nat} {P : Program} {ops : Array Oper} {rest : List Oper} {o : Oper} {a : Act} {Q : Exit → Act → World → Prop}
theorem gate_in {b : Builtin} {xs : Array Operand} {ts : Array TypeId} {W : World} (_ho : o.op = .call { callee := .builtin b, args := xs, argTypes := ts }) (h : wpListIn F n P ops Q (o :: rest) a W) : wpListIn F n P ops Q (o :: rest) a W := h
theorem in_append_num {w0 W : World} (base : Nat) (hgd : o.guard = none) (s x : Operand) (t e : TypeId) (k : IntKind) (bytes : Nat)
    (ho : o.op = .call { callee := .builtin .append, args := #[s, x], argTypes := #[t, t] })
    (ht : P.underlying t = some (.slice e)) (hinfo : (P.info? e).map (fun i => (i.zero, i.size, i.bytes)) = some (some (.int k 0), 1, bytes)) (hb0 : 0 < bytes)
    (v : Value) (xs : List Int) (y : Int) (hs : a.eval s = v) (hx : a.eval x = .slice (some ⟨W.heap.size, 0, none⟩) 1 1)
    (HO : W.ownsRow base e 1 v xs.length (nums k xs)) (HB : Below base w0 W) (hbase : base ≤ W.heap.size) (hl : (xs.length + 1) * bytes ≤ 140737488355328)
    (h : ∀ v1 w1, w1.ownsRow base e 1 v1 (xs ++ [y]).length (nums k (xs ++ [y])) → Below base w0 w1 → W.grownBy w1 v.ownBlock → wpListIn F n P ops Q rest (a.put o.dst v1) w1) :
    wpListIn F n P ops Q (o :: rest) a (W.alloc (.cells #[.int k y] e)) := by
  obtain ⟨i0, hi, hzz⟩ := Option.map_eq_some_iff.1 hinfo
  simp only [Prod.mk.injEq] at hzz
  obtain ⟨hz0, hz1, hz2⟩ := hzz
  have hlen : xs.length + 1 ≤ 140737488355328 := Nat.le_trans (Nat.le_mul_of_pos_right _ hb0) hl
  refine wpListIn_append_own (W.alloc (.cells #[.int k y] e)) hgd s x t ho base e i0 (.int k 0) 1 bytes ht hi hz0 hz1 hz2 rfl (by omega) v xs.length (nums k xs) hs (HO.alloc _) ⟨W.heap.size, 0, none⟩ 1 1 [.int k y] hx rfl
    (World.news_of_block (cs := #[.int k y]) (t := e) (fr := (0, 0)) (heap_alloc_new W _)) (by simp [Value.oneCell']) (by simp only [maxLen]; omega) hl (by simp; omega) ?_
  intro v1 w1 hown hg _
  exact h v1 w1 (by simpa [nums] using hown) ((HB.alloc hbase _).grown hg (by simp; omega) (own_base HO)) (World.grownBy.trans (World.grownBy_alloc W _ _) hg)
end
def errsK (s : Nat) (P : List Nat) (o : List G) (k : Nat) : List Nat := ((List.range k).filter fun i => decide (s ≤ i) && decide (o.getD i 0 ≠ 0)).map fun i => P.getD i 0
theorem errsK_succ (s : Nat) (P : List Nat) (o : List G) (k : Nat) : errsK s P o (k + 1) = errsK s P o k ++ (if s ≤ k ∧ o.getD k 0 ≠ 0 then [P.getD k 0] else []) := by
  unfold errsK
  rw [List.range_succ, List.filter_append, List.map_append]
  congr 1
  by_cases hc : s ≤ k ∧ o.getD k 0 ≠ 0
  · have h1 : (decide (s ≤ k) && decide (o.getD k 0 ≠ 0)) = true := by rw [Bool.and_eq_true, decide_eq_true_eq, decide_eq_true_eq]; exact hc
    rw [if_pos hc, List.filter_cons, if_pos h1]
    rfl
  · have h1 : ¬ ((decide (s ≤ k) && decide (o.getD k 0 ≠ 0)) = true) := by rw [Bool.and_eq_true, decide_eq_true_eq, decide_eq_true_eq]; exact hc
    rw [if_neg hc, List.filter_cons, if_neg h1]
    rfl
theorem errsK_le (s : Nat) (P : List Nat) (o : List G) (k : Nat) : (errsK s P o k).length ≤ k := by
  unfold errsK
  rw [List.length_map]
  exact Nat.le_trans (List.length_filter_le _ _) (by simp)
theorem Own.base_le {k : IntKind} {e : TypeId} {W : World} {base base' : Nat} {v : Value} {l : List Int} (h : Own k e W base v l) (hb : base' ≤ base) : Own k e W base' v l := by
  refine ⟨h.1, ?_⟩
  rcases h.2 with hn | ⟨g, cap, cur, hv, hg, rest⟩
  · exact .inl hn
  · exact .inr ⟨g, cap, cur, hv, Nat.le_trans hb hg, rest⟩
theorem Own.set {k : IntKind} {e : TypeId} {W : World} {base : Nat} {v : Value} {l : List Int} (h : Own k e W base v l) (g i : Nat) (x : Value) (hg : g < base) : Own k e (W.setCell ⟨g, i, none⟩ x) base v l := own_set h g i x hg
theorem Own.noblock {k : IntKind} {e : TypeId} {W : World} {base : Nat} {v : Value} {l : List Int} (h : Own k e W base v l) {g : Nat} (hg : g < base) : some g ≠ v.ownBlock := fun he => by
  have := own_base h g he.symm
  omega
theorem drop_cons_getD (gl : List G) (k : Nat) (h : k < gl.length) : gl.drop k = gl.getD k 0 :: gl.drop (k + 1) := by
  rw [List.drop_eq_getElem_cons h, List.getD_eq_getElem?_getD, List.getElem?_eq_getElem h]
  rfl
attribute [local go_sem] Oper.semAt_some
set_option maxHeartbeats 16000000 in
set_option maxRecDepth 1000000 in
theorem Dec_main (A : Option Addr) (c : Nat) (l : List G) (A1 : Option Addr) (c1 : Nat) (P : List Nat) (w : World) (hp : PW w) (hr : Kd.C (Kd.int .u8) w A l.length (ns l)) (hc : l.length ≤ c) (h4 : 4 < l.length) (hn : l.length ≤ 63) (hr1 : Kd.C (Kd.int .i64) w A1 P.length (is P)) (hc1 : P.length ≤ c1) (hn1 : P.length ≤ 4) (hPb : ∀ p ∈ P, p < l.length) (hPd : P.Nodup) :
    Calls Tryd.prog 23 #[.slice A l.length c, .slice A1 P.length c1] w fun e w' => ∃ r, DecS l P r ∧ DecR w.heap.size w' e r ∧ Below w.heap.size w w' := by
  obtain ⟨W, hW⟩ : ∃ W, (((w.alloc (.cells #[.slice A l.length c] 22)).alloc (.cells #[.slice A1 P.length c1] 26)).alloc (.cells #[.slice none 0 0, .slice none 0 0] 39)).alloc (.cells #[.int .i64 0] 33) = W := ⟨_, rfl⟩
  have hD := decW w (.slice A l.length c) (.slice A1 P.length c1)
  rw [hW] at hD
  have HD := Aside0.mk hD
  have hw := word_any A c (ns l) W (by rw [ns_length]; exact Kd.C_below hr hD.below) (by rw [ns_length]; exact hc) (by rw [ns_length]; omega)
  rw [word_yes l h4 hn, ns_length] at hw
  have HW := Aside0.mk hw
  have HR := Aside0.mk (Kd.C_below hr hD.below)
  have HR1 := Aside0.mk (Kd.C_below hr1 hD.below)
  have HP := Aside0.mk (hp.below hD.below)
  have HPB := Aside0.mk hPb
  have HPD := Aside0.mk hPd
  have hc0 := hD.b0.cell
  have hc1' := hD.b1.cell
  clear hr hD hw hr1 hp hPb hPd
  refine (callsIn_wide (n := 6)).1 ?_
  refine callsIn_of_wp_marks Tryd.func23 rfl trivial ?_ rfl
  simp only [Tryd.ntmps23, List.size_toArray, List.length_cons, List.length_nil, Nat.reduceAdd, Nat.reduceSub, Array.replicate_succ, Array.replicate_zero, List.push_toArray, List.append_toArray, List.nil_append, List.cons_append]
  gi_wp2
  refine wpIn_wide.2 (wp_scope_straight ((wpIn_wide (n := 6)).1 ?_))
  gi_wp2
  refine ⟨trivial, callsIn_wide.2 (HW.out.mono ?_)⟩
  rintro e w1 ⟨rfl, rfl⟩
  gi_wp2
  gi_loopw [26] (fun i wr => ∃ k : Nat, k ≤ P.length ∧ i = .int .i64 k ∧ Below w1.heap.size w1 wr) (fun i _ => P.length - (intOf i).toNat)
  case atStart => exact ⟨0, Nat.zero_le _, rfl, Below.refl _ _⟩
  case round =>
    obtain ⟨k, hk, rfl, hB⟩ := hrel
    have HB := Aside0.mk hB
    have hDr := HD.out.step hB
    have HDr := Aside0.mk hDr
    have hc0r := hDr.b0.cell
    have hc1r := hDr.b1.cell
    have HRr := Aside0.mk (Kd.C_below HR1.out hB)
    clear hB hDr
    by_cases hpk : k < P.length
    · obtain ⟨ad, hA1, hx⟩ := Kd.at_int HRr.out k (by omega) (by omega)
      have hrl : Kd.C (Kd.int .i64) wr A1 (is P).length (is P) := by rw [is_length]; exact HRr.out
      have HTK := Aside0.mk (Kd.C_take hrl (m := k) (by rw [is_length]; omega))
      rw [is_rd, Int.toNat_natCast] at hx
      have HTL := Aside0.mk (show ((is P).take k).length = k by rw [List.length_take, is_length]; omega)
      have hkc : k ≤ c1 := by omega
      obtain ⟨o1, o2, o3⟩ := okAt_is HPB.out HPD.out k hpk
      rw [is_getD] at o1 o2 o3
      subst hA1
      have HCO := Aside0.mk (slices_Contains_int_int.calls 1001 (some ad) c1 ((is P).take k) ((P.getD k 0 : Nat) : Int) _ wr HTK.out (by rw [HTL.out]; exact hkc) (contains_f ((is P).take k) _ (by rw [HTL.out]; omega)))
      rw [HTL.out, decide_eq_false o3] at HCO
      generalize P.getD k 0 = x at hx o1 o2 HCO
      have o4 : ¬ ((x : Int) < 0) := by omega
      clear o3 hrl
      gi_wp2
      refine ⟨trivial, callsIn_wide.2 (HCO.out.mono ?_)⟩
      rintro e w3 ⟨rfl, hd3⟩
      have HB3 := Aside0.mk (HB.out.trans (hd3.below.mono HB.out.size))
      clear hd3
      gi_wp2
      go_roundw
      case rel => exact ⟨k + 1, by omega, by go_num, HB3.out⟩
      case measure => simp [intOf]; omega
    · obtain rfl : k = P.length := by omega
      have h5i : ¬ ((4 : Int) < (P.length : Int)) := by omega
      have HM := Aside0.mk (modified_any A c l A1 c1 P wr (HP.out.below HB.out) (Kd.C_below HR.out HB.out) hc hn HRr.out hc1 hn1 HPB.out)
      gi_wp2
      refine wpIn_wide.2 (wp_label ?_)
      gi_wp2
      refine ⟨trivial, callsIn_wide.2 (HM.out.mono ?_)⟩
      rintro e w4 ⟨ga, oa, c4, rfl, hc4, hr4, hb4⟩
      have HR4 := Aside0.mk hr4
      have HB4 := Aside0.mk (HB.out.trans (hb4.mono HB.out.size))
      clear hr4 hb4
      gi_wp2
      refine ⟨trivial, callsIn_wide.2 ((guesses_any (some ⟨ga, oa, none⟩) (4 - P.length) c4 w4).mono ?_)⟩
      rintro e w5 ⟨rfl, hw5⟩
      have hbx5 : Boxed w5 w4.heap.size 22 (.slice (some ⟨ga, oa, none⟩) (modL l P).length c4) := by rw [← hw5, modL_length]; exact Boxed.new w4 22 _
      have hb45 : Below w4.heap.size w4 w5 := by rw [← hw5]; exact (Below.refl _ _).alloc (Nat.le_refl _) _
      have HB5 := Aside0.mk (HB4.out.trans (hb45.mono HB4.out.size))
      have HD5 := Aside0.mk (HD.out.step HB5.out)
      have HG := Aside0.mk (guess1 5 (by omega) (modL l P) (by rw [modL_length]; omega) ga oa c4 w4 (by rw [modL_length]; exact HR4.out) w4.heap.size w5 hb45 (HP.out.below HB5.out) hbx5)
      have HZ5 := Aside0.mk (show w1.heap.size ≤ w5.heap.size from HB5.out.size)
      clear hbx5 hb45 hw5
      gi_wp2
      refine rangeGF (fun v t => (t.setIfInBounds 56 v).setIfInBounds 8 v) (by omega) (gf := 59) (lb := #[.pointer (some ⟨w4.heap.size, 0, none⟩)]) rfl (enters_of Tryd.func59 (by kernel_rfl) rfl) HG.out (Below.refl _ _) rfl
        (fun i => ∀ j, j < i → Bad l P ((guessL (modL l P)).getD j [])) (DecX l P w) (fun X k o o' hX hk ho hc => hX.putObj o' ho hc (by have := HZ5.out; have := HD5.out.size; omega)) (fun j hj => by omega) ?assign ?body ?done ?stop
      case assign =>
        intro y B b L X K hK
        simp only [List.zip_toArray, List.zip_cons_cons, List.zip_nil_left, List.foldl_toArray, List.foldl_cons, List.foldl_nil, List.setIfInBounds_toArray, List.set_cons_succ, List.set_cons_zero] at hK ⊢
        gi_wp2
        exact hK
      case body =>
        intro y i B b X hi hbX hszX hphi hcb hrb
        obtain ⟨gl, hgl⟩ : ∃ gl, (guessL (modL l P)).getD i [] = gl := ⟨_, rfl⟩
        have hmem : gl ∈ guessL (modL l P) := by
          rw [← hgl, List.getD_eq_getElem?_getD, List.getElem?_eq_getElem hi]
          exact List.getElem_mem hi
        have hgl2 := guess_len (by rw [modL_length]; omega) hmem
        rw [modL_length] at hgl2
        have HNX : Aside0 (Bad l P gl → ∀ j, j < i + 1 → Bad l P ((guessL (modL l P)).getD j [])) := ⟨fun hb j hj => by
          by_cases e : j = i
          · rw [e, hgl]; exact hb
          · exact hphi j (by omega)⟩
        rw [hgl] at hcb hrb ⊢
        have HMEM := Aside0.mk hmem
        have HRB := Aside0.mk hrb
        have hDX := HD5.out.step hbX
        have HDX := Aside0.mk hDX
        have hcx0 := hDX.b0.cell
        have hcx1 := hDX.b1.cell
        have HPX := Aside0.mk (HP.out.below (HB5.out.trans (hbX.mono HB5.out.size)))
        have hRX1 := Kd.C_below HR1.out (HB5.out.trans (hbX.mono HB5.out.size))
        have HRX := Aside0.mk (Kd.C_below HR.out (HB5.out.trans (hbX.mono HB5.out.size)))
        have HCL := clone_int A1 c1 (is P) X (by rw [is_length]; exact hRX1) (by rw [is_length]; exact hc1) (by rw [is_length]; omega)
        rw [is_length] at HCL
        have HCL := Aside0.mk HCL
        clear hmem hrb hDX hRX1 hgl hphi hbX
        simp only [List.setIfInBounds_toArray, List.set_cons_succ, List.set_cons_zero]
        gi_wp2
        refine ⟨trivial, CallsIn.inRound y (callsIn_wide.2 (HCL.out.mono ?_))⟩
        rintro e X1 ⟨v, rfl, ho, hb1⟩
        have HO1 := Aside0.mk ho
        have HB1 := Aside0.mk hb1
        clear ho hb1 HCL
        gi_wp2
        gi_loopw [9, 61] (fun v k wr => ∃ (k' : Nat) (Pk : List Nat), k' ≤ gl.length ∧ k = .int .i64 k' ∧ Own .i64 3 wr X.heap.size v (is Pk) ∧ addP l.length P gl = addP l.length Pk (gl.drop k') ∧ Pk.length = P.length + k' ∧ Below X.heap.size X wr) (fun _ k _ => gl.length - (intOf k).toNat)
        case atStart => exact ⟨0, P, Nat.zero_le _, rfl, HO1.out, by rw [List.drop_zero], rfl, HB1.out⟩
        case round =>
          obtain ⟨k, Pk, hk, rfl, hO, hadd, hPk, hB⟩ := hrel
          have HO := Aside0.mk hO
          have HADD := Aside0.mk hadd
          have HBr := Aside0.mk hB
          have hDr := HDX.out.step hB
          have HDr := Aside0.mk hDr
          have hcr0 := hDr.b0.cell
          have hcr1 := hDr.b1.cell
          have HPr := Aside0.mk (HPX.out.below hB)
          have HSr := Aside0.mk hB.size
          have hRBr := Kd.C_below HRB.out hB
          clear hO hadd hB hDr
          by_cases hpk : k < gl.length
          · obtain ⟨ad, hA1, hx⟩ := Kd.at_int hRBr k (by omega) (by omega)
            rw [ns_rd, Int.toNat_natCast] at hx
            have HDC := Aside0.mk (drop_cons_getD gl k hpk)
            generalize gl.getD k 0 = x at hx HDC
            subst hA1
            have HBAD : Aside0 (addP l.length Pk (x :: gl.drop (k + 1)) = none → ∀ j, j < i + 1 → Bad l P ((guessL (modL l P)).getD j [])) := ⟨fun h => HNX.out (fun P' hP' => by rw [HADD.out, HDC.out, h] at hP'; cases hP')⟩
            by_cases hx0 : x.n = 0
            · have HBD := Aside0.mk (HBAD.out (by rw [addP, if_pos hx0]))
              have HLG := Aside0.mk (Log_zero x wr hx0)
              clear hx0
              gi_wp2
              refine ⟨trivial, CallsIn.inRound y (callsIn_wide.2 (HLG.out.mono ?_))⟩
              rintro e w7 ⟨rfl, hd7⟩
              have HD7 := Aside0.mk (HDr.out.step hd7.below)
              have hcr0 := HD7.out.b0.cell
              have HB7 := Aside0.mk (HBr.out.trans (hd7.below.mono HSr.out))
              clear hd7
              gi_wp2
              refine ⟨trivial, ?_⟩
              gi_wp2
              exact ⟨HB7.out, HBD.out⟩
            · have HLG := Aside0.mk (Log_any x wr HPr.out hx0)
              have HAP := Aside0.mk (show addP l.length Pk (x :: gl.drop (k + 1)) = if l.length < lgN x.n + 1 then none else if (l.length - 1 - lgN x.n) ∈ Pk then none else addP l.length (Pk ++ [l.length - 1 - lgN x.n]) (gl.drop (k + 1)) by rw [addP, if_neg hx0])
              have hlgb := (lg_at x.n x.lt hx0).1
              generalize lgN x.n = q at HLG HAP hlgb
              clear hx0
              gi_wp2
              refine ⟨trivial, CallsIn.inRound y (callsIn_wide.2 (HLG.out.mono ?_))⟩
              rintro e w7 ⟨rfl, hd7⟩
              have HD7 := Aside0.mk (HDr.out.step hd7.below)
              have hcr0 := HD7.out.b0.cell
              have HB7 := Aside0.mk (HBr.out.trans (hd7.below.mono HSr.out))
              have HO7 := Aside0.mk (HO.out.below hd7.below)
              clear hd7
              have hqi : (0 : Int) ≤ (q : Int) ∧ (q : Int) < 63 := by omega
              have hli : (4 : Int) < (l.length : Int) ∧ (l.length : Int) ≤ 63 := by omega
              by_cases hneg : l.length < q + 1
              · have HBD := Aside0.mk (HBAD.out (by rw [HAP.out, if_pos hneg]))
                have hni : (l.length : Int) - 1 - (q : Int) < 0 := by omega
                gi_wp2
                refine ⟨trivial, ?_⟩
                gi_wp2
                exact ⟨HB7.out, HBD.out⟩
              · have hni : ¬ ((l.length : Int) - 1 - (q : Int) < 0) := by omega
                obtain ⟨p, hp⟩ : ∃ p : Nat, p = l.length - 1 - q := ⟨_, rfl⟩
                have hpi : (l.length : Int) - 1 - (q : Int) = (p : Int) := by omega
                obtain ⟨AO, cO, hv, hcO, hrO⟩ := Kd.R_reads HO7.out.toR
                subst hv
                have HCO := Aside0.mk (slices_Contains_int_int.calls 1001 AO cO (is Pk) (p : Int) _ w7 hrO hcO (contains_f (is Pk) _ (by rw [is_length]; omega)))
                have hmm : decide ((p : Int) ∈ is Pk) = decide (p ∈ Pk) := decide_eq_decide.2 (is_mem Pk p)
                rw [hmm] at HCO
                rw [← hp] at HAP
                clear hmm hrO hp
                by_cases hpm : p ∈ Pk
                · have HBD := Aside0.mk (HBAD.out (by rw [HAP.out, if_neg hneg, if_pos hpm]))
                  rw [decide_eq_true hpm] at HCO
                  gi_wp2
                  refine ⟨trivial, CallsIn.inRound y (callsIn_wide.2 (HCO.out.mono ?_))⟩
                  rintro e w8 ⟨rfl, hd8⟩
                  have HB8 := Aside0.mk (HB7.out.trans (hd8.below.mono HB7.out.size))
                  clear hd8
                  gi_wp2
                  exact ⟨HB8.out, HBD.out⟩
                · have HADD2 := Aside0.mk (show addP l.length P gl = addP l.length (Pk ++ [p]) (gl.drop (k + 1)) by rw [HADD.out, HDC.out, HAP.out, if_neg hneg, if_neg hpm])
                  rw [decide_eq_false hpm] at HCO
                  gi_wp2
                  refine ⟨trivial, CallsIn.inRound y (callsIn_wide.2 (HCO.out.mono ?_))⟩
                  rintro e w8 ⟨rfl, hd8⟩
                  have HB8 := Aside0.mk (HB7.out.trans (hd8.below.mono HB7.out.size))
                  have HO8 := Aside0.mk (HO7.out.below hd8.below)
                  have HS8 := Aside0.mk HB8.out.size
                  have HL8 := Aside0.mk (show ((is Pk).length + 1) * 8 ≤ 140737488355328 by rw [is_length]; omega)
                  have HIS := Aside0.mk (show is (Pk ++ [p]) = is Pk ++ [(p : Int)] by unfold is; rw [List.map_append]; rfl)
                  clear hd8
                  gi_wp2_with ((with_reducible refine gate_in (b := .append) rfl ?_); (refine in_append_num (w0 := X) X.heap.size rfl _ _ 26 3 .i64 8 rfl Tryd.underlying26 info_int (by decide) (.slice AO (is Pk).length cO) (is Pk) _ rfl rfl HO8.out HB8.out HS8.out HL8.out ?_); intro v9 w9 hown hB9 hg; have HO9 := Aside0.mk hown; have HB9 := Aside0.mk hB9; clear hown hB9 hg)
                  go_roundw
                  case rel => exact ⟨k + 1, Pk ++ [p], by omega, by go_num, by rw [HIS.out]; exact HO9.out, HADD2.out, by rw [List.length_append, hPk]; simp; omega, HB9.out⟩
                  case measure => simp [intOf]; omega
          · have hke : k = gl.length := by omega
            have hki : ¬ ((k : Int) < (gl.length : Int)) := by omega
            have hPs : addP l.length P gl = some Pk := by
              rw [HADD.out, hke, List.drop_length]
              rfl
            obtain ⟨Qk, hPQ, hnd, hQl, hQb⟩ := addP_spec l.length gl P Pk hPs HPD.out
            have hPkb : ∀ p ∈ Pk, p < l.length := fun p hp => by
              rw [hPQ] at hp
              exact (List.mem_append.1 hp).elim (HPB.out p) (hQb p)
            have hQ2 : Pk.length = P.length + Qk.length := by rw [hPQ, List.length_append]
            obtain ⟨AO, cO, hv, hcO, hrO⟩ := Kd.R_reads HO.out.toR
            subst hv
            rw [is_length] at hcO hrO ⊢
            have HSO := Aside0.mk (solve_any A c l AO cO Pk wr HPr.out (Kd.C_below HRX.out HBr.out) hc hn hrO hcO (by omega) hPkb hnd)
            have HPS := Aside0.mk hPs
            have HPKB := Aside0.mk hPkb
            have HQL := Aside0.mk (show Qk.length ≤ 2 by omega)
            have HQ2 := Aside0.mk hQ2
            have HRO := Aside0.mk hrO
            have hpk4 : Pk.length ≤ 4 := by omega
            have HPKL := Aside0.mk hPk
            have HQl := Aside0.mk hQl
            have HKE := Aside0.mk hke
            clear hPQ hnd hQb hPs hPkb hrO hQ2 hPk hQl hke
            gi_wp2
            refine ⟨trivial, CallsIn.inRound y (callsIn_wide.2 (HSO.out.mono ?_))⟩
            rintro e w7 ⟨r, hS, hR, hb7⟩
            have HB7 := Aside0.mk (HBr.out.trans (hb7.mono HSr.out))
            cases r with
            | none =>
              have hR' : e = .returned (.tuple #[.slice none 0 0, .bool false]) := hR
              subst hR'
              have HBD := Aside0.mk (HNX.out (fun P' hP' o ho hco => by
                rw [HPS.out] at hP'
                cases hP'
                exact hS.2 _ ((lin_syn HPKB.out ho).2 hco)))
              clear hS hR hb7
              gi_wp2
              exact ⟨HB7.out, HBD.out⟩
            | some o =>
              obtain ⟨go, co, rfl, hco, hgo, hro⟩ := hR
              have hol : o.length = Pk.length := hS.1
              have HGOOD := Aside0.mk (show Good l P gl (addAt l Pk o) (sort2 (is (errsOf P.length Pk o))) from ⟨Pk, o, HPS.out, hol, (lin_syn HPKB.out hol).1 hS.2, rfl, rfl⟩)
              have HOL := Aside0.mk hol
              have HVO := Aside0.mk hro
              have HD7 := Aside0.mk (HDX.out.step HB7.out)
              have hcr0 := HD7.out.b0.cell
              have hcr1 := HD7.out.b1.cell
              have HRO7 := Aside0.mk (Kd.C_below HRO.out hb7)
              have hcl := clone_u8 A c (ns l) w7 (by rw [ns_length]; exact Kd.C_below HRX.out HB7.out) (by rw [ns_length]; exact hc) (by rw [ns_length]; omega)
              rw [ns_length] at hcl
              have HCL := Aside0.mk hcl
              rw [hol] at hco ⊢
              clear hS hro hb7 hcl hol HSO
              gi_wp2
              refine ⟨trivial, CallsIn.inRound y (callsIn_wide.2 (HCL.out.mono ?_))⟩
              rintro e w8 ⟨v8, rfl, ho8, hb8⟩
              obtain ⟨gw, cw, rfl, hcw, hgw, hrow⟩ := own_crow ho8 (by rw [ns_length]; omega)
              rw [ns_length] at hcw ⊢
              have HWR := Aside0.mk hrow
              have HB8 := Aside0.mk hb8
              have HGW := Aside0.mk hgw
              clear ho8 hb8 hrow hgw HCL
              gi_wp2
              obtain ⟨w9, hw9⟩ : ∃ w9, w8.alloc (.cells #[.slice (some ⟨gw, 0, none⟩) l.length cw, .slice none 0 0] 39) = w9 := ⟨_, rfl⟩
              have hb9 : Below w8.heap.size w8 w9 := by rw [← hw9]; exact (Below.refl _ _).alloc (Nat.le_refl _) _
              have hF9 : w9.heap[w8.heap.size]? = some (.cells #[.slice (some ⟨gw, 0, none⟩) l.length cw, .slice none 0 0] 39 (0, 0)) := by rw [← hw9]; exact heap_alloc_new w8 _
              have hz9 : w9.heap.size = w8.heap.size + 1 := by rw [← hw9]; simp
              have hgl8 := HWR.out.lt
              rw [hw9]
              obtain ⟨gf, hgf⟩ : ∃ gf, w8.heap.size = gf := ⟨_, rfl⟩
              have HW9 := Aside0.mk (HWR.out.below hb9)
              have HB9 := Aside0.mk (HB8.out.trans (hb9.mono HB8.out.size))
              rw [hgf] at hF9 hz9 hgl8 ⊢
              have HF9 := Aside0.mk hF9
              have HZ9 := Aside0.mk hz9
              have HGL8 := Aside0.mk hgl8
              have HWF := Aside0.mk (show w7.heap.size ≤ gf by rw [← hgf]; exact HB8.out.size)
              clear hw9 hb9 hF9 hz9 hgf hgl8
              gi_loopw [104] (fun i wr => ∃ (k : Nat) (ev : Value), k ≤ Pk.length ∧ i = .int .i64 k ∧ Own .i64 3 wr (gf + 1) ev (is (errsK P.length Pk o k)) ∧ wr.heap[gf]? = some (.cells #[.slice (some ⟨gw, 0, none⟩) l.length cw, ev] 39 (0, 0)) ∧ CRow (Value.int .u8) 0 wr gw (ns (addAt l (Pk.take k) (o.take k))) ∧ Below w7.heap.size w7 wr) (fun i _ => Pk.length - (intOf i).toNat)
              case atStart => exact ⟨0, .slice none 0 0, Nat.zero_le _, rfl, World.ownsRow_nil _ _ _ _, HF9.out, HW9.out, HB9.out⟩
              case round =>
                rename_i wr0
                obtain ⟨k, ev, hk, rfl, hE, hF, hA, hB⟩ := hrel
                have HE := Aside0.mk hE
                have HF := Aside0.mk hF
                have HA := Aside0.mk hA
                have HBk := Aside0.mk hB
                have hfc0 : wr.cell? ⟨gf, 0, none⟩ = some (.slice (some ⟨gw, 0, none⟩) l.length cw) := by unfold World.cell?; rw [hF]; simp
                have hfc1 : wr.cell? ⟨gf, 1, none⟩ = some ev := by unfold World.cell?; rw [hF]; simp
                have hff1 : wr.frozen? ⟨gf, 1, none⟩ = false := by unfold World.frozen?; rw [hF]; simp
                have HDk := Aside0.mk (HDX.out.step (HB7.out.trans (hB.mono HB7.out.size)))
                have hcr1 := HDk.out.b1.cell
                have hRk := Kd.C_below HRO7.out hB
                have HVk := Aside0.mk (HVO.out.below hB)
                clear hE hF hA hB
                by_cases hpk : k < Pk.length
                · obtain ⟨ad, hA1, hx⟩ := Kd.at_int hRk k (by omega) (by omega)
                  rw [is_rd, Int.toNat_natCast] at hx
                  subst hA1
                  have hpl : Pk.getD k 0 < l.length := HPKB.out _ (getD_mem0 hpk)
                  have HES := Aside0.mk (errsK_succ P.length Pk o k)
                  have hal : (addAt l (Pk.take k) (o.take k)).length = l.length := addAt_length _ _ _
                  have hst := addAt_step Pk l o k hpk HOL.out
                  generalize Pk.getD k 0 = p at hx hpl HES hst
                  generalize addAt l (Pk.take k) (o.take k) = L at hst hal HA
                  have hc1 := HA.out.drew.cell p (by rw [ns_length]; omega)
                  have hf1 := HA.out.drew.free p (by rw [ns_length]; omega)
                  have hc2 := HVk.out.drew.cell k (by rw [ns_length, HOL.out]; omega)
                  rw [ns_at] at hc1 hc2
                  have hset := HA.out.drew.set p (by rw [ns_length]; omega) (((L.getD p 0 + o.getD k 0).n : Nat) : Int)
                  rw [ns_set, ← hst] at hset
                  have HNA := Aside0.mk hset
                  have hxor := xor_n (L.getD p 0) (o.getD k 0)
                  generalize L.getD p 0 = x at hc1 hxor HNA
                  generalize hyy : o.getD k 0 = yv at hc2 hxor HNA HES
                  have HYV := Aside0.mk hyy
                  have hbp : (0 : Int) ≤ (p : Int) ∧ (p : Int) < (l.length : Int) := by omega
                  have hbk : (0 : Int) ≤ (k : Int) ∧ (k : Int) < (Pk.length : Int) := by omega
                  have hfd0 : wr.drew.cell? ⟨gf, 0, none⟩ = some (.slice (some ⟨gw, 0, none⟩) l.length cw) := hfc0
                  have HBd := Aside0.mk HBk.out.drew
                  have HDd := Aside0.mk (HDk.out.step (Below.refl _ wr).drew)
                  have HEd := Aside0.mk (HE.out.below (Below.refl _ wr).drew)
                  have HFd := Aside0.mk (show wr.drew.heap[gf]? = some (.cells #[.slice (some ⟨gw, 0, none⟩) l.length cw, ev] 39 (0, 0)) from HF.out)
                  have HVd := Aside0.mk HVk.out.drew
                  clear hst hset hal hyy hRk hfc0 hfc1 hff1 hcr1
                  gi_wp2
                  refine startR_ y _ (by kernel_rfl) (fun h => by obtain ⟨a0, w0, h0⟩ := h; exact h0) (n := 12) (S := fun w' => w'.cell? ⟨gf, 0, none⟩ = some (.slice (some ⟨gw, 0, none⟩) l.length cw) ∧ w'.cell? ⟨gw, p, none⟩ = some (.int .u8 (x.n : Nat)) ∧ w'.cell? ⟨go, k, none⟩ = some (.int .u8 (yv.n : Nat))) (ds := [11]) #[false, false, false, false, false, false, false, false, false, false, false, false] (by kernel_rfl) rfl rfl ⟨hfd0, hc1, hc2⟩ (fun hHeld => ?_)
                  generalize wr.drew = wd at hfd0 hc1 hc2 hf1 HNA HBd HDd HEd HFd HVd hHeld ⊢
                  refine pure_ (i := 0) (N := some 109) (v := ?_) (a' := ?_) #[true, false, false, false, false, false, false, false, false, false, false, false] rfl rfl (by kernel_rfl) (fun _ _ _ h => h) (Or.inl ⟨by rfl, ?_⟩) ?_ ?_
                  rotate_left
                  · intro w'
                    go_simp
                    with_reducible rfl
                  rotate_left
                  · simp only [Act.put, List.setIfInBounds_toArray, List.set_cons_zero, List.set_cons_succ, i64_w, i32_w]
                    rfl
                  refine pure_ (i := 2) (N := some 111) (v := ?_) (a' := ?_) #[true, false, true, false, false, false, false, false, false, false, false, false] rfl rfl (by kernel_rfl) (fun _ _ _ h => h) (Or.inl ⟨by rfl, ?_⟩) ?_ ?_
                  rotate_left
                  · intro w'
                    go_simp
                    with_reducible rfl
                  rotate_left
                  · simp only [Act.put, List.setIfInBounds_toArray, List.set_cons_zero, List.set_cons_succ, i64_w, i32_w]
                    rfl
                  refine pure_ (i := 5) (N := some 114) (v := ?_) (a' := ?_) #[true, false, true, false, false, true, false, false, false, false, false, false] rfl rfl (by kernel_rfl) (fun _ _ _ h => h) (Or.inl ⟨by rfl, ?_⟩) ?_ ?_
                  rotate_left
                  · intro w'
                    go_simp
                    with_reducible rfl
                  rotate_left
                  · simp only [Act.put, List.setIfInBounds_toArray, List.set_cons_zero, List.set_cons_succ, i64_w, i32_w]
                    rfl
                  refine pure_ (i := 6) (N := some 115) (v := ?_) (a' := ?_) #[true, false, true, false, false, true, true, false, false, false, false, false] rfl rfl (by kernel_rfl) (fun _ _ _ h => h) (Or.inl ⟨by rfl, ?_⟩) ?_ ?_
                  rotate_left
                  · intro w'
                    go_simp
                    with_reducible rfl
                  rotate_left
                  · simp only [Act.put, List.setIfInBounds_toArray, List.set_cons_zero, List.set_cons_succ, i64_w, i32_w]
                    rfl
                  refine pure_ (i := 7) (N := some 116) (v := ?_) (a' := ?_) #[true, false, true, false, false, true, true, true, false, false, false, false] rfl rfl (by kernel_rfl) (fun _ _ _ h => h) (Or.inl ⟨by rfl, ?_⟩) ?_ ?_
                  rotate_left
                  · intro w'
                    go_simp
                    with_reducible rfl
                  rotate_left
                  · simp only [Act.put, List.setIfInBounds_toArray, List.set_cons_zero, List.set_cons_succ, i64_w, i32_w]
                    rfl
                  refine take_ (i := 1) (N := some 110) (v := ?_) (a' := ?_) #[true, true, true, false, false, true, true, true, false, false, false, false] rfl rfl (by kernel_rfl) (fun _ _ _ h => h) (Or.inl ⟨by rfl, ?_⟩) hHeld ?_ ?_
                  rotate_left
                  · rintro w' ⟨s0, s1, s2⟩
                    go_simp
                    with_reducible rfl
                  rotate_left
                  · simp only [Act.put, List.setIfInBounds_toArray, List.set_cons_zero, List.set_cons_succ, i64_w, i32_w]
                    rfl
                  refine pure_ (i := 3) (N := some 112) (v := ?_) (a' := ?_) #[true, true, true, true, false, true, true, true, false, false, false, false] rfl rfl (by kernel_rfl) (fun _ _ _ h => h) (Or.inl ⟨by rfl, ?_⟩) ?_ ?_
                  rotate_left
                  · intro w'
                    go_simp
                    with_reducible rfl
                  rotate_left
                  · simp only [Act.put, List.setIfInBounds_toArray, List.set_cons_zero, List.set_cons_succ, i64_w, i32_w]
                    rfl
                  refine take_ (i := 4) (N := some 113) (v := ?_) (a' := ?_) #[true, true, true, true, true, true, true, true, false, false, false, false] rfl rfl (by kernel_rfl) (fun _ _ _ h => h) (Or.inl ⟨by rfl, ?_⟩) hHeld ?_ ?_
                  rotate_left
                  · rintro w' ⟨s0, s1, s2⟩
                    go_simp
                    with_reducible rfl
                  rotate_left
                  · simp only [Act.put, List.setIfInBounds_toArray, List.set_cons_zero, List.set_cons_succ, i64_w, i32_w]
                    rfl
                  refine take_ (i := 8) (N := some 117) (v := ?_) (a' := ?_) #[true, true, true, true, true, true, true, true, true, false, false, false] rfl rfl (by kernel_rfl) (fun _ _ _ h => h) (Or.inl ⟨by rfl, ?_⟩) hHeld ?_ ?_
                  rotate_left
                  · rintro w' ⟨s0, s1, s2⟩
                    go_simp
                    with_reducible rfl
                  rotate_left
                  · simp only [Act.put, List.setIfInBounds_toArray, List.set_cons_zero, List.set_cons_succ, i64_w, i32_w]
                    rfl
                  refine pure_ (i := 9) (N := some 118) (v := ?_) (a' := ?_) #[true, true, true, true, true, true, true, true, true, true, false, false] rfl rfl (by kernel_rfl) (fun _ _ _ h => h) (Or.inl ⟨by rfl, ?_⟩) ?_ ?_
                  rotate_left
                  · intro w'
                    go_simp
                    with_reducible rfl
                  rotate_left
                  · simp only [Act.put, List.setIfInBounds_toArray, List.set_cons_zero, List.set_cons_succ, i64_w, i32_w]
                    rfl
                  refine pure_ (i := 10) (N := some 119) (v := ?_) (a' := ?_) #[true, true, true, true, true, true, true, true, true, true, true, false] rfl rfl (by kernel_rfl) (fun _ _ _ h => h) (Or.inl ⟨by rfl, ?_⟩) ?_ ?_
                  rotate_left
                  · intro w'
                    go_simp
                    with_reducible rfl
                  rotate_left
                  · simp only [Act.put, List.setIfInBounds_toArray, List.set_cons_zero, List.set_cons_succ, i64_w, i32_w]
                    rfl
                  refine last_ (i := 11) (N := none) #[true, true, true, true, true, true, true, true, true, true, true, true] rfl rfl (by kernel_rfl) (by decide) (fun K hK => ?_)
                  refine skip_ (w1 := ?_) (by rfl) rfl ?_ ?_
                  rotate_left
                  · go_simp
                    rfl
                  refine hK.out _ _ ?_
                  clear hK K
                  refine done_ (by kernel_rfl) ?_
                  have hgof := HVO.out.lt
                  have hgw7 := HGW.out
                  have HBX := Aside0.mk (HBd.out.setCell (p := ⟨gw, p, none⟩) HGW.out (.int .u8 ((x + yv).n : Nat)))
                  have HEX := Aside0.mk (HEd.out.set gw p (.int .u8 ((x + yv).n : Nat)) (by have := HGL8.out; omega))
                  have HFX := Aside0.mk (show (wd.setCell ⟨gw, p, none⟩ (.int .u8 ((x + yv).n : Nat))).heap[gf]? = some (.cells #[.slice (some ⟨gw, 0, none⟩) l.length cw, ev] 39 (0, 0)) by rw [heap_setCell_other _ _ _ _ (by have := HGL8.out; simp; omega)]; exact HFd.out)
                  have HVX := Aside0.mk (HVd.out.other gw p (.int .u8 ((x + yv).n : Nat)) (by omega))
                  have HDX2 := Aside0.mk (HDX.out.step (HB7.out.trans (HBX.out.mono HB7.out.size)))
                  generalize wd.setCell ⟨gw, p, none⟩ (.int .u8 ((x + yv).n : Nat)) = wx at HBX HEX HFX HVX HDX2 HNA ⊢
                  have hcr1 := HDX2.out.b1.cell
                  have hyx : wx.cell? ⟨go, k, none⟩ = some (.int .u8 (yv.n : Nat)) := by
                    have h0 := HVX.out.cell k (by rw [ns_length, HOL.out]; omega)
                    rw [ns_at, HYV.out] at h0
                    exact h0
                  clear hfd0 hc1 hc2 hf1 HBd HEd HFd HVd HDd hHeld hgof hgw7 hxor
                  by_cases hkP : P.length ≤ k
                  · have hkPi : (P.length : Int) ≤ (k : Int) := by omega
                    by_cases hy0 : yv = 0
                    · have hyn : yv.n = 0 := by rw [hy0]; rfl
                      have HEN := Aside0.mk (show errsK P.length Pk o (k + 1) = errsK P.length Pk o k by rw [HES.out, if_neg (fun h => h.2 hy0), List.append_nil])
                      rw [hyn] at hyx
                      clear hyn
                      gi_wp2
                      go_roundw
                      case rel => exact ⟨k + 1, ev, by omega, by go_num, by rw [HEN.out]; exact HEX.out, HFX.out, HNA.out, HBX.out⟩
                      case measure => simp [intOf]; omega
                    · have hyn : ¬ ((yv.n : Int) = 0) := fun h => hy0 (G.ext (by show yv.n = 0; omega))
                      have hynb : ((yv.n : Int) == 0) = false := beq_eq_false_iff_ne.2 hyn
                      have HEN := Aside0.mk (show is (errsK P.length Pk o (k + 1)) = is (errsK P.length Pk o k) ++ [(p : Int)] by rw [HES.out, if_pos ⟨hkP, hy0⟩]; unfold is; rw [List.map_append]; rfl)
                      have HLX := Aside0.mk (show ((is (errsK P.length Pk o k)).length + 1) * 8 ≤ 140737488355328 by have := errsK_le P.length Pk o k; rw [is_length]; omega)
                      have HSX := Aside0.mk (show gf + 1 ≤ wx.heap.size by have := (Array.getElem?_eq_some_iff.1 HFX.out).1; omega)
                      have hfx1 : wx.cell? ⟨gf, 1, none⟩ = some ev := by unfold World.cell?; rw [HFX.out]; simp
                      clear hy0
                      gi_wp2_with ((with_reducible refine gate_in (b := .append) rfl ?_); (refine in_append_num (w0 := wx) (gf + 1) rfl _ _ 26 3 .i64 8 rfl Tryd.underlying26 info_int (by decide) ev (is (errsK P.length Pk o k)) _ rfl rfl HEX.out (Below.refl _ _) HSX.out HLX.out ?_); intro v9 w9b hown hB9 hg; obtain ⟨A9, c9, rfl⟩ := own_form hown; have HO9 := Aside0.mk hown; have HB9b := Aside0.mk hB9; have hF9b : w9b.heap[gf]? = some (.cells #[.slice (some ⟨gw, 0, none⟩) l.length cw, ev] 39 (0, 0)) := (hB9.block gf (by omega)).trans HFX.out; have HF9b := Aside0.mk hF9b; have hf9c : w9b.cell? ⟨gf, 1, none⟩ = some ev := (by unfold World.cell?; rw [hF9b]; simp); have hf9f : w9b.frozen? ⟨gf, 1, none⟩ = false := (by unfold World.frozen?; rw [hF9b]; simp); clear hown hB9 hg hF9b)
                      go_roundw
                      case rel =>
                        have hgw8 := HGL8.out
                        refine ⟨k + 1, .slice A9 ((is (errsK P.length Pk o k)).length + 1) c9, by omega, by go_num, ?_, ?_, (HNA.out.belowB HB9b.out (by omega)).other gf 1 _ (by omega), ((HBX.out.trans (HB9b.out.mono (by have := HWF.out; omega))).setCell (p := ⟨gf, 1, none⟩) HWF.out _)⟩
                        · rw [HEN.out]
                          have e9 : (is (errsK P.length Pk o k) ++ [(p : Int)]).length = (is (errsK P.length Pk o k)).length + 1 := by simp
                          refine Own.set (show w9b.ownsRow (gf + 1) 3 1 (.slice A9 ((is (errsK P.length Pk o k)).length + 1) c9) (is (errsK P.length Pk o k) ++ [(p : Int)]).length (nums .i64 (is (errsK P.length Pk o k) ++ [(p : Int)])) from ?_) gf 1 _ (by omega)
                          rw [← e9]
                          exact HO9.out
                        · have := heap_setCell_same _ _ 1 _ _ (.slice A9 ((is (errsK P.length Pk o k)).length + 1) c9) HF9b.out
                          simpa using this
                      case measure => simp [intOf]; omega
                  · have hkPi : ¬ ((P.length : Int) ≤ (k : Int)) := by omega
                    have HEN := Aside0.mk (show errsK P.length Pk o (k + 1) = errsK P.length Pk o k by rw [HES.out, if_neg (fun h => hkP h.1), List.append_nil])
                    gi_wp2
                    go_roundw
                    case rel => exact ⟨k + 1, ev, by omega, by go_num, by rw [HEN.out]; exact HEX.out, HFX.out, HNA.out, HBX.out⟩
                    case measure => simp [intOf]; omega
                · have hkn : k = Pk.length := by omega
                  have hkni : ¬ ((k : Int) < (Pk.length : Int)) := by omega
                  have HEF := Aside0.mk (show Own .i64 3 wr w7.heap.size ev (is (errsOf P.length Pk o)) by
                    have := HE.out
                    rw [hkn] at this
                    exact this.base_le (by have := HWF.out; omega))
                  have HAF := Aside0.mk (show CRow (Value.int .u8) 0 wr gw (ns (addAt l Pk o)) by
                    have := HA.out
                    rw [hkn, List.take_of_length_le (Nat.le_refl _), List.take_of_length_le (by rw [HOL.out]; omega)] at this
                    exact this)
                  have HSR := Aside0.mk (Sort_any ev (is (errsOf P.length Pk o)) w7 wr HBk.out HEF.out (by rw [is_length]; exact Nat.le_trans (errsOf_le (q := Qk.length) HQ2.out) HQL.out))
                  have HNB1 := Aside0.mk (show some gw ≠ ev.ownBlock from HE.out.noblock (by have := HGL8.out; omega))
                  have HNB2 := Aside0.mk (show some gf ≠ ev.ownBlock from HE.out.noblock (by omega))
                  obtain ⟨AE, cE, hev⟩ := own_form HEF.out
                  subst hev
                  clear hkn hRk hff1
                  gi_wp2
                  refine ⟨trivial, CallsIn.inRound y (callsIn_wide.2 (HSR.out.mono ?_))⟩
                  rintro e ws ⟨rfl, hOs, hBs, hss, hks⟩
                  have hFs : ws.heap[gf]? = some (.cells #[.slice (some ⟨gw, 0, none⟩) l.length cw, .slice AE (is (errsOf P.length Pk o)).length cE] 39 (0, 0)) := (hks gf (Array.getElem?_eq_some_iff.1 HF.out).1 HNB2.out).trans HF.out
                  have hgws : ws.heap[gw]? = wr.heap[gw]? := hks gw HAF.out.lt HNB1.out
                  have HAS := Aside0.mk (show CRow (Value.int .u8) 0 ws gw (ns (addAt l Pk o)) from ⟨Nat.lt_of_lt_of_le HAF.out.lt hss, fun j hj => (World.cell?_of_block (a := ⟨gw, j, none⟩) hgws).trans (HAF.out.cell j hj), fun j hj => by
                    have := HAF.out.free j hj
                    unfold World.frozen? at this ⊢
                    rw [show ws.heap[(⟨gw, j, none⟩ : Addr).block]? = wr.heap[gw]? from hgws]
                    exact this⟩)
                  have HOS := Aside0.mk hOs
                  have HBXS := Aside0.mk (HB7.out.trans (hBs.mono HB7.out.size))
                  have HDS := Aside0.mk (HDX.out.step HBXS.out)
                  have hfs0 : ws.cell? ⟨gf, 0, none⟩ = some (.slice (some ⟨gw, 0, none⟩) l.length cw) := by unfold World.cell?; rw [hFs]; simp
                  have hfs1 : ws.cell? ⟨gf, 1, none⟩ = some (.slice AE (is (errsOf P.length Pk o)).length cE) := by unfold World.cell?; rw [hFs]; simp
                  obtain ⟨hk0, hk1, hk2, hk3⟩ := HDS.out.cells
                  have hk4 := HDS.out.b3.frozen
                  have hk5 := HDS.out.b3.cell
                  clear hFs hgws hOs hBs hss hks hfc0 hfc1 hcr1
                  gi_wp2
                  have hst := dec_stored (g := w.heap.size + 1 + 1) (h := w.heap.size + 1 + 1 + 1) (by omega) HDS.out.b2 HDS.out.b3 rfl (.slice (some ⟨gw, 0, none⟩) l.length cw) (.slice AE (is (errsOf P.length Pk o)).length cE) 0
                  have hgwl := HGW.out
                  have hsz7 := HD7.out.size
                  have hbf := ((HDS.out.below.setCell (p := ⟨w.heap.size + 1 + 1, 0, none⟩) (by simp; omega) (.slice (some ⟨gw, 0, none⟩) l.length cw)).setCell (p := ⟨w.heap.size + 1 + 1, 1, none⟩) (by simp; omega) (.slice AE (is (errsOf P.length Pk o)).length cE)).setCell (p := ⟨w.heap.size + 1 + 1 + 1, 0, none⟩) (by simp; omega) (.int .i64 0)
                  refine ⟨fun kk oo hk ho => ?_, addAt l Pk o, sort2 (is (errsOf P.length Pk o)), gw, cw, .slice AE (is (errsOf P.length Pk o)).length cE, ⟨gl, HMEM.out, HGOOD.out⟩, ?_, hst.2, ?_, ?_, ?_, ?_, hbf⟩
                  · have hX := (HBXS.out.block kk (Array.getElem?_eq_some_iff.1 hk).1).trans hk
                    have n4 : kk ≠ w.heap.size + 1 + 1 := fun e => by
                      rw [e, HDX.out.b2] at hk
                      cases hk
                      cases ho
                    have n5 : kk ≠ w.heap.size + 1 + 1 + 1 := fun e => by
                      have hb3 := HDX.out.b3
                      unfold Boxed at hb3
                      rw [e, hb3] at hk
                      cases hk
                      cases ho
                    rw [heap_setCell_other _ _ _ _ n5, heap_setCell_other _ _ _ _ n4, heap_setCell_other _ _ _ _ n4]
                    exact hX
                  · rw [addAt_length]; exact hst.1
                  · rw [addAt_length]; exact hcw
                  · omega
                  · exact ((HAS.out.other _ _ _ (by omega)).other _ _ _ (by omega)).other _ _ _ (by omega)
                  · exact (((HOS.out.set _ _ _ (by omega)).set _ _ _ (by omega)).set _ _ _ (by omega)).base_le (by omega)
      case done =>
        intro D X hD hb hphi hdef
        have hDX := HD5.out.step hb
        have HDX := Aside0.mk hDX
        obtain ⟨hf0, hf1, hcc0, hcc1⟩ := hDX.cells
        have hf2 := hDX.b3.frozen
        have hcc2 := hDX.b3.cell
        have HPHI := Aside0.mk hphi
        have HDF := Aside0.mk hdef
        have HSD := Aside0.mk (show w.heap.size + 4 ≤ D from Nat.le_trans HD5.out.size hD)
        clear hDX hphi hdef hb hD
        gi_wp2
        have hst := dec_stored (g := w.heap.size + 1 + 1) (h := w.heap.size + 1 + 1 + 1) (by omega) HDX.out.b2 HDX.out.b3 rfl (.slice none 0 0) (.slice none 0 0) 190
        have hbe := ((HDX.out.below.setCell (p := ⟨w.heap.size + 1 + 1, 0, none⟩) (by simp; omega) (.slice none 0 0)).setCell (p := ⟨w.heap.size + 1 + 1, 1, none⟩) (by simp; omega) (.slice none 0 0)).setCell (p := ⟨w.heap.size + 1 + 1 + 1, 0, none⟩) (by simp; omega) (.int .i64 190)
        have hdf : (((X.setCell ⟨w.heap.size + 1 + 1, 0, none⟩ (.slice none 0 0)).setCell ⟨w.heap.size + 1 + 1, 1, none⟩ (.slice none 0 0)).setCell ⟨w.heap.size + 1 + 1 + 1, 0, none⟩ (.int .i64 190)).heap[D]? = some (.deferred (some [])) := by
          have := HSD.out
          rw [heap_setCell_other _ _ _ _ (show D ≠ _ by simp; omega), heap_setCell_other _ _ _ _ (show D ≠ _ by simp; omega), heap_setCell_other _ _ _ _ (show D ≠ _ by simp; omega)]
          exact HDF.out
        generalize (((X.setCell ⟨w.heap.size + 1 + 1, 0, none⟩ (.slice none 0 0)).setCell ⟨w.heap.size + 1 + 1, 1, none⟩ (.slice none 0 0)).setCell ⟨w.heap.size + 1 + 1 + 1, 0, none⟩ (.int .i64 190)) = X2 at hst hbe hdf ⊢
        clear hf0 hf1 hcc0 hcc1 hf2 hcc2
        have hK := fun o' => (KeepC.refl X2).putObj o' hdf rfl
        refine ⟨by simp, .inl ⟨_, _, rfl, run_takeDeferred hdf, ?_⟩⟩
        refine ⟨_, results_ci (by rfl) _ _ (w.heap.size + 1 + 1) (w.heap.size + 1 + 1 + 1) _ _ _ _ 190 rfl ((hK _).2 _ _ hst.1 rfl) Tryd.underlying39 rfl (by kernel_rfl) rfl ((hK _).cell hst.2) Tryd.underlying33, none, ?_, rfl, hbe.grown (grownBy_putObj' X2 D _) hbe.size (fun j e => by cases e; have := HSD.out; omega)⟩
        intro g hg
        obtain ⟨j, hj, rfl⟩ := List.getElem_of_mem hg
        have := HPHI.out j hj
        rwa [List.getD_eq_getElem?_getD, List.getElem?_eq_getElem hj] at this
      case stop =>
        intro D X hD hx hdef
        have HX := Aside0.mk hx
        have HDF := Aside0.mk hdef
        have HSD := Aside0.mk (show w.heap.size + 4 ≤ D from Nat.le_trans HD5.out.size hD)
        clear hx hdef hD
        gi_wp2
        obtain ⟨x, er, g, cx, v, h1, h2, h3, h4, h5, h6, h7, h8⟩ := HX.out
        have hdf := HDF.out
        have hK := fun o' => (KeepC.refl X).putObj o' hdf rfl
        refine ⟨by simp, .inl ⟨_, _, rfl, run_takeDeferred hdf, ?_⟩⟩
        exact ⟨_, results_ci (by rfl) _ _ (w.heap.size + 1 + 1) (w.heap.size + 1 + 1 + 1) _ _ _ _ 0 rfl ((hK _).2 _ _ h2 rfl) Tryd.underlying39 rfl (by kernel_rfl) rfl ((hK _).cell h3) Tryd.underlying33, some (x, er), h1, ⟨g, cx, v, rfl, h4, h5, h6.keepC (hK _), h7.keepC (hK _)⟩, h8.grown (grownBy_putObj' X D _) h8.size (fun j e => by cases e; have := HSD.out; omega)⟩
end Go.Proofs.YtlifghomejdhnaaDoor
