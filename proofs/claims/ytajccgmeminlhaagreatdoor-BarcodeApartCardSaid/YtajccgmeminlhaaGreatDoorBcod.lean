/- Bcod: of the parts Num, Carr, Payl, Wrt, Rdb; each part tells what it proves. -/
import Derived.Test.YtajccgmeminlhaaGreatDoorProg
import Derived.Test.YtajccgmeminlhaaGreatDoorSola
import Derived.Test.YtajccgmeminlhaaGreatDoorBarM
import Derived.Laws.CopyOwn
import Derived.Test.YtajccgmeminlhaaGreatDoorDec22
import Derived.Stop.BytesEq
import Derived.Test.YtajccgmeminlhaaGreatDoorBarP
import Derived.Laws.Cover3
section
/- Numbers to the base 64 and to the base 10: a number times ten and a digit; a number divided by ten; the decimal digits. -/
set_option linter.unusedVariables false
set_option linter.unusedSimpArgs false
namespace Go.Proofs.YtajccgmeminlhaaGreatDoor.Num

/-- The value of digits to the base 64, the most significant first. -/
def val : List Nat → Nat
  | [] => 0
  | x :: xs => x * 64 ^ xs.length + val xs
theorem val_append (a b : List Nat) : val (a ++ b) = val a * 64 ^ b.length + val b := by
  induction a with
  | nil => simp [val]
  | cons x xs ih =>
    rw [List.cons_append, val, val, ih, List.length_append, Nat.pow_add, Nat.add_mul, Nat.mul_assoc]
    omega
theorem val_lt : ∀ L : List Nat, (∀ x ∈ L, x < 64) → val L < 64 ^ L.length
  | [], _ => by simp [val]
  | x :: xs, h => by
    have h1 := val_lt xs fun y hy => h y (by simp [hy])
    have h2 := h x (by simp)
    rw [val, List.length_cons, Nat.pow_succ]
    have h3 : x * 64 ^ xs.length ≤ 63 * 64 ^ xs.length := Nat.mul_le_mul_right _ (by omega)
    omega
theorem val_zero (L : List Nat) : val L = 0 ↔ L = List.replicate L.length 0 := by
  induction L with
  | nil => simp [val]
  | cons x xs ih =>
    rw [val, List.length_cons, List.replicate_succ, List.cons.injEq, ← ih, Nat.add_eq_zero_iff, Nat.mul_eq_zero]
    have : 64 ^ xs.length ≠ 0 := Nat.pos_iff_ne_zero.1 (Nat.pow_pos (by decide))
    simp [this]
theorem val_inj : ∀ a b : List Nat, a.length = b.length → (∀ x ∈ a, x < 64) → (∀ x ∈ b, x < 64) → val a = val b → a = b
  | [], [], _, _, _, _ => rfl
  | [], _ :: _, h, _, _, _ => by simp at h
  | _ :: _, [], h, _, _, _ => by simp at h
  | x :: xs, y :: ys, h, ha, hb, he => by
    have hl : xs.length = ys.length := by simpa using h
    have h1 := val_lt xs fun z hz => ha z (by simp [hz])
    have h2 := val_lt ys fun z hz => hb z (by simp [hz])
    rw [val, val, hl] at he
    rw [hl] at h1
    have hx : x = y := by
      rcases Nat.lt_trichotomy x y with h3 | h3 | h3
      · have := Nat.mul_le_mul_right (64 ^ ys.length) (show x + 1 ≤ y from h3)
        rw [Nat.add_mul] at this
        omega
      · exact h3
      · have := Nat.mul_le_mul_right (64 ^ ys.length) (show y + 1 ≤ x from h3)
        rw [Nat.add_mul] at this
        omega
    subst hx
    rw [val_inj xs ys hl (fun z hz => ha z (by simp [hz])) (fun z hz => hb z (by simp [hz])) (by omega)]
/-- Ten times a number and a digit: the digits, and what is carried. -/
def mulL : List Nat → Nat → List Nat × Nat
  | [], d => ([], d)
  | x :: xs, d => (((mulL xs d).2 + 10 * x) % 64 :: (mulL xs d).1, ((mulL xs d).2 + 10 * x) / 64)
theorem mulL_length : ∀ (L : List Nat) (d : Nat), (mulL L d).1.length = L.length
  | [], _ => rfl
  | x :: xs, d => by simp [mulL, mulL_length xs d]
theorem mulL_digit : ∀ (L : List Nat) (d : Nat), ∀ x ∈ (mulL L d).1, x < 64
  | [], _, x, h => by simp [mulL] at h
  | y :: ys, d, x, h => by
    rw [mulL, List.mem_cons] at h
    rcases h with rfl | h
    · exact Nat.mod_lt _ (by decide)
    · exact mulL_digit ys d x h
theorem mulL_val : ∀ (L : List Nat) (d : Nat), 10 * val L + d = (mulL L d).2 * 64 ^ L.length + val (mulL L d).1
  | [], d => by simp [mulL, val]
  | x :: xs, d => by
    have ih := mulL_val xs d
    rw [mulL, val, val, mulL_length, List.length_cons, Nat.pow_succ]
    have e := Nat.div_add_mod ((mulL xs d).2 + 10 * x) 64
    generalize ((mulL xs d).2 + 10 * x) / 64 = qq at e ⊢
    generalize ((mulL xs d).2 + 10 * x) % 64 = rr at e ⊢
    have e2 : ((mulL xs d).2 + 10 * x) * 64 ^ xs.length = (64 * qq + rr) * 64 ^ xs.length := by rw [e]
    rw [Nat.add_mul, Nat.add_mul] at e2
    have e3 : 64 * qq * 64 ^ xs.length = qq * (64 ^ xs.length * 64) := by rw [Nat.mul_comm 64 qq, Nat.mul_assoc, Nat.mul_comm 64]
    have e4 : 10 * (x * 64 ^ xs.length) = 10 * x * 64 ^ xs.length := by rw [Nat.mul_assoc]
    dsimp only
    omega
theorem mulL_carry (L : List Nat) (d : Nat) (hL : ∀ x ∈ L, x < 64) (hd : d < 10) : (mulL L d).2 < 10 := by
  have h1 := mulL_val L d
  have h2 := val_lt L hL
  have h3 : 10 * val L + d < 10 * 64 ^ L.length := by omega
  rw [h1] at h3
  have h4 : (mulL L d).2 * 64 ^ L.length < 10 * 64 ^ L.length := by omega
  exact Nat.lt_of_mul_lt_mul_right h4
theorem mulL_drop (L : List Nat) (d i : Nat) (h : i < L.length) : mulL (L.drop i) d = (((mulL (L.drop (i + 1)) d).2 + 10 * L.getD i 0) % 64 :: (mulL (L.drop (i + 1)) d).1, ((mulL (L.drop (i + 1)) d).2 + 10 * L.getD i 0) / 64) := by
  rw [List.drop_eq_getElem_cons h, mulL, List.getD_eq_getElem?_getD, List.getElem?_eq_getElem h]
  rfl
/-- A number divided by ten: the digits, and what is left. -/
def divL : List Nat → Nat → List Nat × Nat
  | [], r => ([], r)
  | x :: xs, r => ((64 * r + x) / 10 :: (divL xs ((64 * r + x) % 10)).1, (divL xs ((64 * r + x) % 10)).2)
theorem divL_length : ∀ (L : List Nat) (r : Nat), (divL L r).1.length = L.length
  | [], _ => rfl
  | x :: xs, r => by simp [divL, divL_length xs _]
theorem divL_val : ∀ (L : List Nat) (r : Nat), r * 64 ^ L.length + val L = 10 * val (divL L r).1 + (divL L r).2
  | [], r => by simp [divL, val]
  | x :: xs, r => by
    have ih := divL_val xs ((64 * r + x) % 10)
    have e := Nat.div_add_mod (64 * r + x) 10
    rw [divL, val, val, divL_length, List.length_cons, Nat.pow_succ]
    generalize (64 * r + x) / 10 = qq at e ⊢
    generalize (64 * r + x) % 10 = rr at e ih ⊢
    have e2 : (64 * r + x) * 64 ^ xs.length = (10 * qq + rr) * 64 ^ xs.length := by rw [e]
    rw [Nat.add_mul, Nat.add_mul] at e2
    have e3 : 64 * r * 64 ^ xs.length = r * (64 ^ xs.length * 64) := by rw [Nat.mul_comm 64 r, Nat.mul_assoc, Nat.mul_comm 64]
    have e4 : 10 * (qq * 64 ^ xs.length) = 10 * qq * 64 ^ xs.length := by rw [Nat.mul_assoc]
    omega
theorem divL_rest : ∀ (L : List Nat) (r : Nat), r < 10 → (divL L r).2 < 10
  | [], r, h => h
  | x :: xs, r, h => divL_rest xs _ (Nat.mod_lt _ (by decide))
theorem divL_digit : ∀ (L : List Nat) (r : Nat), r < 10 → (∀ x ∈ L, x < 64) → ∀ x ∈ (divL L r).1, x < 64
  | [], _, _, _, x, h => by simp [divL] at h
  | y :: ys, r, hr, hL, x, h => by
    rw [divL, List.mem_cons] at h
    have := hL y (by simp)
    rcases h with rfl | h
    · omega
    · exact divL_digit ys _ (Nat.mod_lt _ (by decide)) (fun z hz => hL z (by simp [hz])) x h
/-- What is done of the division before place i: the digits so far and what is left. -/
def divK (L : List Nat) : Nat → List Nat × Nat
  | 0 => ([], 0)
  | i + 1 => ((divK L i).1 ++ [(64 * (divK L i).2 + L.getD i 0) / 10], (64 * (divK L i).2 + L.getD i 0) % 10)
theorem divK_length (L : List Nat) : ∀ i, (divK L i).1.length = i
  | 0 => rfl
  | i + 1 => by simp [divK, divK_length L i]
theorem divK_rest (L : List Nat) : ∀ i, (divK L i).2 < 10
  | 0 => (by decide : (0 : Nat) < 10)
  | i + 1 => Nat.mod_lt _ (by decide)
theorem divK_all (L : List Nat) : ∀ i, i ≤ L.length → divL L 0 = ((divK L i).1 ++ (divL (L.drop i) (divK L i).2).1, (divL (L.drop i) (divK L i).2).2)
  | 0, _ => by simp [divK]
  | i + 1, h => by
    have ih := divK_all L i (by omega)
    rw [ih, List.drop_eq_getElem_cons (show i < L.length by omega), divL, divK, List.getD_eq_getElem?_getD, List.getElem?_eq_getElem (show i < L.length by omega)]
    simp
theorem divK_end (L : List Nat) : divK L L.length = divL L 0 := by
  rw [divK_all L L.length (Nat.le_refl _), List.drop_length, divL]
  simp
/-- The decimal digits of a number, the most significant first. -/
def dec (v : Nat) : List Nat := if h : v = 0 then [] else dec (v / 10) ++ [v % 10]
termination_by v
decreasing_by exact Nat.div_lt_self (Nat.pos_of_ne_zero h) (by decide)
theorem dec_zero : dec 0 = [] := by rw [dec]; simp
theorem dec_pos {v : Nat} (h : v ≠ 0) : dec v = dec (v / 10) ++ [v % 10] := by rw [dec, dif_neg h]
theorem dec_snoc (a d : Nat) (hd : d < 10) (h : 10 * a + d ≠ 0) : dec (10 * a + d) = dec a ++ [d] := by
  rw [dec_pos h, show (10 * a + d) / 10 = a by omega, show (10 * a + d) % 10 = d by omega]
theorem dec_length : ∀ (k v : Nat), v < 10 ^ k → (dec v).length ≤ k
  | 0, v, h => by
    obtain rfl : v = 0 := by simpa using h
    simp [dec_zero]
  | k + 1, v, h => by
    by_cases h0 : v = 0
    · subst h0
      simp [dec_zero]
    · rw [dec_pos h0, List.length_append]
      have := dec_length k (v / 10) (by rw [Nat.div_lt_iff_lt_mul (by decide)]; rw [Nat.pow_succ] at h; exact h)
      simpa using this
theorem dec_digit : ∀ (k v : Nat), v < 10 ^ k → ∀ x ∈ dec v, x < 10
  | 0, v, h, x, hx => by
    obtain rfl : v = 0 := by simpa using h
    simp [dec_zero] at hx
  | k + 1, v, h, x, hx => by
    by_cases h0 : v = 0
    · subst h0
      simp [dec_zero] at hx
    · rw [dec_pos h0, List.mem_append] at hx
      rcases hx with hx | hx
      · exact dec_digit k (v / 10) (by rw [Nat.div_lt_iff_lt_mul (by decide)]; rw [Nat.pow_succ] at h; exact h) x hx
      · simp at hx
        omega
theorem lt_pow (v : Nat) : v < 10 ^ v := Nat.lt_pow_self (by decide)
/-- 1 and the digits behind it. -/
def num (ds : List Nat) : Nat := ds.foldl (fun a d => 10 * a + d) 1
theorem num_snoc (ds : List Nat) (d : Nat) : num (ds ++ [d]) = 10 * num ds + d := by simp [num]
theorem num_pos (ds : List Nat) : 0 < num ds := by
  have h : ∀ (ds : List Nat) (a : Nat), 0 < a → 0 < ds.foldl (fun a d => 10 * a + d) a := by
    intro ds
    induction ds with
    | nil => exact fun a h => h
    | cons d ds ih => exact fun a h => ih _ (show 0 < 10 * a + d by omega)
  exact h ds 1 (by decide)
theorem num_lt (ds : List Nat) (h : ∀ d ∈ ds, d < 10) : num ds < 2 * 10 ^ ds.length := by
  have key : ∀ (ds : List Nat) (a : Nat), (∀ d ∈ ds, d < 10) → ds.foldl (fun a d => 10 * a + d) a < (a + 1) * 10 ^ ds.length := by
    intro ds
    induction ds with
    | nil => intro a _; simp
    | cons d ds ih =>
      intro a h
      have h1 := ih (10 * a + d) fun x hx => h x (by simp [hx])
      have h2 := h d (by simp)
      have h3 : (10 * a + d + 1) * 10 ^ ds.length ≤ (10 * (a + 1)) * 10 ^ ds.length := Nat.mul_le_mul_right _ (by omega)
      rw [List.foldl_cons, List.length_cons, Nat.pow_succ]
      have e : (10 * (a + 1)) * 10 ^ ds.length = (a + 1) * (10 ^ ds.length * 10) := by rw [Nat.mul_comm 10 (a + 1), Nat.mul_assoc, Nat.mul_comm 10]
      omega
  exact key ds 1 h
/-- The digits that are carried: those of 1 and the payload, and of no other number that begins with 1. -/
theorem dec_num : ∀ (n : Nat) (ds : List Nat), ds.length = n → (∀ d ∈ ds, d < 10) → dec (num ds) = 1 :: ds
  | 0, ds, hl, _ => by
    obtain rfl : ds = [] := List.length_eq_zero_iff.1 hl
    rw [show num [] = 10 * 0 + 1 from rfl, dec_snoc 0 1 (by decide) (by decide), dec_zero]
    rfl
  | n + 1, ds, hl, h => by
    obtain ⟨es, d, rfl⟩ : ∃ es d, ds = es ++ [d] := ⟨ds.dropLast, ds.getLast (by intro e; subst e; simp at hl), (List.dropLast_concat_getLast _).symm⟩
    have hp := num_pos es
    rw [num_snoc, dec_snoc _ _ (h d (by simp)) (by omega), dec_num n es (by simpa using hl) fun x hx => h x (by simp [hx])]
    rfl
theorem num_of_dec (v : Nat) : ∀ n, v ≤ n → v = (dec v).foldl (fun a d => 10 * a + d) 0
  | 0, h => by
    obtain rfl : v = 0 := by omega
    rw [dec_zero]; rfl
  | n + 1, h => by
    by_cases h0 : v = 0
    · subst h0; rw [dec_zero]; rfl
    · rw [dec_pos h0, List.foldl_append, ← num_of_dec (v / 10) n (by omega)]
      show v = 10 * (v / 10) + v % 10
      omega
theorem num_dec {v : Nat} {ds : List Nat} (h : dec v = 1 :: ds) : v = num ds := by
  rw [num_of_dec v v (Nat.le_refl _), h]
  rfl
end Go.Proofs.YtajccgmeminlhaaGreatDoor.Num
end
section
/- barcode.carried: the number that carries a payload, in digits to the base 64; its function add: ten times the number and a digit. -/
set_option linter.unusedVariables false
set_option linter.unusedSimpArgs false
namespace Go.Proofs.YtajccgmeminlhaaGreatDoor
open Go.RowKit Go.Shelf Go.Proofs.YtajccgmeminlhaaGreatDoorW.PrintWords Go.Proofs.YtajccgmeminlhaaGreatDoorW.PrintLast Go.Proofs.YtajccgmeminlhaaGreatDoorW.PrintMore Go.Proofs.YtajccgmeminlhaaGreatDoor.Q Go.Proofs.YtajccgmeminlhaaGreatDoor.Gf Go.Proofs.YtajccgmeminlhaaGreatDoor.Num

def il (L : List Nat) : List Int := L.map fun (x : Nat) => (x : Int)
theorem il_length (L : List Nat) : (il L).length = L.length := List.length_map _
theorem il_at (L : List Nat) (i : Nat) : (il L).getD i 0 = ((L.getD i 0 : Nat) : Int) := by
  unfold il
  rw [List.getD_eq_getElem?_getD, List.getElem?_map, List.getD_eq_getElem?_getD]
  cases L[i]? <;> rfl
theorem il_set (L : List Nat) (i x : Nat) : (il L).set i (x : Int) = il (L.set i x) := by
  unfold il
  rw [List.map_set]
theorem mul_step (L : List Nat) (d i : Nat) (h : i < L.length) :
    (L.take (i + 1) ++ (mulL (L.drop (i + 1)) d).1).set i (((mulL (L.drop (i + 1)) d).2 + 10 * L.getD i 0) % 64) = L.take i ++ (mulL (L.drop i) d).1 := by
  rw [mulL_drop L d i h, List.take_succ_eq_append_getElem h, List.append_assoc, List.set_append_right _ _ (by simp; omega), List.length_take, Nat.min_eq_left (by omega), Nat.sub_self]
  rfl
attribute [local go_sem] max2_int min2_int max_two min_two max_three min_three
set_option maxHeartbeats 4000000 in
set_option maxRecDepth 1000000 in
theorem add_any (g : Nat) (L : List Nat) (d : Nat) (w : World) (hd : d < 10) (hL : ∀ x ∈ L, x < 64) (hl : L.length = 16) (hr : CRow (Value.int .u8) 0 w g (il L)) :
    Calls Tryz.prog 73 #[.int .i64 d, .pointer (some ⟨g, 0, none⟩)] w fun e w' => e = .returned (.tuple #[]) ∧ CRow (Value.int .u8) 0 w' g (il (mulL L d).1) ∧ Below g w w' ∧ (∀ k, k ≠ g → w'.heap[k]? = w.heap[k]?) := by
  have HR := Aside0.mk hr
  have HL := Aside0.mk hL
  have HLL := Aside0.mk hl
  have HD := Aside0.mk hd
  clear hr hL hl hd
  go_enter Tryz.func73, Tryz.ntmps73
  go_wp2_with fail
  go_loopw [0, 3] (fun vd vi wr => ∃ j : Nat, j ≤ 16 ∧ vi = .int .i64 ((j : Int) - 1) ∧ vd = .int .i64 ((mulL (L.drop j) d).2 : Nat) ∧ CRow (Value.int .u8) 0 wr g (il (L.take j ++ (mulL (L.drop j) d).1)) ∧ Below g w wr ∧ (∀ k, k ≠ g → wr.heap[k]? = w.heap[k]?)) (fun _ vi _ => (intOf vi + 1).toNat)
  case atStart =>
    have e : L.drop 16 = [] := List.drop_of_length_le (by rw [HLL.out]; exact Nat.le_refl _)
    have e2 : L.take 16 = L := List.take_of_length_le (by rw [HLL.out]; exact Nat.le_refl _)
    refine ⟨16, Nat.le_refl _, rfl, by rw [e]; rfl, ?_, Below.refl _ _, fun _ _ => rfl⟩
    rw [e, e2]
    simpa [mulL] using HR.out
  case round =>
    obtain ⟨j, hj, rfl, rfl, hA, hb, ho⟩ := hrel
    by_cases hj0 : 0 < j
    · obtain ⟨i, rfl⟩ : ∃ i, j = i + 1 := ⟨j - 1, by omega⟩
      have hi : i < L.length := by rw [HLL.out]; omega
      have hx : L.getD i 0 < 64 := HL.out _ (by rw [List.getD_eq_getElem?_getD, List.getElem?_eq_getElem hi]; exact List.getElem_mem _)
      have hcr : (mulL (L.drop (i + 1)) d).2 < 10 := mulL_carry _ _ (fun x hx => HL.out x (List.mem_of_mem_drop hx)) HD.out
      have hst := mul_step L d i hi
      have hc2 : (mulL (L.drop i) d).2 = ((mulL (L.drop (i + 1)) d).2 + 10 * L.getD i 0) / 64 := by rw [mulL_drop L d i hi]
      have hlen : (il (L.take (i + 1) ++ (mulL (L.drop (i + 1)) d).1)).length = 16 := by rw [il_length, List.length_append, List.length_take, mulL_length, List.length_drop, HLL.out]; omega
      have hcx := hA.cell i (by rw [hlen]; omega)
      have hfx := hA.free i (by rw [hlen]; omega)
      have hat : (L.take (i + 1) ++ (mulL (L.drop (i + 1)) d).1).getD i 0 = L.getD i 0 := by
        rw [List.getD_eq_getElem?_getD, List.getElem?_append_left (by rw [List.length_take]; omega), List.getElem?_take, if_pos (by omega), List.getD_eq_getElem?_getD]
      rw [il_at, hat] at hcx
      generalize (mulL (L.drop (i + 1)) d).2 = c at hst hc2 hcr
      generalize L.getD i 0 = x at hst hc2 hx hcx
      have hset := hA.set i (by rw [hlen]; omega) ((((c + 10 * x) % 64 : Nat)) : Int)
      rw [il_set, hst] at hset
      have HSET := Aside0.mk hset
      have HB := Aside0.mk (hb.setCell (p := ⟨g, i, none⟩) (Nat.le_refl _) (.int .u8 ((((c + 10 * x) % 64 : Nat)) : Int)))
      have HO := Aside0.mk (fun k (hk : k ≠ g) => (show (wr.setCell ⟨g, i, none⟩ (.int .u8 ((((c + 10 * x) % 64 : Nat)) : Int))).heap[k]? = w.heap[k]? from (heap_setCell_other _ _ _ _ hk).trans (ho k hk)))
      have HC2 := Aside0.mk hc2
      have e1 : ((i + 1 : Nat) : Int) - 1 = (i : Int) := by omega
      rw [e1]
      have hbi : (0 : Int) ≤ (i : Int) ∧ (i : Int) < 16 := by omega
      clear hset hst hc2 hA hb hat hlen e1 ho
      go_wp2_with fail
      have e : (((c + 10 * x) % 64 : Nat) : Int) = ((c : Int) + 10 * (x : Int)) % 64 := by omega
      have h1 := HSET.out
      have h2 := HB.out
      have h3 := HO.out
      rw [e] at h1 h2
      simp only [e] at h3
      go_roundw
      case rel => exact ⟨i, by omega, rfl, by rw [HC2.out]; congr 1, h1, h2, h3⟩
      case measure => simp only [intOf]; omega
    · obtain rfl : j = 0 := by omega
      have e0 : ((0 : Nat) : Int) - 1 = -1 := rfl
      rw [e0]
      have HA := Aside0.mk hA
      have HB := Aside0.mk hb
      have HO := Aside0.mk ho
      clear hA hb e0 ho
      go_wp2_with fail
      (try simp only [Exit.inBlock, Exit.then])
      refine bodyPost_end (results_none rfl _ _ _) rfl ?_
      exact ⟨rfl, by simpa using HA.out, HB.out, HO.out⟩
/-- A payload's digits. -/
def dg (s : ByteArray) : List Nat := s.data.toList.map fun b => b.toNat - 48
def isDg (s : ByteArray) : Prop := ∀ b ∈ s.data.toList, 48 ≤ b.toNat ∧ b.toNat ≤ 57
theorem dg_length (s : ByteArray) : (dg s).length = s.size := by simp [dg]
theorem dg_at (s : ByteArray) (k : Nat) (h : k < s.size) : (dg s).take (k + 1) = (dg s).take k ++ [(s[k]'h).toNat - 48] := by
  rw [List.take_succ_eq_append_getElem (by rw [dg_length]; exact h)]
  congr 1
  simp [dg]
  rfl
theorem isDg_at {s : ByteArray} (hs : isDg s) (k : Nat) (h : k < s.size) : 48 ≤ (s[k]'h).toNat ∧ (s[k]'h).toNat ≤ 57 := hs _ (by
  show s.data[k] ∈ s.data.toList
  simp)
theorem dg_lt {s : ByteArray} (hs : isDg s) : ∀ d ∈ dg s, d < 10 := fun d hd => by
  obtain ⟨b, hb, rfl⟩ := List.mem_map.1 hd
  have := hs b hb
  omega
theorem list16 {α : Type} (L : List α) (h : L.length = 16) : ∃ a b c d e f g i j k l m n o p q, L = [a, b, c, d, e, f, g, i, j, k, l, m, n, o, p, q] := by
  match L, h with
  | [a, b, c, d, e, f, g, i, j, k, l, m, n, o, p, q], _ => exact ⟨a, b, c, d, e, f, g, i, j, k, l, m, n, o, p, q, rfl⟩
/-- The number so far, as its digits. -/
structure IsNum (L : List Nat) (v : Nat) : Prop where
  len : L.length = 16
  dig : ∀ x ∈ L, x < 64
  val : val L = v
theorem IsNum.step {L : List Nat} {v d : Nat} (h : IsNum L v) (hv : 10 * v + d < 64 ^ 16) : IsNum (mulL L d).1 (10 * v + d) := by
  refine ⟨by rw [mulL_length]; exact h.len, mulL_digit L d, ?_⟩
  have h1 := mulL_val L d
  have h2 := val_lt _ (mulL_digit L d)
  rw [h.val, h.len] at h1
  rw [mulL_length, h.len] at h2
  have h3 : (mulL L d).2 = 0 := by
    rcases Nat.eq_zero_or_pos (mulL L d).2 with h3 | h3
    · exact h3
    · have := Nat.mul_le_mul_right (64 ^ 16) (show 1 ≤ (mulL L d).2 from h3)
      omega
  rw [h3] at h1
  omega
theorem num_bound (ds : List Nat) (h : ∀ d ∈ ds, d < 10) (hl : ds.length ≤ 28) : num ds < 64 ^ 16 := by
  have h1 := num_lt ds h
  have h2 : 10 ^ ds.length ≤ 10 ^ 28 := Nat.pow_le_pow_right (by decide) hl
  exact Nat.lt_of_lt_of_le h1 (Nat.le_trans (Nat.mul_le_mul_left 2 h2) (by decide))
/-- One result that lies in memory. -/
theorem results_c {P : Program} {fn : Func} {p : Tmp} {ty : TypeId} (h : fn.results = #[.cell p ty]) (tmps : Array Value) (w : World) (g : Nat) (t : TypeId) (cs : Array Value) (fr : Nat × Nat) (d : TypeDesc)
    (hp : tmps.getD p undef = .pointer (some ⟨g, 0, none⟩)) (hg : w.heap[g]? = some (.cells cs t fr))
    (hu : P.underlying ty = some d) (hd : (match d with | .struct _ | .array _ _ => true | _ => false) = true) (hi : (P.info? ty).map (·.size) = some cs.size) :
    (results fn tmps).run P w = .ok (.agg cs) w := by
  have hp' : tmps[p]?.getD undef = .pointer (some ⟨g, 0, none⟩) := by simpa using hp
  simp [results, h, hp', asAddr, run_loadVar_row w g t ty cs fr d hg hu hd hi]
set_option maxHeartbeats 4000000 in
set_option maxRecDepth 1000000 in
theorem carried_any (s : ByteArray) (w : World) (hs : s.size ≤ 28) (hd : isDg s) :
    Calls Tryz.prog 39 #[.string s] w fun e w' => ∃ L, IsNum L (num (dg s)) ∧ e = .returned (.agg ((il L).map (Value.int .u8)).toArray) ∧ Below w.heap.size w w' := by
  have HD := Aside0.mk hd
  clear hd
  go_enter Tryz.func39, Tryz.ntmps39
  go_wp2_with fail
  obtain ⟨wA, hwA⟩ : ∃ wA, (w.alloc (.cells #[.int .u8 0, .int .u8 0, .int .u8 0, .int .u8 0, .int .u8 0, .int .u8 0, .int .u8 0, .int .u8 0, .int .u8 0, .int .u8 0, .int .u8 0, .int .u8 0, .int .u8 0, .int .u8 0, .int .u8 0, .int .u8 0] 90)).alloc (.cells #[.int .u8 0, .int .u8 0, .int .u8 0, .int .u8 0, .int .u8 0, .int .u8 0, .int .u8 0, .int .u8 0, .int .u8 0, .int .u8 0, .int .u8 0, .int .u8 0, .int .u8 0, .int .u8 0, .int .u8 0, .int .u8 0] 90) = wA := ⟨_, rfl⟩
  obtain ⟨w0, hw0⟩ : ∃ w0, w0 = w.alloc (.cells #[.int .u8 0, .int .u8 0, .int .u8 0, .int .u8 0, .int .u8 0, .int .u8 0, .int .u8 0, .int .u8 0, .int .u8 0, .int .u8 0, .int .u8 0, .int .u8 0, .int .u8 0, .int .u8 0, .int .u8 0, .int .u8 0] 90) := ⟨_, rfl⟩
  have hg : w0.heap.size = w.heap.size + 1 := by rw [hw0]; simp
  have hb0 : Below w.heap.size w w0 := by rw [hw0]; exact (Below.refl _ w).alloc (Nat.le_refl _) _
  have hz0 : w0.heap[w.heap.size]? = some (.cells #[.int .u8 0, .int .u8 0, .int .u8 0, .int .u8 0, .int .u8 0, .int .u8 0, .int .u8 0, .int .u8 0, .int .u8 0, .int .u8 0, .int .u8 0, .int .u8 0, .int .u8 0, .int .u8 0, .int .u8 0, .int .u8 0] 90 (0, 0)) := by rw [hw0]; exact heap_alloc_new w _
  rw [← hw0] at hwA
  have hA : CRow (Value.int .u8) 0 wA (w.heap.size + 1) (il (List.replicate 16 0)) := by
    rw [← hwA, ← hg]
    exact CRow.lit' (Value.int .u8) 0 w0 _ _ _ rfl
  have hbA : Below w0.heap.size w0 wA := by rw [← hwA]; exact (Below.refl _ w0).alloc (Nat.le_refl _) _
  have HZA := Aside0.mk ((hbA.block _ (by rw [hg]; omega)).trans hz0)
  have HBA := Aside0.mk (hb0.trans (hbA.mono hb0.size))
  have HN0 := Aside0.mk (show IsNum (List.replicate 16 0) 0 from ⟨rfl, by simp, by decide⟩)
  have HADD := Aside0.mk (add_any (w.heap.size + 1) (List.replicate 16 0) 1 wA (by decide) (by simp) rfl hA)
  have HWA := Aside0.mk hwA
  have HW0 := Aside0.mk hw0
  have HNB := Aside0.mk (fun k (hk : k ≤ s.size) => num_bound ((dg s).take k) (fun d h => dg_lt HD.out d (List.mem_of_mem_take h)) (by rw [List.length_take]; omega))
  obtain ⟨g, hgg⟩ : ∃ g, g = w.heap.size + 1 := ⟨_, rfl⟩
  rw [← hgg] at HADD ⊢
  have hgw : w.heap.size < g := by omega
  rw [← hw0, hwA]
  clear hg hb0 hz0 hA hbA hwA hw0 hgg
  refine HADD.out.mono ?_
  rintro e w1 ⟨rfl, hr1, hb1, ho1⟩
  have HN1 := Aside0.mk (show IsNum (mulL (List.replicate 16 0) 1).1 (num ((dg s).take 0)) from HN0.out.step (by decide))
  generalize (mulL (List.replicate 16 0) 1).1 = L1 at hr1 HN1
  have HR1 := Aside0.mk hr1
  have HB1 := Aside0.mk hb1
  have HZ1 := Aside0.mk ((ho1 w.heap.size (by omega)).trans HZA.out)
  have HT1 := Aside0.mk (hr1.lt)
  clear hr1 hb1 ho1 HADD
  go_wp2_with fail
  obtain ⟨it, hit⟩ : ∃ it, it = w1.heap.size := ⟨_, rfl⟩
  have HIT := Aside0.mk (show (w1.iter s 0).heap[it]? = some (.stringIter s 0) by rw [hit]; exact World.iter_heap w1 s 0)
  have hbi : Below w1.heap.size w1 (w1.iter s 0) := (Below.refl _ w1).alloc (Nat.le_refl _) _
  have HBI := Aside0.mk hbi
  have HRI := Aside0.mk (HR1.out.below hbi)
  have hgi : g < it := by rw [hit]; exact HT1.out
  have HZI := Aside0.mk ((hbi.block _ (by have := HT1.out; omega)).trans HZ1.out)
  have HW1 := Aside0.mk (HBA.out.trans ((HB1.out.trans (hbi.mono (Nat.le_of_lt HT1.out))).mono (Nat.le_of_lt hgw)))
  generalize w1.iter s 0 = w2 at HIT HBI HRI HZI HW1 ⊢
  rw [← hit]
  clear hit hbi
  go_loopw [12] (fun _ wr => ∃ (k : Nat) (L : List Nat), k ≤ s.size ∧ IsNum L (num ((dg s).take k)) ∧ wr.heap[it]? = some (.stringIter s k) ∧ CRow (Value.int .u8) 0 wr g (il L) ∧ wr.heap[w.heap.size]? = some (.cells #[.int .u8 0, .int .u8 0, .int .u8 0, .int .u8 0, .int .u8 0, .int .u8 0, .int .u8 0, .int .u8 0, .int .u8 0, .int .u8 0, .int .u8 0, .int .u8 0, .int .u8 0, .int .u8 0, .int .u8 0, .int .u8 0] 90 (0, 0)) ∧ Below w.heap.size w wr) (fun _ wr => s.size - wr.iterPos it)
  case atStart => exact ⟨0, L1, Nat.zero_le _, HN1.out, HIT.out, HRI.out, HZI.out, HW1.out⟩
  case round =>
    obtain ⟨k, L, hk, hN, hi, hr, hz, hb⟩ := hrel
    by_cases hp : k < s.size
    · have hnx : ∀ ty, (Instr.next (.pointer (some ⟨it, 0, none⟩)) true ty).run Tryz.prog wr = _ := fun ty => Lib.run_next_any_at wr it s k ty hi hp
      have hdg := isDg_at HD.out k hp
      rw [decode_ascii s k hp (by omega)] at hnx
      obtain ⟨dd, hdd⟩ : ∃ dd : Nat, dd = (s[k]'hp).toNat - 48 := ⟨_, rfl⟩
      have HT := Aside0.mk (show (dg s).take (k + 1) = (dg s).take k ++ [dd] by rw [dg_at s k hp, hdd])
      have HDI := Aside0.mk (show ((s[k]'hp).toNat : Int) - 48 = (dd : Int) by omega)
      have HDL := Aside0.mk (show dd < 10 by omega)
      have hil : it < wr.heap.size := (Array.getElem?_eq_some_iff.1 hi).1
      have hit2 := Lib.iterAt_heap wr it s k (k + 1) hi
      have hbq : Below it wr (wr.iterAt it s (k + 1)) := Lib.below_iterAt (Below.refl _ _) (Nat.le_refl _) s (k + 1)
      have HIT2 := Aside0.mk hit2
      have HI := Aside0.mk hi
      have HB2 := Aside0.mk (hb.trans (hbq.mono (by omega)))
      have HR2 := Aside0.mk (hr.belowB hbq hgi)
      have HZ2 := Aside0.mk ((hbq.block _ (by omega)).trans hz)
      have HN := Aside0.mk hN
      clear hdd hit2 hbq hi hr hz hb hN
      go_wp2_with fail
      rw [HDI.out]
      refine (add_any g L dd _ HDL.out HN.out.dig HN.out.len HR2.out).mono ?_
      rintro e w3 ⟨rfl, hr3, hb3, ho3⟩
      have hi3 : w3.heap[it]? = some (.stringIter s (k + 1)) := (ho3 it (by omega)).trans HIT2.out
      have hz3 := (ho3 w.heap.size (by omega)).trans HZ2.out
      have hb4 := HB2.out.trans (hb3.mono (by omega))
      have hnum : num ((dg s).take (k + 1)) = 10 * num ((dg s).take k) + dd := by rw [HT.out, num_snoc]
      have hn3 : IsNum (mulL L dd).1 (num ((dg s).take (k + 1))) := by
        rw [hnum]
        exact HN.out.step (by rw [← hnum]; exact HNB.out (k + 1) (by omega))
      clear ho3 hb3
      go_wp2
      go_roundw
      case rel => exact ⟨k + 1, _, by omega, hn3, hi3, hr3, hz3, hb4⟩
      case measure =>
        simp only [World.iterPos, hi3, HI.out]
        omega
    · have hnx : ∀ ty, (Instr.next (.pointer (some ⟨it, 0, none⟩)) true ty).run Tryz.prog wr = _ := fun ty => Lib.run_next_end_at wr it s k ty hi hp
      have hNN : IsNum L (num (dg s)) := by
        rwa [List.take_of_length_le (by rw [dg_length]; omega)] at hN
      obtain ⟨a0, a1, a2, a3, a4, a5, a6, a7, a8, a9, a10, a11, a12, a13, a14, a15, rfl⟩ := list16 L hN.len
      have q0 := hr.cell 0 (show 0 < 16 by decide)
      have q1 := hr.cell 1 (show 1 < 16 by decide)
      have q2 := hr.cell 2 (show 2 < 16 by decide)
      have q3 := hr.cell 3 (show 3 < 16 by decide)
      have q4 := hr.cell 4 (show 4 < 16 by decide)
      have q5 := hr.cell 5 (show 5 < 16 by decide)
      have q6 := hr.cell 6 (show 6 < 16 by decide)
      have q7 := hr.cell 7 (show 7 < 16 by decide)
      have q8 := hr.cell 8 (show 8 < 16 by decide)
      have q9 := hr.cell 9 (show 9 < 16 by decide)
      have q10 := hr.cell 10 (show 10 < 16 by decide)
      have q11 := hr.cell 11 (show 11 < 16 by decide)
      have q12 := hr.cell 12 (show 12 < 16 by decide)
      have q13 := hr.cell 13 (show 13 < 16 by decide)
      have q14 := hr.cell 14 (show 14 < 16 by decide)
      have q15 := hr.cell 15 (show 15 < 16 by decide)
      simp only [il_at, List.getD_cons_zero, List.getD_cons_succ] at q0 q1 q2 q3 q4 q5 q6 q7 q8 q9 q10 q11 q12 q13 q14 q15
      have HNN := Aside0.mk hNN
      have HB := Aside0.mk hb
      have HZ := Aside0.mk hz
      clear hi hN hNN hr hz hb
      go_wp2_with (refine wpList_store_row rfl 90 (.tmp 2) (.tmp 20) rfl w.heap.size _ rfl rfl 90 _ HZ.out (by kernel_rfl) rfl (by simp [Value.oneCell']) ?_)
      have hrw := setRow_heap wr w.heap.size _ #[.int .u8 (a0 : Int), .int .u8 (a1 : Int), .int .u8 (a2 : Int), .int .u8 (a3 : Int), .int .u8 (a4 : Int), .int .u8 (a5 : Int), .int .u8 (a6 : Int), .int .u8 (a7 : Int), .int .u8 (a8 : Int), .int .u8 (a9 : Int), .int .u8 (a10 : Int), .int .u8 (a11 : Int), .int .u8 (a12 : Int), .int .u8 (a13 : Int), .int .u8 (a14 : Int), .int .u8 (a15 : Int)] _ _ HZ.out
      trace_state
      (try simp only [Exit.inBlock, Exit.then])
      refine bodyPost_ret (results_c rfl _ _ w.heap.size _ _ _ _ rfl hrw Tryz.underlying90 rfl (by kernel_rfl)) rfl ?_
      exact ⟨_, HNN.out, rfl, below_setRow HB.out (Nat.le_refl _) _⟩
end Go.Proofs.YtajccgmeminlhaaGreatDoor
end
section
/- barcode.payload: the decimal digits of a number, if the first is 1. -/
set_option linter.unusedVariables false
set_option linter.unusedSimpArgs false
namespace Go.Proofs.YtajccgmeminlhaaGreatDoor
open Go.RowKit Go.Shelf Go.Proofs.YtajccgmeminlhaaGreatDoorW.PrintWords Go.Proofs.YtajccgmeminlhaaGreatDoorW.PrintLast Go.Proofs.YtajccgmeminlhaaGreatDoorW.PrintMore Go.Proofs.YtajccgmeminlhaaGreatDoor.Q Go.Proofs.YtajccgmeminlhaaGreatDoor.Gf Go.Proofs.YtajccgmeminlhaaGreatDoor.Num

def vlenP : Value → Nat
  | .slice _ n _ => n
  | _ => 0
/-- The bytes of decimal digits. -/
def pd (D : List Nat) : List Int := D.map fun (d : Nat) => ((48 + d : Nat) : Int)
theorem pd_length (D : List Nat) : (pd D).length = D.length := List.length_map _
theorem div_step (L : List Nat) (i : Nat) (h : i < L.length) :
    ((divK L i).1 ++ L.drop i).set i ((64 * (divK L i).2 + L.getD i 0) / 10) = (divK L (i + 1)).1 ++ L.drop (i + 1) := by
  rw [List.set_append_right _ _ (by rw [divK_length]; exact Nat.le_refl _), divK_length, Nat.sub_self, List.drop_eq_getElem_cons h, List.set_cons_zero, divK, List.append_assoc]
  rfl
theorem eq16 (L : List Nat) (hl : L.length = 16) (hd : ∀ x ∈ L, x < 64) (w : World) : (Op.equalIn 10000 90 (.agg ((il L).map (Value.int .u8)).toArray) (.agg ((il (List.replicate 16 0)).map (Value.int .u8)).toArray)).run Tryz.prog w = .ok (decide (val L = 0)) w := by
  have key : ∀ M : List Nat, (∀ x ∈ M, x < 64) → (il M).map (Value.int .u8) = (M.map fun x => x.toUInt8).map Extern.Stop.cell := by
    intro M hM
    unfold il
    rw [List.map_map, List.map_map]
    apply List.map_congr_left
    intro x hx
    have := hM x hx
    show Value.int .u8 ((x : Nat) : Int) = Value.int .u8 (Int.ofNat x.toUInt8.toNat)
    congr 2
    rw [Nat.toUInt8, UInt8.toNat_ofNat']
    omega
  rw [key L hd, key _ (by simp)]
  rw [run_equalIn_bytes w 9998 90 5 16 Tryz.underlying90 Tryz.underlying5 Tryz.sizeOf5 _ _ (by rw [List.length_map]; exact hl) (by simp)]
  congr 1
  rw [Bool.eq_iff_iff, beq_iff_eq, decide_eq_true_iff, val_zero, hl]
  constructor
  · intro h
    have := congrArg (List.map UInt8.toNat) h
    rw [List.map_map, List.map_map] at this
    have e : ∀ M : List Nat, (∀ x ∈ M, x < 64) → M.map (UInt8.toNat ∘ fun x => x.toUInt8) = M := by
      intro M hM
      conv => rhs; rw [← List.map_id M]
      apply List.map_congr_left
      intro x hx
      have := hM x hx
      show x.toUInt8.toNat = x
      rw [Nat.toUInt8, UInt8.toNat_ofNat']
      omega
    rwa [e L hd, e _ (by simp)] at this
  · intro h
    rw [h]
attribute [local go_sem] max2_int min2_int max_two min_two max_three min_three
set_option maxHeartbeats 8000000 in
set_option maxRecDepth 1000000 in
theorem payload_any (L0 : List Nat) (w : World) (hl : L0.length = 16) (hd : ∀ x ∈ L0, x < 64) :
    Calls Tryz.prog 46 #[.agg ((il L0).map (Value.int .u8)).toArray] w fun e w' =>
      (((∀ ds, dec (val L0) ≠ 1 :: ds) ∧ e = .returned (.tuple #[.string ⟨#[]⟩, .bool false])) ∨ ∃ ds, dec (val L0) = 1 :: ds ∧ e = .returned (.tuple #[.string (strOfNums (pd ds)), .bool true])) ∧ Below w.heap.size w w' := by
  have hv : val L0 < 10 ^ 29 := Nat.lt_of_lt_of_le (val_lt L0 hd) (by rw [hl]; decide)
  have HV := Aside0.mk (dec_length 29 _ hv)
  have HVD := Aside0.mk (dec_digit 29 _ hv)
  obtain ⟨a0, a1, a2, a3, a4, a5, a6, a7, a8, a9, a10, a11, a12, a13, a14, a15, hL⟩ := list16 L0 hl
  have HL0 := Aside0.mk hL
  have e0 : ((il L0).map (Value.int .u8)).toArray = #[.int .u8 (a0 : Int), .int .u8 (a1 : Int), .int .u8 (a2 : Int), .int .u8 (a3 : Int), .int .u8 (a4 : Int), .int .u8 (a5 : Int), .int .u8 (a6 : Int), .int .u8 (a7 : Int), .int .u8 (a8 : Int), .int .u8 (a9 : Int), .int .u8 (a10 : Int), .int .u8 (a11 : Int), .int .u8 (a12 : Int), .int .u8 (a13 : Int), .int .u8 (a14 : Int), .int .u8 (a15 : Int)] := by rw [hL]; rfl
  rw [e0]
  obtain ⟨wA, hwA⟩ : ∃ wA, w.alloc (.cells #[.int .u8 (a0 : Int), .int .u8 (a1 : Int), .int .u8 (a2 : Int), .int .u8 (a3 : Int), .int .u8 (a4 : Int), .int .u8 (a5 : Int), .int .u8 (a6 : Int), .int .u8 (a7 : Int), .int .u8 (a8 : Int), .int .u8 (a9 : Int), .int .u8 (a10 : Int), .int .u8 (a11 : Int), .int .u8 (a12 : Int), .int .u8 (a13 : Int), .int .u8 (a14 : Int), .int .u8 (a15 : Int)] 90) = wA := ⟨_, rfl⟩
  have HWA := Aside0.mk hwA
  have HRA := Aside0.mk (show CRow (Value.int .u8) 0 wA w.heap.size (il L0) by rw [← hwA, ← e0]; exact CRow.lit' (Value.int .u8) 0 w _ (il L0) _ rfl)
  have HBA := Aside0.mk (show Below w.heap.size w wA by rw [← hwA]; exact below_al w _)
  have HDG := Aside0.mk hd
  have HLL := Aside0.mk hl
  clear hv hL e0 hwA hl hd
  go_enter Tryz.func46, Tryz.ntmps46
  go_wp2_with fail
  rw [HWA.out]
  obtain ⟨v0, hv0⟩ : ∃ v0, v0 = val L0 := ⟨_, rfl⟩
  have HV0 := Aside0.mk hv0
  obtain ⟨g, hg⟩ : ∃ g, g = w.heap.size := ⟨_, rfl⟩
  have HG := Aside0.mk hg
  have HGA := Aside0.mk (show g < wA.heap.size by rw [hg]; exact HRA.out.lt)
  rw [← hg] at HRA ⊢
  clear hv0 hg
  go_loopw [4] (fun vd wr => ∃ (L D : List Nat), L.length = 16 ∧ (∀ x ∈ L, x < 64) ∧ dec v0 = dec (val L) ++ D ∧ CRow (Value.int .u8) 0 wr g (il L) ∧ Own .u8 5 wr wA.heap.size vd (pd D) ∧ Below w.heap.size w wr ∧ wA.heap.size ≤ wr.heap.size) (fun vd _ => 40 - vlenP vd)
  case atStart => exact ⟨L0, [], HLL.out, HDG.out, by rw [HV0.out]; simp, HRA.out, World.ownsRow_nil _ _ _ _, HBA.out, Nat.le_refl _⟩
  case round =>
    obtain ⟨L, D, hL, hdg, hdec, hr, ho, hb, hsA⟩ := hrel
    have HSA := Aside0.mk hsA
    clear hsA
    obtain ⟨b0, b1, b2, b3, b4, b5, b6, b7, b8, b9, b10, b11, b12, b13, b14, b15, hLe⟩ := list16 L hL
    subst hLe
    have q0 := hr.cell 0 (show 0 < 16 by decide)
    have q1 := hr.cell 1 (show 1 < 16 by decide)
    have q2 := hr.cell 2 (show 2 < 16 by decide)
    have q3 := hr.cell 3 (show 3 < 16 by decide)
    have q4 := hr.cell 4 (show 4 < 16 by decide)
    have q5 := hr.cell 5 (show 5 < 16 by decide)
    have q6 := hr.cell 6 (show 6 < 16 by decide)
    have q7 := hr.cell 7 (show 7 < 16 by decide)
    have q8 := hr.cell 8 (show 8 < 16 by decide)
    have q9 := hr.cell 9 (show 9 < 16 by decide)
    have q10 := hr.cell 10 (show 10 < 16 by decide)
    have q11 := hr.cell 11 (show 11 < 16 by decide)
    have q12 := hr.cell 12 (show 12 < 16 by decide)
    have q13 := hr.cell 13 (show 13 < 16 by decide)
    have q14 := hr.cell 14 (show 14 < 16 by decide)
    have q15 := hr.cell 15 (show 15 < 16 by decide)
    simp only [il_at, List.getD_cons_zero, List.getD_cons_succ] at q0 q1 q2 q3 q4 q5 q6 q7 q8 q9 q10 q11 q12 q13 q14 q15
    have heq := eq16 _ hL hdg wr
    have HR := Aside0.mk hr
    have HO := Aside0.mk ho
    have HB := Aside0.mk hb
    have HDEC := Aside0.mk hdec
    have HDGL := Aside0.mk hdg
    have HLN := Aside0.mk hL
    clear hr ho hb hdec hdg hL
    have heq' : (Op.equalIn 10000 90 (.agg #[.int .u8 (b0 : Int), .int .u8 (b1 : Int), .int .u8 (b2 : Int), .int .u8 (b3 : Int), .int .u8 (b4 : Int), .int .u8 (b5 : Int), .int .u8 (b6 : Int), .int .u8 (b7 : Int), .int .u8 (b8 : Int), .int .u8 (b9 : Int), .int .u8 (b10 : Int), .int .u8 (b11 : Int), .int .u8 (b12 : Int), .int .u8 (b13 : Int), .int .u8 (b14 : Int), .int .u8 (b15 : Int)]) (.agg #[.int .u8 0, .int .u8 0, .int .u8 0, .int .u8 0, .int .u8 0, .int .u8 0, .int .u8 0, .int .u8 0, .int .u8 0, .int .u8 0, .int .u8 0, .int .u8 0, .int .u8 0, .int .u8 0, .int .u8 0, .int .u8 0])).run Tryz.prog wr = .ok (decide (val [b0, b1, b2, b3, b4, b5, b6, b7, b8, b9, b10, b11, b12, b13, b14, b15] = 0)) wr := heq
    clear heq
    obtain ⟨L, hLL⟩ : ∃ L, L = [b0, b1, b2, b3, b4, b5, b6, b7, b8, b9, b10, b11, b12, b13, b14, b15] := ⟨_, rfl⟩
    rw [← hLL] at heq' HR HDEC HDGL HLN
    clear hLL
    by_cases hv : val L = 0
    · rw [decide_eq_true hv] at heq'
      have hD : dec v0 = D := by have := HDEC.out; rw [hv, dec_zero] at this; simpa using this
      rw [HV0.out] at hD
      have HDD := Aside0.mk hD
      clear hv hD
      cases D with
      | nil =>
        obtain ⟨A4, c4, hu⟩ := own_form HO.out
        have hu : u4 = .slice A4 0 c4 := hu
        subst hu
        go_wp2_with fail
        go_ret2
        exact ⟨.inl ⟨fun ds => by rw [HDD.out]; simp, rfl⟩, HB.out⟩
      | cons d ds =>
        obtain ⟨g4, c4, hu, hc4, -, hrow⟩ := own_crow' HO.out (n := ds.length + 1) (by rw [pd_length]; rfl) (by omega)
        subst hu
        have hd10 : d < 10 := HVD.out d (by rw [HDD.out]; simp)
        have hx0 := hrow.cell 0 (by rw [pd_length]; simp)
        replace hx0 : wr.cell? ⟨g4, 0, none⟩ = some (.int .u8 ((48 + d : Nat) : Int)) := hx0
        have hnn : ¬ (((ds.length + 1 : Nat) : Int) = 0) := by omega
        have hpos : (0 : Int) < ((ds.length + 1 : Nat) : Int) := by omega
        have HRW := Aside0.mk hrow
        clear hrow
        obtain ⟨n, hn⟩ : ∃ n, n = ds.length + 1 := ⟨_, rfl⟩
        have HN := Aside0.mk hn
        rw [← hn] at hnn hpos hc4 ⊢
        have hn1 : 1 ≤ n := by omega
        have hnb : (((n : Nat) : Int) == 0) = false := by rw [beq_eq_false_iff_ne]; omega
        clear hn
        by_cases hd1 : d = 1
        · have hx1 : ((48 + d : Nat) : Int) = 49 := by omega
          rw [hx1] at hx0
          subst hd1
          clear hx1
          have hgo : ∀ (o c : Nat), (∀ j, j < ds.length → wr.cell? ⟨g4, o + j, none⟩ = some (.int .u8 ((pd ds).getD j 0))) → (convert 48 9 (.slice (some ⟨g4, o, none⟩) (n - 1) c)).run Tryz.prog wr = .ok (.string (strOfNums (pd ds))) wr := fun o c h => by
            rw [show n - 1 = ds.length by have := HN.out; omega]
            have h29 : ds.length ≤ 29 := by have := HV.out; rw [HDD.out] at this; simp at this; omega
            exact Kd.C_string Tryz.underlying48 Tryz.underlying5 Tryz.underlying9 (Kd.C_of_reads (d := (0 : Int)) (h1 := fun _ => rfl) ⟨pd_length ds, by omega, fun _ => ⟨_, rfl, fun j hj => by rw [add_at]; exact h j hj⟩⟩)
          by_cases hc1 : c4 = 1
          · have hst := hgo 0 0 (fun j hj => by have := HN.out; omega)
            have hst0 := hst
            rw [show n - 1 = 0 by omega] at hst0
            subst hc1
            clear hgo
            go_wp2_with fail
            go_ret2
            exact ⟨.inr ⟨ds, HDD.out, rfl⟩, HB.out⟩
          · have hst := hgo 1 (c4 - 1) (fun j hj => by
              have := HRW.out.cell (1 + j) (by rw [pd_length, List.length_cons]; omega)
              rw [this]
              rw [Nat.add_comm 1 j]
              rfl)
            clear hgo
            go_wp2_with fail
            go_ret2
            exact ⟨.inr ⟨ds, HDD.out, rfl⟩, HB.out⟩
        · have hx1 : ¬ (((48 + d : Nat) : Int) = 49) := by omega
          generalize ((48 + d : Nat) : Int) = x at hx0 hx1
          have hx2 : (x == 49) = false := by rw [beq_eq_false_iff_ne]; exact hx1
          have hx3 : (x != 49) = true := by rw [bne, hx2]; rfl
          go_wp2_with fail
          go_ret2
          exact ⟨.inl ⟨fun es => by rw [HDD.out]; intro e; exact hd1 (List.cons.inj e).1, rfl⟩, HB.out⟩
    · rw [decide_eq_false hv] at heq'
      obtain ⟨A4, c4, hu, hc4, hC4⟩ := Kd.R_reads HO.out.toR
      rw [pd_length] at hu hc4 hC4
      subst hu
      have HC4 := Aside0.mk hC4
      have HVN := Aside0.mk hv
      have hDl : D.length ≤ 28 := by
        have h1 := HV.out
        rw [← HV0.out, HDEC.out, dec_pos hv] at h1
        simp at h1
        omega
      obtain ⟨wz, hwz⟩ : ∃ x, x = wr := ⟨wr, rfl⟩
      have HWZ := Aside0.mk hwz
      clear hC4 hv hwz
      go_wp2_with fail
      go_loopw [5, 10] (fun vr vi wq => ∃ i : Nat, i ≤ 16 ∧ vi = .int .i64 i ∧ vr = .int .i64 ((divK L i).2 : Nat) ∧ CRow (Value.int .u8) 0 wq g (il ((divK L i).1 ++ L.drop i)) ∧ (∀ k, k ≠ g → wq.heap[k]? = wz.heap[k]?) ∧ wz.heap.size ≤ wq.heap.size ∧ Below w.heap.size w wq) (fun _ vi _ => 16 - (intOf vi).toNat)
      case atStart => exact ⟨0, Nat.zero_le _, rfl, rfl, by simpa [divK] using HR.out, fun _ _ => by rw [HWZ.out], by rw [HWZ.out]; exact Nat.le_refl _, HB.out⟩
      case round =>
        obtain ⟨i, hi, rfl, rfl, hA, ho, hsz, hb⟩ := hrel
        by_cases hi16 : i < 16
        · have hiL : i < L.length := by rw [HLN.out]; exact hi16
          have hst := div_step L i hiL
          have hk2 : (divK L (i + 1)).2 = (64 * (divK L i).2 + L.getD i 0) % 10 := rfl
          have hr10 := divK_rest L i
          have hx : L.getD i 0 < 64 := HDGL.out _ (by rw [List.getD_eq_getElem?_getD, List.getElem?_eq_getElem hiL]; exact List.getElem_mem _)
          have hlen : (il ((divK L i).1 ++ L.drop i)).length = 16 := by rw [il_length, List.length_append, divK_length, List.length_drop, HLN.out]; omega
          have hcx := hA.cell i (by rw [hlen]; exact hi16)
          have hfx := hA.free i (by rw [hlen]; exact hi16)
          have hat : ((divK L i).1 ++ L.drop i).getD i 0 = L.getD i 0 := by
            rw [List.getD_eq_getElem?_getD, List.getElem?_append_right (by rw [divK_length]; exact Nat.le_refl _), divK_length, Nat.sub_self, List.getElem?_drop, List.getD_eq_getElem?_getD]
            rfl
          rw [il_at, hat] at hcx
          have hset := hA.set i (by rw [hlen]; exact hi16) (((64 * (divK L i).2 + L.getD i 0) / 10 : Nat) : Int)
          rw [il_set, hst] at hset
          have HSET := Aside0.mk hset
          have HK2 := Aside0.mk hk2
          generalize (divK L i).2 = r at hr10 HSET HK2
          generalize L.getD i 0 = x at hx hcx HSET HK2
          have HOO := Aside0.mk (fun k (hk : k ≠ g) => (show (wr.setCell ⟨g, i, none⟩ (.int .u8 (((64 * r + x) / 10 : Nat) : Int))).heap[k]? = wz.heap[k]? from (heap_setCell_other _ _ _ _ hk).trans (ho k hk)))
          have HBB := Aside0.mk (hb.setCell (p := ⟨g, i, none⟩) (by rw [HG.out]; exact Nat.le_refl _) (.int .u8 (((64 * r + x) / 10 : Nat) : Int)))
          have hbi : (0 : Int) ≤ (i : Int) ∧ (i : Int) < 16 := by omega
          clear hset hst hk2 hA ho hb hat hlen
          go_wp2_with fail
          have e : (((64 * r + x) / 10 : Nat) : Int) = (64 * (r : Int) + (x : Int)) / 10 := by omega
          have e2 : (((64 * r + x) % 10 : Nat) : Int) = (64 * (r : Int) + (x : Int)) % 10 := by omega
          have h1 := HSET.out
          have h2 := HBB.out
          have h3 := HOO.out
          rw [e] at h1 h2
          simp only [e] at h3
          go_roundw
          case rel => exact ⟨i + 1, by omega, by go_num, by rw [HK2.out, e2], h1, h3, by simpa using hsz, h2⟩
          case measure => simp only [intOf]; omega
        · obtain rfl : i = 16 := by omega
          have hdl : divK L 16 = divL L 0 := by have := divK_end L; rwa [HLN.out] at this
          have hdr : L.drop 16 = [] := List.drop_of_length_le (by rw [HLN.out]; exact Nat.le_refl _)
          rw [hdl, hdr, List.append_nil] at hA
          rw [hdl]
          have hval := divL_val L 0
          have hrr := divL_rest L 0 (by decide)
          have hdg := divL_digit L 0 (by decide) HDGL.out
          have hll := divL_length L 0
          rw [HLN.out] at hll
          rw [Nat.zero_mul, Nat.zero_add] at hval
          have hdec : dec v0 = dec (val (divL L 0).1) ++ ((divL L 0).2 :: D) := by
            rw [HDEC.out, hval, dec_snoc _ _ hrr (by rw [← hval]; exact HVN.out), List.append_assoc]
            rfl
          generalize (divL L 0).1 = L1 at hA hdg hll hdec
          generalize (divL L 0).2 = r at hrr hdec ⊢
          have HDEC1 := Aside0.mk hdec
          have HDG1 := Aside0.mk hdg
          have HLL1 := Aside0.mk hll
          have hmv : ∀ k, (Value.slice A4 D.length c4).ownBlock = some k → wr.heap[k]? = wz.heap[k]? := fun k hk => ho k (by
            have h1 := own_base HO.out k hk
            have h2 := HGA.out
            omega)
          have hO4 : Own .u8 5 wr wA.heap.size (.slice A4 D.length c4) (pd D) := own_move (by rw [HWZ.out]; exact HO.out) hmv
          obtain ⟨A5, c5, hu5, hc5, hC5⟩ := Kd.R_reads hO4.toR
          obtain ⟨rfl, -, rfl⟩ : A4 = A5 ∧ D.length = (pd D).length ∧ c4 = c5 := by injection hu5 with h1 h2 h3; exact ⟨h1, h2, h3⟩
          rw [pd_length] at hC5
          have HLT := Aside0.mk (World.ownsRow_lit (base := wr.heap.size) (e := 5) (size := 1) wr #[.int .u8 (48 + (r : Int))] 1 (Nat.le_refl _) (by decide) rfl)
          have HB1 := Aside0.mk ((Below.refl _ wr).alloc (Nat.le_refl _) (.cells #[.int .u8 (48 + (r : Int))] 5))
          have HRD1 := Aside0.mk (Kd.C_alloc hC5 (.cells #[.int .u8 (48 + (r : Int))] 5))
          have HA := Aside0.mk hA
          have HBW := Aside0.mk hb
          have hszw : wA.heap.size ≤ wr.heap.size := Nat.le_trans (by rw [HWZ.out]; exact HSA.out) hsz
          clear hA hb ho hmv hO4 hC5 hu5 hc5 hval hdg hll hdec hdl hdr
          go_wp2_with (first | (at_builtin; refine print_append_row (w0 := wr) wr.heap.size rfl _ _ 48 5 .u8 1 rfl Tryz.underlying48 info_u8 (by decide) _ [(48 + (r : Int))] (pd D) A4 D.length c4 rfl rfl HLT.out (Kd.reads_of_C HRD1.out) HB1.out HB1.out.size (by simp only [List.length_singleton]; omega) ?_; intro v2 w2 hown hB2 hg2 hat; have HO2 := Aside0.mk hown; have HB2 := Aside0.mk hB2; clear hown hB2 hg2 hat))
          have hO5 : Own .u8 5 w2 wA.heap.size v2 (pd (r :: D)) := by
            have h := own_weaken HO2.out hszw
            have e : pd (r :: D) = [(48 + (r : Int))] ++ pd D := by
              show ((48 + r : Nat) : Int) :: pd D = _
              rw [show ((48 + r : Nat) : Int) = 48 + (r : Int) by omega]
              rfl
            rw [e]
            exact h
          obtain ⟨A6, c6, hv6⟩ := own_form hO5
          have hbb : Below w.heap.size w w2 := HBW.out.trans (HB2.out.mono HBW.out.size)
          go_roundw
          case rel => exact ⟨L1, r :: D, HLL1.out, HDG1.out, HDEC1.out, HA.out.below HB2.out, hO5, hbb, Nat.le_trans hszw HB2.out.size⟩
          case measure =>
            rw [hv6, pd_length]
            simp only [vlenP, List.length_cons]
            omega
end Go.Proofs.YtajccgmeminlhaaGreatDoor
end
section
/- barcode.Write: the bars of a payload. -/
set_option linter.unusedVariables false
set_option linter.unusedSimpArgs false
namespace Go.Proofs.YtajccgmeminlhaaGreatDoor
open Go.RowKit Go.Shelf Go.Proofs.YtajccgmeminlhaaGreatDoorW.PrintWords Go.Proofs.YtajccgmeminlhaaGreatDoorW.PrintLast Go.Proofs.YtajccgmeminlhaaGreatDoorW.PrintMore Go.Proofs.YtajccgmeminlhaaGreatDoor.Q Go.Proofs.YtajccgmeminlhaaGreatDoor.Gf Go.Proofs.YtajccgmeminlhaaGreatDoor.Num

def isDgB (b : UInt8) : Bool := decide (48 ≤ b.toNat) && decide (b.toNat ≤ 57)
theorem isDg_iff (s : ByteArray) : isDg s ↔ s.data.toList.all isDgB = true := by
  unfold isDg isDgB
  rw [List.all_eq_true]
  simp
theorem digit_any (c : Int) (w : World) :
    Calls Tryz.prog 38 #[.int .i32 c] w fun e w' => e = .returned (.bool (decide (c < 48) || decide (57 < c))) ∧ w' = w := by
  go_enter Tryz.func38, Tryz.ntmps38
  by_cases h1 : c < 48
  · go_wp2
    go_ret
    exact ⟨by rw [decide_eq_true h1]; rfl, rfl⟩
  · by_cases h2 : 57 < c
    · go_wp2
      go_ret
      exact ⟨by simp [h2], rfl⟩
    · go_wp2
      go_ret
      exact ⟨by rw [decide_eq_false (show ¬ c < 48 by omega), decide_eq_false (show ¬ 57 < c by omega)]; rfl, rfl⟩
set_option maxHeartbeats 4000000 in
set_option maxRecDepth 1000000 in
theorem indexFunc_any (s : ByteArray) (w : World) :
    Calls Tryz.prog 106 #[.string s, .func (.func 38) #[] #[], .bool true] w fun e w' => ∃ i : Int, e = .returned (.int .i64 i) ∧ decide (0 ≤ i) = !(s.data.toList.all isDgB) ∧ Below w.heap.size w w' := by
  go_enter Tryz.func106, Tryz.ntmps106
  go_wp2_with fail
  have HIT := Aside0.mk (World.iter_heap w s 0)
  have HBI := Aside0.mk ((Below.refl _ w).alloc (Nat.le_refl _) (.stringIter s 0))
  go_loopw [11] (fun _ wr => ∃ k : Nat, k ≤ s.size ∧ (∀ i, (hi : i < s.size) → i < k → isDgB (s[i]'hi) = true) ∧ wr.heap[w.heap.size]? = some (.stringIter s k) ∧ Below w.heap.size w wr) (fun _ wr => s.size - wr.iterPos w.heap.size)
  case atStart => exact ⟨0, Nat.zero_le _, by intro i _ h; omega, HIT.out, HBI.out⟩
  case round =>
    obtain ⟨k, hk, hall, hi, hb⟩ := hrel
    by_cases hp : k < s.size
    · have hnx : ∀ ty, (Instr.next (.pointer (some ⟨w.heap.size, 0, none⟩)) true ty).run Tryz.prog wr = _ := fun ty => Lib.run_next_any_at wr w.heap.size s k ty hi hp
      have hil : w.heap.size < wr.heap.size := (Array.getElem?_eq_some_iff.1 hi).1
      have hit2 := Lib.iterAt_heap wr w.heap.size s k (k + (Utf8.decode s k).2) hi
      have hb2 := Lib.below_iterAt hb (k := w.heap.size) (Nat.le_refl _) s (k + (Utf8.decode s k).2)
      have HI := Aside0.mk hi
      have HALL := Aside0.mk hall
      by_cases hg : isDgB (s[k]'hp) = true
      · have hgd : 48 ≤ (s[k]'hp).toNat ∧ (s[k]'hp).toNat ≤ 57 := by unfold isDgB at hg; simpa using hg
        have hd := decode_ascii s k hp (by omega)
        rw [hd] at hnx hit2 hb2
        have hbool : (decide (((s[k]'hp).toNat : Int) < 48) || decide (57 < ((s[k]'hp).toNat : Int))) = false := by
          rw [decide_eq_false (by omega), decide_eq_false (by omega)]
          rfl
        have HDA := Aside0.mk (digit_any ((s[k]'hp).toNat : Int))
        rw [hbool] at HDA
        have HG := Aside0.mk hg
        have HIT2 := Aside0.mk hit2
        have HB2 := Aside0.mk hb2
        clear hg hgd hd hbool hit2 hb2 hi hb hall
        go_wp2_with fail
        refine (HDA.out _).mono ?_
        rintro e w1 ⟨rfl, rfl⟩
        go_wp2
        go_roundw
        case rel =>
          refine ⟨k + 1, by omega, fun i hi hik => ?_, HIT2.out, HB2.out⟩
          rcases Nat.lt_or_ge i k with h | h
          · exact HALL.out i hi h
          · obtain rfl : i = k := by omega
            exact HG.out
        case measure =>
          simp only [World.iterPos, HIT2.out, HI.out]
          omega
      · have hbool : (decide (((Utf8.decode s k).1 : Int) < 48) || decide (57 < ((Utf8.decode s k).1 : Int))) = true := by
          rcases Nat.lt_or_ge (s[k]'hp).toNat 128 with ha | ha
          · rw [decode_ascii s k hp ha]
            unfold isDgB at hg
            simp only [Bool.and_eq_true, decide_eq_true_eq] at hg
            rw [Bool.or_eq_true, decide_eq_true_eq, decide_eq_true_eq]
            show ((s[k]'hp).toNat : Int) < 48 ∨ 57 < ((s[k]'hp).toNat : Int)
            omega
          · have := (decode_high s k hp ha).1
            rw [Bool.or_eq_true, decide_eq_true_eq, decide_eq_true_eq]
            omega
        have HDA := Aside0.mk (digit_any ((Utf8.decode s k).1 : Int))
        rw [hbool] at HDA
        have HNO := Aside0.mk (show s.data.toList.all isDgB = false by
          rw [Bool.eq_false_iff]
          intro h
          rw [List.all_eq_true] at h
          exact hg (h _ (by show s.data[k] ∈ s.data.toList; simp)))
        have HB2 := Aside0.mk hb2
        clear hg hbool hit2 hb2 hi hb hall
        go_wp2_with fail
        refine (HDA.out _).mono ?_
        rintro e w1 ⟨rfl, rfl⟩
        go_wp2
        go_ret
        exact ⟨k, rfl, by rw [HNO.out, decide_eq_true (by omega)]; rfl, HB2.out⟩
    · have hnx : ∀ ty, (Instr.next (.pointer (some ⟨w.heap.size, 0, none⟩)) true ty).run Tryz.prog wr = _ := fun ty => Lib.run_next_end_at wr w.heap.size s k ty hi hp
      have HYES := Aside0.mk (show s.data.toList.all isDgB = true by
        rw [List.all_eq_true]
        intro b hbm
        obtain ⟨i, hi2, rfl⟩ := List.getElem_of_mem hbm
        have h := hall i (by simpa using hi2) (by have : i < s.size := by simpa using hi2
                                                  omega)
        exact h)
      have HB := Aside0.mk hb
      clear hb hall
      go_wp2
      go_ret
      exact ⟨-1, rfl, by rw [HYES.out]; rfl, HB.out⟩
theorem containsFunc_any (s : ByteArray) (w : World) :
    Calls Tryz.prog 37 #[.string s, .func (.func 38) #[] #[]] w fun e w' => e = .returned (.bool (!(s.data.toList.all isDgB))) ∧ Below w.heap.size w w' := by
  have HX : Aside0 (Calls Tryz.prog 72 #[.string s, .func (.func 38) #[] #[]] w fun e w' => ∃ i : Int, e = .returned (.int .i64 i) ∧ decide (0 ≤ i) = !(s.data.toList.all isDgB) ∧ Below w.heap.size w w') := ⟨by
    go_enter Tryz.func72, Tryz.ntmps72
    go_wp2_with fail
    refine (indexFunc_any s w).mono ?_
    rintro e w1 ⟨i, rfl, hi, hb⟩
    have HI := Aside0.mk (And.intro hi hb)
    clear hi hb
    go_wp2
    go_ret
    exact ⟨i, rfl, HI.out.1, HI.out.2⟩⟩
  go_enter Tryz.func37, Tryz.ntmps37
  go_wp2_with fail
  refine HX.out.mono ?_
  rintro e w1 ⟨i, rfl, hi, hb⟩
  have HI := Aside0.mk (And.intro hi hb)
  clear hi hb
  go_wp2
  go_ret
  exact ⟨by rw [← HI.out.1]; rfl, HI.out.2⟩
/-- Digits to the base 64 as symbols. -/
def symG (L : List Nat) : List G := L.map gOf
theorem ns_symG (L : List Nat) (h : ∀ x ∈ L, x < 64) : ns (symG L) = il L := by
  unfold ns symG il
  rw [List.map_map]
  apply List.map_congr_left
  intro x hx
  show ((gOf x).n : Int) = x
  rw [gOf_n _ (h x hx)]
/-- The word of a payload. -/
structure IsWd (s : ByteArray) (R : List G) : Prop where
  ex : ∃ L, IsNum L (num (dg s)) ∧ R.take 16 = symG L
  len : R.length = 20
  code : Code R
/-- The bars of a word. -/
def barL (R : List G) : List UInt8 := 65 :: 84 :: (Br.writeText (ns R) ++ [70, 68])
def barT (R : List G) : ByteArray := Br.mkB (barL R)
theorem ns_range (R : List G) : ∀ x ∈ ns R, 0 ≤ x ∧ x ≤ 63 := fun x hx => by
  obtain ⟨y, _, rfl⟩ := List.mem_map.1 hx
  have := y.lt
  omega
theorem writeText_isL (S : List Int) (h : ∀ x ∈ S, 0 ≤ x ∧ x ≤ 63) : (Br.writeText S).all Br.isL = true := by
  induction S with
  | nil => rfl
  | cons n S ih =>
    have h1 := h n (by simp)
    rw [Br.writeText, List.all_cons, List.all_cons, List.all_cons, ih fun x hx => h x (by simp [hx]), Br.lb_letter _ (by omega) (by omega), Br.lb_letter _ (by omega) (by omega), Br.lb_letter _ (by omega) (by omega)]
    rfl
set_option maxHeartbeats 8000000 in
set_option maxRecDepth 1000000 in
theorem Write_ok (s : ByteArray) (w : World) (hp : PW w) (hs : s.size ≤ 28) (hd : isDg s) :
    Calls Tryz.prog 19 #[.string s] w fun e w' => ∃ R, IsWd s R ∧ e = .returned (.tuple #[.string (barT R), .int .i64 0]) ∧ Below w.heap.size w w' := by
  have HCF := containsFunc_any s w
  rw [(isDg_iff s).1 hd] at HCF
  replace HCF := Aside0.mk HCF
  have HD := Aside0.mk hd
  have HP := Aside0.mk hp
  have hsi : ¬ (28 < (s.size : Int)) := by omega
  clear hd hp
  go_enter Tryz.func19, Tryz.ntmps19
  go_wp2_with fail
  refine HCF.out.mono ?_
  rintro e w1 ⟨rfl, hb1⟩
  have HB1 := Aside0.mk hb1
  have HCA := Aside0.mk (carried_any s w1 hs HD.out)
  clear hb1 HCF
  go_wp2_with fail
  refine HCA.out.mono ?_
  rintro e w2 ⟨L, hN, rfl, hb2⟩
  obtain ⟨a0, a1, a2, a3, a4, a5, a6, a7, a8, a9, a10, a11, a12, a13, a14, a15, hL⟩ := list16 L hN.len
  have e0 : ((il L).map (Value.int .u8)).toArray = #[.int .u8 (a0 : Int), .int .u8 (a1 : Int), .int .u8 (a2 : Int), .int .u8 (a3 : Int), .int .u8 (a4 : Int), .int .u8 (a5 : Int), .int .u8 (a6 : Int), .int .u8 (a7 : Int), .int .u8 (a8 : Int), .int .u8 (a9 : Int), .int .u8 (a10 : Int), .int .u8 (a11 : Int), .int .u8 (a12 : Int), .int .u8 (a13 : Int), .int .u8 (a14 : Int), .int .u8 (a15 : Int)] := by rw [hL]; rfl
  rw [e0]
  obtain ⟨w3, hw3⟩ : ∃ w3, w2.alloc (.cells #[.int .u8 (a0 : Int), .int .u8 (a1 : Int), .int .u8 (a2 : Int), .int .u8 (a3 : Int), .int .u8 (a4 : Int), .int .u8 (a5 : Int), .int .u8 (a6 : Int), .int .u8 (a7 : Int), .int .u8 (a8 : Int), .int .u8 (a9 : Int), .int .u8 (a10 : Int), .int .u8 (a11 : Int), .int .u8 (a12 : Int), .int .u8 (a13 : Int), .int .u8 (a14 : Int), .int .u8 (a15 : Int)] 90) = w3 := ⟨_, rfl⟩
  have hb3 : Below w2.heap.size w2 w3 := by rw [← hw3]; exact below_al w2 _
  have hrow : CRow (Value.int .u8) 0 w3 w2.heap.size (ns (symG L)) := by rw [ns_symG L hN.dig, ← hw3, ← e0]; exact CRow.lit' (Value.int .u8) 0 w2 _ (il L) _ rfl
  have hsl : (symG L).length = 16 := by unfold symG; rw [List.length_map]; exact hN.len
  have hB3 := HB1.out.trans ((hb2.trans (hb3.mono hb2.size)).mono HB1.out.size)
  have hEN := Encode_ok (some ⟨w2.heap.size, 0, none⟩) 16 (symG L) w3 (HP.out.below hB3) (by have := hrow.reads (by rw [ns_length, hsl]; omega); rwa [ns_length] at this) (by rw [hsl]; exact Nat.le_refl _) (by rw [hsl]; omega) (by rw [hsl]; omega)
  rw [hsl] at hEN
  have HEN := Aside0.mk hEN
  have HN := Aside0.mk hN
  have HB3 := Aside0.mk hB3
  have HW3 := Aside0.mk hw3
  clear hL e0 hw3 hb3 hrow hsl hB3 hEN hb2 hN HCA
  go_wp2_with fail
  rw [HW3.out]
  refine HEN.out.mono ?_
  rintro e w4 ⟨g, c, rfl, -, hc, R, hRl, hRt, hRc, hRr, hb4⟩
  replace hRl : R.length = 20 := hRl
  replace hc : 20 ≤ c := hc
  have HB4 := Aside0.mk (HB3.out.trans (hb4.mono HB3.out.size))
  have HWD := Aside0.mk (show IsWd s R from ⟨⟨L, HN.out, hRt⟩, hRl, hRc⟩)
  have hr20 := hRr.reads (by rw [ns_length, hRl]; omega)
  have hBW := Br.bars_Write.calls (some ⟨g, 0, none⟩) c (ns R) _ _ w4 hr20 (by rw [ns_length, hRl]; exact hc) (Br.write_f (ns R) (by rw [ns_length, hRl]; omega) (ns_range R))
  rw [ns_length, hRl] at hBW
  have HBW := Aside0.mk hBW
  have HRL := Aside0.mk hRl
  clear hr20 hBW hc hRl hRt hRc hRr hb4 HEN
  go_wp2_with fail
  refine HBW.out.mono ?_
  rintro e w5 ⟨rfl, hb5⟩
  have HB5 := Aside0.mk (HB4.out.trans (hb5.mono HB4.out.size))
  have HFR := Aside0.mk (Br.bars_Frame.calls (Br.mkB (Br.writeText (ns R))) _ _ w5 (Br.frame_mk (Br.writeText (ns R)) (by rw [Br.writeText_length, ns_length, HRL.out]; omega) (writeText_isL _ (ns_range R))))
  clear hb5 HBW
  go_wp2_with fail
  refine HFR.out.mono ?_
  rintro e w6 ⟨rfl, hb6⟩
  have HB6 := Aside0.mk (HB5.out.trans (hb6.mono HB5.out.size))
  clear hb6 HFR
  go_wp2
  go_ret2
  exact ⟨R, HWD.out, rfl, HB6.out⟩
theorem Write_long (s : ByteArray) (w : World) (hs : 28 < s.size) (hm : s.size ≤ 140737488351232) :
    Calls Tryz.prog 19 #[.string s] w fun e w' => e = .returned (.tuple #[.string ⟨#[]⟩, .int .i64 3]) ∧ Below w.heap.size w w' := by
  have hsi : 28 < (s.size : Int) := by omega
  go_enter Tryz.func19, Tryz.ntmps19
  go_wp2_with fail
  go_ret2
  exact ⟨rfl, Below.refl _ _⟩
theorem Write_bad (s : ByteArray) (w : World) (hs : s.size ≤ 28) (hd : ¬ isDg s) :
    Calls Tryz.prog 19 #[.string s] w fun e w' => e = .returned (.tuple #[.string ⟨#[]⟩, .int .i64 2]) ∧ Below w.heap.size w w' := by
  have HCF := containsFunc_any s w
  rw [show s.data.toList.all isDgB = false by rw [Bool.eq_false_iff]; exact fun h => hd ((isDg_iff s).2 h)] at HCF
  replace HCF := Aside0.mk HCF
  have hsi : ¬ (28 < (s.size : Int)) := by omega
  clear hd
  go_enter Tryz.func19, Tryz.ntmps19
  go_wp2_with fail
  refine HCF.out.mono ?_
  rintro e w1 ⟨rfl, hb1⟩
  have HB1 := Aside0.mk hb1
  clear hb1 HCF
  go_wp2
  go_ret2
  exact ⟨rfl, HB1.out⟩
end Go.Proofs.YtajccgmeminlhaaGreatDoor
end
section
/- barcode.Read: the payload of bars. -/
set_option linter.unusedVariables false
set_option linter.unusedSimpArgs false
namespace Go.Proofs.YtajccgmeminlhaaGreatDoor
open Go.RowKit Go.Shelf Go.Proofs.YtajccgmeminlhaaGreatDoorW.PrintWords Go.Proofs.YtajccgmeminlhaaGreatDoorW.PrintLast Go.Proofs.YtajccgmeminlhaaGreatDoorW.PrintMore Go.Proofs.YtajccgmeminlhaaGreatDoor.Q Go.Proofs.YtajccgmeminlhaaGreatDoor.Gf Go.Proofs.YtajccgmeminlhaaGreatDoor.Num

theorem list20 {α : Type} (L : List α) (h : L.length = 20) : ∃ y0 y1 y2 y3 y4 y5 y6 y7 y8 y9 y10 y11 y12 y13 y14 y15 y16 y17 y18 y19, L = [y0, y1, y2, y3, y4, y5, y6, y7, y8, y9, y10, y11, y12, y13, y14, y15, y16, y17, y18, y19] := by
  match L, h with
  | [y0, y1, y2, y3, y4, y5, y6, y7, y8, y9, y10, y11, y12, y13, y14, y15, y16, y17, y18, y19], _ => exact ⟨y0, y1, y2, y3, y4, y5, y6, y7, y8, y9, y10, y11, y12, y13, y14, y15, y16, y17, y18, y19, rfl⟩
/-- What is read stays read if a row of other values is written. -/
theorem C_setRow {k : IntKind} {W : World} {g n : Nat} {cs old : Array Value} {t : TypeId} {fr : Nat × Nat} {A : Option Addr} {l : List Int} (hg : W.heap[g]? = some (.cells old t fr)) (hno : ∀ (j : Nat) (x : Int), old[j]? ≠ some (.int k x)) (h : Kd.C (Kd.int k) W A n l) : Kd.C (Kd.int k) (W.setRow g cs) A n l := by
  refine ⟨h.1, h.2.1, fun h0 => ?_⟩
  obtain ⟨ad, e, hc⟩ := h.2.2 h0
  refine ⟨ad, e, fun j p hj => ?_⟩
  obtain ⟨c, hcl, hk, hcell⟩ := hc j p hj
  refine ⟨c, hcl, hk, fun i u hu => ?_⟩
  have h1 := hcell i u hu
  have hk : c = [Value.int k p] := hk
  have hu2 : u = .int k p := by
    rw [hk] at hu
    match i, hu with
    | 0, hu => exact (Option.some.inj hu).symm
    | i + 1, hu => simp at hu
  rw [cell_setRow_other _ _ _ _ (fun hb => ?_)]
  · exact h1
  · unfold World.cell? at h1
    rw [hb, hg, hu2] at h1
    simp only at h1
    split at h1
    · cases h1
    · exact hno _ _ h1
/-- Nothing found. -/
def noFound : Value := .agg #[.string ⟨#[]⟩, .bool false, .slice none 0 0, .slice none 0 0]
set_option maxHeartbeats 4000000 in
set_option maxRecDepth 1000000 in
theorem Read_len (s : ByteArray) (w : World) (hs : s.size ≠ 64) :
    Calls Tryz.prog 20 #[.string s] w fun e w' => e = .returned (.tuple #[noFound, .int .i64 2]) ∧ Below w.heap.size w w' := by
  obtain ⟨w0, hw0⟩ : ∃ w0, w.alloc (.cells #[.string ⟨#[]⟩, .bool false, .slice none 0 0, .slice none 0 0] 31) = w0 := ⟨_, rfl⟩
  have HZ := Aside0.mk (show w0.heap[w.heap.size]? = some (.cells #[.string ⟨#[]⟩, .bool false, .slice none 0 0, .slice none 0 0] 31 (0, 0)) by rw [← hw0]; exact heap_alloc_new w _)
  have HB := Aside0.mk (show Below w.heap.size w w0 by rw [← hw0]; exact below_al w _)
  have HW0 := Aside0.mk hw0
  have hsi : ((s.size : Int) == 64) = false := by rw [beq_eq_false_iff_ne]; omega
  have hsj : ¬ ((s.size : Int) = 64) := by omega
  have hsk : ((s.size : Int) != 64) = true := by rw [bne, hsi]; rfl
  clear hw0
  go_enter Tryz.func20, Tryz.ntmps20
  have HZl := HZ.out
  rw [← HW0.out] at HZl
  replace HZl := Aside0.mk HZl
  go_wp2_with (refine wpList_store_row rfl 31 (.tmp 2) (.tmp 15) rfl w.heap.size _ rfl rfl 31 _ HZl.out (by kernel_rfl) rfl (by simp [Value.oneCell']) ?_)
  have hrw := setRow_heap (w.alloc (.cells #[.string ⟨#[]⟩, .bool false, .slice none 0 0, .slice none 0 0] 31)) w.heap.size _ #[.string ⟨#[]⟩, .bool false, .slice none 0 0, .slice none 0 0] _ _ HZl.out
  (try simp only [Exit.inBlock, Exit.then])
  refine bodyPost_ret (results_ct rfl _ _ w.heap.size _ #[.string ⟨#[]⟩, .bool false, .slice none 0 0, .slice none 0 0] _ _ rfl hrw Tryz.underlying31 rfl (by kernel_rfl)) rfl ?_
  exact ⟨rfl, by rw [HW0.out]; exact below_setRow HB.out (Nat.le_refl _) _⟩
set_option maxHeartbeats 4000000 in
set_option maxRecDepth 1000000 in
theorem Read_ends (s m : ByteArray) (tu : Bool) (er : Int) (w : World) (hs : s.size = 64) (hu : R.bars_Unframe.f s = some (m, tu, er)) (he : er ≠ 0) :
    Calls Tryz.prog 20 #[.string s] w fun e w' => e = .returned (.tuple #[noFound, .int .i64 er]) ∧ Below w.heap.size w w' := by
  obtain ⟨w0, hw0⟩ : ∃ w0, w.alloc (.cells #[.string ⟨#[]⟩, .bool false, .slice none 0 0, .slice none 0 0] 31) = w0 := ⟨_, rfl⟩
  have hz0 : w.heap.size < w0.heap.size := by rw [← hw0]; simp
  have HZ := Aside0.mk (show w0.heap[w.heap.size]? = some (.cells #[.string ⟨#[]⟩, .bool false, .slice none 0 0, .slice none 0 0] 31 (0, 0)) by rw [← hw0]; exact heap_alloc_new w _)
  have HB := Aside0.mk (show Below w.heap.size w w0 by rw [← hw0]; exact below_al w _)
  have HW0 := Aside0.mk hw0
  have hsi : (s.size : Int) = 64 := by omega
  have HUN := Aside0.mk (R.bars_Unframe.calls s m tu er w0 hu)
  have he1 : (er == 0) = false := by rw [beq_eq_false_iff_ne]; exact he
  have he2 : (er != 0) = true := by rw [bne, he1]; rfl
  clear hw0 hu hs
  go_enter Tryz.func20, Tryz.ntmps20
  go_wp2_with fail
  rw [HW0.out]
  refine HUN.out.mono ?_
  rintro e w1 ⟨rfl, hb1⟩
  have HB1 := Aside0.mk (HB.out.trans (hb1.mono HB.out.size))
  have HZ1 := Aside0.mk ((hb1.block _ hz0).trans HZ.out)
  clear hb1 HUN
  go_wp2_with (refine wpList_store_row rfl 31 (.tmp 2) (.tmp 24) rfl w.heap.size _ rfl rfl 31 _ HZ1.out (by kernel_rfl) rfl (by simp [Value.oneCell']) ?_)
  have hrw := setRow_heap w1 w.heap.size _ #[.string ⟨#[]⟩, .bool false, .slice none 0 0, .slice none 0 0] _ _ HZ1.out
  (try simp only [Exit.inBlock, Exit.then])
  refine bodyPost_ret (results_ct rfl _ _ w.heap.size _ #[.string ⟨#[]⟩, .bool false, .slice none 0 0, .slice none 0 0] _ _ rfl hrw Tryz.underlying31 rfl (by kernel_rfl)) rfl ?_
  exact ⟨rfl, below_setRow HB1.out (Nat.le_refl _) _⟩
/-- What is read of letters: the symbols, and the places that are not clear. -/
def symS (m : ByteArray) : List G := (Br.symsOf (Br.gl m) 20).map fun x => gOf x.toNat
def clrP (m : ByteArray) : List Nat := (List.range 20).filter (Br.unclear (Br.gl m))
theorem is_clrP (m : ByteArray) : is (clrP m) = Br.erasedOf (Br.gl m) 20 := rfl
theorem clrP_lt (m : ByteArray) : ∀ p ∈ clrP m, p < 20 := fun p hp => by simp [clrP] at hp; exact hp.1
theorem clrP_nodup (m : ByteArray) : (clrP m).Nodup := List.Pairwise.filter _ List.nodup_range
theorem clrP_le (m : ByteArray) : (clrP m).length ≤ 20 := by
  have := List.length_filter_le (Br.unclear (Br.gl m)) (List.range 20)
  rwa [List.length_range] at this
theorem symS_length (m : ByteArray) : (symS m).length = 20 := by unfold symS; rw [List.length_map, Br.symsOf_length]
theorem gl_range {m : ByteArray} (hm : m.size = 60) (hl : Br.lettersAll m = true) (j : Nat) (hj : j < 60) : 0 ≤ Br.gl m j ∧ Br.gl m j ≤ 4 := by
  rw [Br.gl_at m j (by omega)]
  exact ⟨Br.lettersAll_at hl j (by omega), (Br.st_range _).2⟩
theorem symsOf_range {m : ByteArray} (hm : m.size = 60) (hl : Br.lettersAll m = true) : ∀ x ∈ Br.symsOf (Br.gl m) 20, 0 ≤ x ∧ x ≤ 63 := fun x hx => by
  obtain ⟨i, hi, rfl⟩ := List.mem_map.1 hx
  rw [List.mem_range] at hi
  have h0 := gl_range hm hl (3 * i) (by omega)
  have h1 := gl_range hm hl (3 * i + 1) (by omega)
  have h2 := gl_range hm hl (3 * i + 2) (by omega)
  unfold Br.symOf
  split <;> omega
theorem ns_symS {m : ByteArray} (hm : m.size = 60) (hl : Br.lettersAll m = true) : ns (symS m) = Br.symsOf (Br.gl m) 20 := by
  unfold ns symS
  rw [List.map_map]
  conv => rhs; rw [← List.map_id (Br.symsOf (Br.gl m) 20)]
  apply List.map_congr_left
  intro x hx
  have := symsOf_range hm hl x hx
  show ((gOf x.toNat).n : Int) = x
  rw [gOf_n _ (by omega)]
  omega
theorem readW_in {m : ByteArray} (hm : m.size = 60) (hl : Br.lettersAll m = true) : Br.readW m = (ns (symS m), is (clrP m), 0) := by
  unfold Br.readW
  rw [if_pos (Br.check_ok m 0 (by omega) hl), if_pos (by omega), hm, ns_symS hm hl]
  rfl
theorem bread_in (m : ByteArray) (W : World) (hm : m.size = 60) (hl : Br.lettersAll m = true) :
    Calls Tryz.prog 44 #[.string m] W fun e w' => ∃ A0 c0 A1 c1, e = .returned (.tuple #[.slice A0 20 c0, .slice A1 (clrP m).length c1, .int .i64 0]) ∧ 20 ≤ c0 ∧ (clrP m).length ≤ c1 ∧ Kd.C (Kd.int .u8) w' A0 20 (ns (symS m)) ∧ Kd.C (Kd.int .i64) w' A1 (clrP m).length (is (clrP m)) ∧ Below W.heap.size W w' := by
  refine (Br.read_any m W (by omega)).mono ?_
  rintro e w2 ⟨v0, v1, he, hr0, hr1, hb2⟩
  rw [readW_in hm hl] at hr0 hr1 he
  obtain ⟨A0, c0, hv0, hc0, hC0⟩ := Kd.R_reads hr0
  obtain ⟨A1, c1, hv1, hc1, hC1⟩ := Kd.R_reads hr1
  have e0 : (ns (symS m)).length = 20 := by rw [ns_length, symS_length]
  have e1 : (is (clrP m)).length = (clrP m).length := is_length _
  replace hc0 : (ns (symS m)).length ≤ c0 := hc0
  replace hC0 : Kd.C (Kd.int .u8) w2 A0 (ns (symS m)).length (ns (symS m)) := hC0
  replace hc1 : (is (clrP m)).length ≤ c1 := hc1
  replace hC1 : Kd.C (Kd.int .i64) w2 A1 (is (clrP m)).length (is (clrP m)) := hC1
  replace hv0 : v0 = .slice A0 (ns (symS m)).length c0 := hv0
  replace hv1 : v1 = .slice A1 (is (clrP m)).length c1 := hv1
  rw [e0] at hc0 hC0 hv0
  rw [e1] at hc1 hC1 hv1
  subst hv0 hv1
  exact ⟨A0, c0, A1, c1, he, hc0, hc1, hC0, hC1, hb2⟩
/-- The digits to the base 64 of a word's payload. -/
def digX (x : List G) : List Nat := (x.take 16).map fun y => y.n
set_option maxHeartbeats 16000000 in
set_option maxRecDepth 1000000 in
theorem Read_in (s m : ByteArray) (tu : Bool) (w : World) (hp : PW w) (hs : s.size = 64) (hu : R.bars_Unframe.f s = some (m, tu, 0)) (hm : m.size = 60) (hl : Br.lettersAll m = true) :
    Calls Tryz.prog 20 #[.string s] w fun e w' =>
      ((e = .returned (.tuple #[noFound, .int .i64 190]) ∧ (4 < (clrP m).length ∨ ∀ x, ¬ Near (symS m) (clrP m) x)) ∨
        ∃ x, Near (symS m) (clrP m) x ∧ (clrP m).length ≤ 4 ∧ ((e = .returned (.tuple #[noFound, .int .i64 220]) ∧ ∀ ds, dec (val (digX x)) ≠ 1 :: ds) ∨
          ∃ ds AE cE A1 c1, dec (val (digX x)) = 1 :: ds ∧ e = .returned (.tuple #[.agg #[.string (strOfNums (pd ds)), .bool tu, .slice AE (errL (symS m) (clrP m) x).length cE, .slice A1 (clrP m).length c1], .int .i64 0]) ∧ (errL (symS m) (clrP m) x).length ≤ cE ∧ (clrP m).length ≤ c1 ∧ Kd.C (Kd.int .i64) w' AE (errL (symS m) (clrP m) x).length (is (errL (symS m) (clrP m) x)) ∧ Kd.C (Kd.int .i64) w' A1 (clrP m).length (is (clrP m)))) ∧ Below w.heap.size w w' := by
  obtain ⟨w0, hw0⟩ : ∃ w0, w.alloc (.cells #[.string ⟨#[]⟩, .bool false, .slice none 0 0, .slice none 0 0] 31) = w0 := ⟨_, rfl⟩
  have hz0 : w.heap.size < w0.heap.size := by rw [← hw0]; simp
  have HZ := Aside0.mk (show w0.heap[w.heap.size]? = some (.cells #[.string ⟨#[]⟩, .bool false, .slice none 0 0, .slice none 0 0] 31 (0, 0)) by rw [← hw0]; exact heap_alloc_new w _)
  have HB := Aside0.mk (show Below w.heap.size w w0 by rw [← hw0]; exact below_al w _)
  have HW0 := Aside0.mk hw0
  have hsi : (s.size : Int) = 64 := by omega
  have HUN := Aside0.mk (R.bars_Unframe.calls s m tu 0 w0 hu)
  have HRD := Aside0.mk (fun W => bread_in m W hm hl)
  have HP := Aside0.mk hp
  have HSL := Aside0.mk (symS_length m)
  have HPL := Aside0.mk (And.intro (clrP_lt m) (And.intro (clrP_nodup m) (clrP_le m)))
  generalize symS m = SG at HRD HSL ⊢
  generalize clrP m = EP at HRD HPL ⊢
  obtain ⟨EPN, hEPN⟩ : ∃ EPN, EPN = EP.length := ⟨_, rfl⟩
  have HEPN := Aside0.mk hEPN
  rw [← hEPN] at HRD ⊢
  clear hw0 hu hm hl hp hs hEPN
  go_enter Tryz.func20, Tryz.ntmps20
  go_wp2_with fail
  rw [HW0.out]
  refine HUN.out.mono ?_
  rintro e w1 ⟨rfl, hb1⟩
  have HB1 := Aside0.mk hb1
  clear hb1 HUN
  go_wp2_with fail
  refine (HRD.out w1).mono ?_
  rintro e w2 ⟨A0, c0, A1, c1, rfl, hc0, hc1, hC0, hC1, hb2⟩
  have hb02 := HB1.out.trans (hb2.mono HB1.out.size)
  have hdec := Dec_all A0 c0 SG A1 c1 EP w2 (HP.out.below (HB.out.trans (hb02.mono HB.out.size))) (by rw [HSL.out]; exact hC0) (by rw [HSL.out]; exact hc0) (by rw [HSL.out]; omega) (by rw [HSL.out]; omega) (by rw [← HEPN.out]; exact hC1) (by rw [← HEPN.out]; exact hc1) (by have := HPL.out.2.2; omega) (fun p hp => by rw [HSL.out]; exact HPL.out.1 p hp) HPL.out.2.1
  rw [HSL.out, ← HEPN.out] at hdec
  have HDEC := Aside0.mk hdec
  have HB2 := Aside0.mk hb02
  have HC1 := Aside0.mk hC1
  clear hC0 hC1 hb2 hb02 hdec HRD
  go_wp2_with fail
  refine HDEC.out.mono ?_
  rintro e w3 ⟨hcase, hb3⟩
  have HB3 := Aside0.mk (HB2.out.trans (hb3.mono HB2.out.size))
  rcases hcase with ⟨rfl, hno⟩ | ⟨hP4, x, gx, cx, AE, cE, rfl, hnr, hcx, hcE, hrx, hre⟩
  · obtain ⟨w4, hw4⟩ : ∃ w4, w3.alloc (.cells #[.slice none 0 0, .slice none 0 0] 100) = w4 := ⟨_, rfl⟩
    have HB4 := Aside0.mk (HB3.out.trans ((show Below w3.heap.size w3 w4 by rw [← hw4]; exact below_al w3 _).mono HB3.out.size))
    have HZ4 := Aside0.mk ((HB4.out.block _ hz0).trans HZ.out)
    have HZl := HZ4.out
    rw [← hw4] at HZl
    replace HZl := Aside0.mk HZl
    have HW4 := Aside0.mk hw4
    have HNO := Aside0.mk hno
    clear hno hb3 hw4 HDEC
    go_wp2_with (refine wpList_store_row rfl 31 (.tmp 2) (.tmp 44) rfl w.heap.size _ rfl rfl 31 _ HZl.out (by kernel_rfl) rfl (by simp [Value.oneCell']) ?_)
    have hrw := setRow_heap (w3.alloc (.cells #[.slice none 0 0, .slice none 0 0] 100)) w.heap.size _ #[.string ⟨#[]⟩, .bool false, .slice none 0 0, .slice none 0 0] _ _ HZl.out
    (try simp only [Exit.inBlock, Exit.then])
    refine bodyPost_ret (results_ct rfl _ _ w.heap.size _ #[.string ⟨#[]⟩, .bool false, .slice none 0 0, .slice none 0 0] _ _ rfl hrw Tryz.underlying31 rfl (by kernel_rfl)) rfl ?_
    rw [HW4.out]
    exact ⟨.inl ⟨rfl, HNO.out⟩, below_setRow (HB.out.trans (HB4.out.mono HB.out.size)) (Nat.le_refl _) _⟩
  · have HNR := Aside0.mk hnr
    have hxl : x.length = 20 := by rw [hnr.len, HSL.out]
    obtain ⟨XN, hXN⟩ : ∃ XN, XN = (errL SG EP x).length := ⟨_, rfl⟩
    have HXN := Aside0.mk hXN
    rw [← hXN] at hcE hre ⊢
    obtain ⟨w4, hw4⟩ : ∃ w4, w3.alloc (.cells #[.slice (some ⟨gx, 0, none⟩) 20 cx, .slice AE XN cE] 100) = w4 := ⟨_, rfl⟩
    have hb4 : Below w3.heap.size w3 w4 := by rw [← hw4]; exact below_al w3 _
    have hblk : w4.heap[w3.heap.size]? = some (.cells #[.slice (some ⟨gx, 0, none⟩) 20 cx, .slice AE XN cE] 100 (0, 0)) := by rw [← hw4]; exact heap_alloc_new w3 _
    have HF := Aside0.mk hblk
    have hf0 : (w3.alloc (.cells #[.slice (some ⟨gx, 0, none⟩) 20 cx, .slice AE XN cE] 100)).cell? ⟨w3.heap.size, 0, none⟩ = some (.slice (some ⟨gx, 0, none⟩) 20 cx) := by rw [hw4]; unfold World.cell?; rw [hblk]; simp
    have hrx4 := hrx.below hb4
    have HRE4 := Aside0.mk (Kd.C_below hre hb4)
    have HB4 := Aside0.mk (HB3.out.trans (hb4.mono HB3.out.size))
    have HC4 := Aside0.mk (Kd.C_below (Kd.C_below HC1.out hb3) hb4)
    obtain ⟨y0, y1, y2, y3, y4, y5, y6, y7, y8, y9, y10, y11, y12, y13, y14, y15, y16, y17, y18, y19, hx⟩ := list20 x hxl
    have HX := Aside0.mk hx
    have hdx : digX x = [y0.n, y1.n, y2.n, y3.n, y4.n, y5.n, y6.n, y7.n, y8.n, y9.n, y10.n, y11.n, y12.n, y13.n, y14.n, y15.n] := by rw [hx]; rfl
    have HPY := payload_any [y0.n, y1.n, y2.n, y3.n, y4.n, y5.n, y6.n, y7.n, y8.n, y9.n, y10.n, y11.n, y12.n, y13.n, y14.n, y15.n] w4 rfl (by intro z hz; rw [← hdx] at hz; obtain ⟨y, -, rfl⟩ := List.mem_map.1 hz; exact y.lt)
    have HDX := Aside0.mk hdx
    rw [← hw4] at hrx4
    rw [hx] at hrx4
    have q0 := hrx4.cell 0 (show 0 < 20 by decide)
    have q1 := hrx4.cell 1 (show 1 < 20 by decide)
    have q2 := hrx4.cell 2 (show 2 < 20 by decide)
    have q3 := hrx4.cell 3 (show 3 < 20 by decide)
    have q4 := hrx4.cell 4 (show 4 < 20 by decide)
    have q5 := hrx4.cell 5 (show 5 < 20 by decide)
    have q6 := hrx4.cell 6 (show 6 < 20 by decide)
    have q7 := hrx4.cell 7 (show 7 < 20 by decide)
    have q8 := hrx4.cell 8 (show 8 < 20 by decide)
    have q9 := hrx4.cell 9 (show 9 < 20 by decide)
    have q10 := hrx4.cell 10 (show 10 < 20 by decide)
    have q11 := hrx4.cell 11 (show 11 < 20 by decide)
    have q12 := hrx4.cell 12 (show 12 < 20 by decide)
    have q13 := hrx4.cell 13 (show 13 < 20 by decide)
    have q14 := hrx4.cell 14 (show 14 < 20 by decide)
    have q15 := hrx4.cell 15 (show 15 < 20 by decide)
    simp only [ns, List.map_cons, List.getD_cons_zero, List.getD_cons_succ] at q0 q1 q2 q3 q4 q5 q6 q7 q8 q9 q10 q11 q12 q13 q14 q15
    have HW4 := Aside0.mk hw4
    have hpy : Calls Tryz.prog 46 #[.agg #[.int .u8 ((y0.n : Nat) : Int), .int .u8 ((y1.n : Nat) : Int), .int .u8 ((y2.n : Nat) : Int), .int .u8 ((y3.n : Nat) : Int), .int .u8 ((y4.n : Nat) : Int), .int .u8 ((y5.n : Nat) : Int), .int .u8 ((y6.n : Nat) : Int), .int .u8 ((y7.n : Nat) : Int), .int .u8 ((y8.n : Nat) : Int), .int .u8 ((y9.n : Nat) : Int), .int .u8 ((y10.n : Nat) : Int), .int .u8 ((y11.n : Nat) : Int), .int .u8 ((y12.n : Nat) : Int), .int .u8 ((y13.n : Nat) : Int), .int .u8 ((y14.n : Nat) : Int), .int .u8 ((y15.n : Nat) : Int)]] w4 _ := HPY
    have HPY' := Aside0.mk hpy
    have hcx16 : 16 ≤ cx := by omega
    have harr : ∀ W : World, (Instr.arrayAt 90 (.slice (some ⟨gx, 0, none⟩) 16 cx)).run Tryz.prog W = .ok (.pointer (some ⟨gx, 0, none⟩)) W := fun W => run_arrayAt (P := Tryz.prog) (w := W) _ _ 16 _ 16 cx Tryz.underlying90 (Nat.le_refl _)
    clear hnr hrx hre hb3 hb4 hblk hw4 hxl hXN hx hdx HPY hpy hrx4 HDEC
    go_wp2_with fail
    rw [HW4.out]
    refine HPY'.out.mono ?_
    rintro e w5 ⟨hcase, hb5⟩
    rw [← HDX.out] at hcase
    have HB5 := Aside0.mk (HB4.out.trans (hb5.mono HB4.out.size))
    have HZ5 := Aside0.mk ((HB5.out.block _ hz0).trans HZ.out)
    have HF5 := Aside0.mk (blk_below HF.out hb5)
    have HRE5 := Aside0.mk (Kd.C_below HRE4.out hb5)
    have HC5 := Aside0.mk (Kd.C_below HC4.out hb5)
    clear hb5 HPY' hf0 q0 q1 q2 q3 q4 q5 q6 q7 q8 q9 q10 q11 q12 q13 q14 q15 harr
    rcases hcase with ⟨hno, rfl⟩ | ⟨ds, hds, rfl⟩
    · have HNO := Aside0.mk hno
      clear hno
      go_wp2_with (refine wpList_store_row rfl 31 (.tmp 2) (.tmp 57) rfl w.heap.size _ rfl rfl 31 _ HZ5.out (by kernel_rfl) rfl (by simp [Value.oneCell']) ?_)
      have hrw := setRow_heap w5 w.heap.size _ #[.string ⟨#[]⟩, .bool false, .slice none 0 0, .slice none 0 0] _ _ HZ5.out
      (try simp only [Exit.inBlock, Exit.then])
      refine bodyPost_ret (results_ct rfl _ _ w.heap.size _ #[.string ⟨#[]⟩, .bool false, .slice none 0 0, .slice none 0 0] _ _ rfl hrw Tryz.underlying31 rfl (by kernel_rfl)) rfl ?_
      exact ⟨.inr ⟨x, HNR.out, hP4, .inl ⟨rfl, HNO.out⟩⟩, below_setRow (HB.out.trans (HB5.out.mono HB.out.size)) (Nat.le_refl _) _⟩
    · have HDS := Aside0.mk hds
      have hf1 : w5.cell? ⟨w3.heap.size, 1, none⟩ = some (.slice AE XN cE) := by unfold World.cell?; rw [HF5.out]; simp
      clear hds
      go_wp2_with (refine wpList_store_row rfl 31 (.tmp 2) (.tmp 63) rfl w.heap.size _ rfl rfl 31 _ HZ5.out (by kernel_rfl) rfl (by simp [Value.oneCell']) ?_)
      have hrw := setRow_heap w5 w.heap.size _ #[.string (strOfNums (pd ds)), .bool tu, .slice AE XN cE, .slice A1 EPN c1] _ _ HZ5.out
      (try simp only [Exit.inBlock, Exit.then])
      refine bodyPost_ret (results_ct rfl _ _ w.heap.size _ #[.string (strOfNums (pd ds)), .bool tu, .slice AE XN cE, .slice A1 EPN c1] _ _ rfl hrw Tryz.underlying31 rfl (by kernel_rfl)) rfl ?_
      have hno : ∀ (j : Nat) (z : Int), (#[.string ⟨#[]⟩, .bool false, .slice none 0 0, .slice none 0 0] : Array Value)[j]? ≠ some (.int .i64 z) := by
        intro j z h
        match j, h with
        | 0, h => cases h
        | 1, h => cases h
        | 2, h => cases h
        | 3, h => cases h
        | j + 4, h => simp at h
      exact ⟨.inr ⟨x, HNR.out, hP4, .inr ⟨ds, AE, cE, A1, c1, HDS.out, by rw [← HXN.out]; rfl, by rw [← HXN.out]; exact hcE, hc1, by rw [← HXN.out]; exact C_setRow HZ5.out hno HRE5.out, C_setRow HZ5.out hno HC5.out⟩⟩, below_setRow (HB.out.trans (HB5.out.mono HB.out.size)) (Nat.le_refl _) _⟩
end Go.Proofs.YtajccgmeminlhaaGreatDoor
end
