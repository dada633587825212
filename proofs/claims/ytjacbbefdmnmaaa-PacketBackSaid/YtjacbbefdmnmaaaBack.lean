/- The walk of the statement PacketBack, over this seat's program. -/
import Derived.Test.YtjacbbefdmnmaaaLaws
namespace Go.Proofs.Ytjacbbefdmnmaaa
open Go.RowKit Go.Shelf
set_option linter.unusedVariables false

theorem zero_u8 (k : Nat) : Builtin.zeroCells (Value.int .u8 0).cells k = (u8s (List.replicate k 0)).toArray := by
  apply Array.ext
  · simp [Builtin.zeroCells, u8s, Value.cells]
  · intro i h1 h2
    simp [Builtin.zeroCells, u8s, Value.cells, Nat.mod_one]

/-- append onto a nil slice of what is some: a new block. -/
theorem wpList_append_new {P : Program} (w : World) {ops : Array Oper} {rest : List Oper} {o : Oper} {a : Act} {Q : Exit → Act → World → Prop} (hgd : o.guard = none) (s x : Operand) (t : TypeId)
    (ho : o.op = .call { callee := .builtin .append, args := #[s, x], argTypes := #[t, t] }) (hs : a.eval s = .slice none 0 0)
    (xv v : Value) (w' : World) (hx : a.eval x = xv) (hr : ∀ ty, (Builtin.append_ #[t, t] ty #[.slice none 0 0, xv]).run P w = .ok v w')
    (h : wpList P ops Q rest (a.put o.dst v) w') : wpList P ops Q (o :: rest) a w := by
  refine wpList_plain hgd fun K hK => ?_
  unfold Oper.wp execOp
  simp only [ho, resolve, invoke, builtin, Sem.run_bind, Sem.run_pure, Result.andThen_ok, List.map_toArray, List.map_cons, List.map_nil, hs, hx, hr]
  exact hK _ _ h

/-- A copy of bytes that are some: a new block, noughts behind them. -/
theorem copy_new (a : Addr) (c : Nat) (xs : List Int) (w : World) (ha : Rd w w.heap.size (some a) c (u8s xs)) (h0 : 0 < xs.length) (hn : xs.length ≤ 1000000) :
    Calls Try.prog 14 #[.slice (some a) xs.length c] w fun e w' => ∃ k, e = .returned (.slice (some ⟨w.heap.size, 0, none⟩) xs.length (xs.length + k)) ∧ Bk w' w.heap.size 5 (u8s (xs ++ List.replicate k 0)) ∧ Below w.heap.size w w' := by
  obtain ⟨i0, hi, hz0, hz1, hz2⟩ := info_parts u8_info
  have hr : ∀ ty, _ := fun ty => run_append_nil (P := Try.prog) w 22 ty 5 i0 (.int .u8 0) Try.underlying22 hi hz0 a xs.length c (u8s xs) (by simp [hz1]) (ha.cells a rfl) h0 (by omega) (by rw [hz2]; omega)
  have hge := grownCap_ge w xs.length 0 5
  obtain ⟨k, hk⟩ : ∃ k, grownCap w xs.length 0 5 = xs.length + k := ⟨grownCap w xs.length 0 5 - xs.length, by omega⟩
  rw [hk, show xs.length + k - xs.length = k by omega, zero_u8] at hr
  have HR := Lib.hid hr
  clear hr ha hk hge
  go_enter Try.func14, Try.ntmps14
  go_wp2_with (at_builtin; refine wpList_append_new _ rfl _ _ 22 rfl rfl _ _ _ rfl HR.out ?_)
  go_ret
  refine ⟨k, rfl, ?_, ((Below.refl _ _).drew).alloc (Nat.le_refl _) _⟩
  rw [u8s_app]
  exact heap_alloc_new w.drew _

theorem pow_pos256 (m : Nat) : (0 : Int) < 256 ^ m := Int.pow_pos (by omega)
theorem ediv_pow (v : Int) (m : Nat) : v / 256 / 256 ^ m = v / 256 ^ (m + 1) := by
  rw [Int.ediv_ediv_of_nonneg (by omega), Int.pow_succ, Int.mul_comm]
/-- What was set is got, its highest j bytes. -/
theorem getN_setN (xs : List Int) (p k : Nat) (v : Int) (h : p + k ≤ xs.length) : ∀ j, j ≤ k → getN (setN xs p k v) p j = v / 256 ^ (k - j) % 256 ^ j
  | 0, _ => by simp [getN, Int.emod_one]
  | j + 1, hj => by
    have ih := getN_setN xs p k v h j (by omega)
    obtain ⟨m, hm⟩ : ∃ m, k - j = m + 1 := ⟨k - j - 1, by omega⟩
    simp only [getN]
    rw [ih, setN_at _ _ _ _ h, if_pos (by omega), Option.getD_some, hm, show k - (j + 1) = m by omega, show p + k - 1 - (p + j) = m by omega]
    rw [show v / 256 ^ (m + 1) = v / 256 ^ m / 256 by rw [div_pow], Int.pow_succ]
    have e : (v / 256 ^ m) % (256 ^ j * 256) = 256 * ((v / 256 ^ m / 256) % 256 ^ j) + (v / 256 ^ m) % 256 := by
      generalize v / 256 ^ m = u
      have h1 : u = 256 * (u / 256) + u % 256 := by omega
      have h2 := Int.emod_nonneg (u / 256) (Int.ne_of_gt (pow_pos256 j))
      have h3 := Int.emod_lt_of_pos (u / 256) (pow_pos256 j)
      have h4 : u / 256 = 256 ^ j * (u / 256 / 256 ^ j) + u / 256 % 256 ^ j := by rw [Int.mul_ediv_add_emod]
      have h5 : u = (256 * (u / 256 % 256 ^ j) + u % 256) + (256 ^ j * 256) * (u / 256 / 256 ^ j) := by
        have : 256 ^ j * 256 * (u / 256 / 256 ^ j) = 256 * (256 ^ j * (u / 256 / 256 ^ j)) := by ac_rfl
        rw [this]; omega
      conv => lhs; rw [h5]
      rw [Int.add_mul_emod_self_left]
      exact Int.emod_eq_of_lt (by omega) (by omega)
    rw [e]
/-- A byte of a number that was got. -/
theorem getN_byte {xs : List Int} (hx : Bytes xs) (p : Nat) : ∀ k, p + k ≤ xs.length → ∀ i, i < k → some (getN xs p k / 256 ^ (k - 1 - i) % 256) = xs[p + i]?
  | 0, _, i, hi => by omega
  | k + 1, hk, i, hi => by
    have hy : xs[p + k]? = some xs[p + k] := List.getElem?_eq_getElem (by omega)
    have hb := hx.at_ hy
    simp only [getN, hy, Option.getD_some]
    by_cases h : i = k
    · subst h
      rw [hy]
      simp
      omega
    · have ih := getN_byte hx p k (by omega) i (by omega)
      rw [← ih]
      congr 1
      rw [show k + 1 - 1 - i = (k - 1 - i) + 1 by omega, ← ediv_pow, show (256 * getN xs p k + xs[p + k]) / 256 = getN xs p k by omega]
theorem setN_back {xs : List Int} (hx : Bytes xs) (p k : Nat) (v : Int) (h : p + k ≤ xs.length) : setN (setN xs p k v) p k (getN xs p k) = xs := by
  apply List.ext_getElem?
  intro j
  rw [setN_at _ _ _ _ (by simpa using h), setN_at _ _ _ _ h]
  by_cases hj : p ≤ j ∧ j < p + k
  · rw [if_pos hj]
    have := getN_byte hx p k h (j - p) (by omega)
    rw [show k - 1 - (j - p) = p + k - 1 - j by omega, show p + (j - p) = j by omega] at this
    exact this
  · rw [if_neg hj, if_neg hj]
theorem setN_bytes {xs : List Int} (hx : Bytes xs) (p k : Nat) (v : Int) (h : p + k ≤ xs.length) : Bytes (setN xs p k v) := by
  intro x hx'
  obtain ⟨j, hj⟩ := List.getElem?_of_mem hx'
  rw [setN_at _ _ _ _ h] at hj
  split at hj
  · injection hj with hj
    omega
  · exact hx.at_ hj
/-- What is wanted: v cut to its size. -/
theorem and_want (v : Int) (k : Nat) (h0 : 0 ≤ v) (h1 : v ≤ 18446744073709551615) (hk : k = 1 ∨ k = 2 ∨ k = 4) : bits BinOp.and .u64 v ((256 : Int) ^ k - 1) = v % 256 ^ k := by
  obtain ⟨n, rfl⟩ := Int.eq_ofNat_of_zero_le h0
  have hp : (256 : Int) ^ k - 1 = ((2 ^ (8 * k) - 1 : Nat) : Int) := by rcases hk with rfl | rfl | rfl <;> decide
  have hb : 2 ^ (8 * k) - 1 < 18446744073709551616 := by rcases hk with rfl | rfl | rfl <;> decide
  rw [hp, u64_and_nat _ _ (by omega) hb, Nat.and_two_pow_sub_one_eq_mod]
  rcases hk with rfl | rfl | rfl <;> simp
end Go.Proofs.Ytjacbbefdmnmaaa
