/- The reference's Set (barbicanref09), over this seat's program. -/
import Derived.Test.YtjacbbefdmnmaaaRef
import Derived.Laws.AppendOwnNone
namespace Go.Proofs.Ytjacbbefdmnmaaa
open Go.RowKit

/-- append onto a row of the call's own that is not nil, the source whatever reads as a list. -/
theorem wpList_append_rd {P : Program} (w : World) {ops : Array Oper} {rest : List Oper} {o : Oper} {a : Act} {Q : Exit → Act → World → Prop} (hgd : o.guard = none) (s x : Operand) (t : TypeId)
    (ho : o.op = .call { callee := .builtin .append, args := #[s, x], argTypes := #[t, t] })
    (base : Nat) (e : TypeId) (i : TypeInfo) (z : Value) (bytes : Nat) (ht : P.underlying t = some (.slice e)) (hi : P.info? e = some i) (hz : i.zero = some z)
    (hsize : i.size = 1) (hby : i.bytes = bytes) (hzs : z.cells.size = 1)
    (v : Value) (n : Nat) (xs : List Value) (hs : a.eval s = v) (hown : w.ownsRow base e 1 v n xs)
    (B : Nat) (A : Option Addr) (m c : Nat) (news : List Value) (hm : news.length = m) (hx : a.eval x = .slice A m c) (hr : Rd w B A c news) (h1 : ∀ u ∈ news, u.oneCell' = true)
    (h63 : n + m ≤ maxLen) (hbytes : (n + m) * bytes ≤ 140737488355328) (hbase : base ≤ w.heap.size)
    (h : ∀ v' w', w'.ownsRow base e 1 v' (n + m) (xs ++ news) → w.grownBy w' v.ownBlock → (v' = .slice none 0 0 ↔ v = .slice none 0 0 ∧ m = 0) → wpList P ops Q rest (a.put o.dst v') w') : wpList P ops Q (o :: rest) a w := by
  cases A with
  | none =>
    obtain ⟨h0, rfl⟩ := hr.nonone rfl
    obtain rfl : news = [] := by simpa using h0
    obtain rfl : m = 0 := by simpa using hm.symm
    exact wpList_append_own_none hgd s x t ho base e i 1 ht hi v n xs hs hown hx (h v w (by simpa using hown) (World.grownBy.refl _ _) (by simp))
  | some ad =>
    exact wpList_append_own w hgd s x t ho base e i z 1 bytes ht hi hz hsize hby hzs (by decide) v n xs hs hown ad m c news hx (by simpa using hm) (hr.cells ad rfl) h1 h63 hbytes hbase h

theorem own_some {w : World} {base : Nat} {e : TypeId} {v : Value} {n : Nat} {xs : List Value} (h : w.ownsRow base e 1 v n xs) (hv : v ≠ .slice none 0 0) :
    ∃ g cap, v = .slice (some ⟨g, 0, none⟩) n cap ∧ base ≤ g := by
  rcases h.2 with ⟨h', _⟩ | ⟨g, cap, cur, rfl, hb, _⟩
  · exact absurd h' hv
  · exact ⟨g, cap, rfl, hb⟩

/-- The bytes behind v was set, size k, the end at q; m steps from the lowest on. -/
def setLo (xs : List Int) (q : Nat) (v : Int) : Nat → List Int
  | 0 => xs
  | m + 1 => (setLo xs q v m).set (q - 1 - m) (v / 256 ^ m % 256)
@[simp] theorem setLo_len (xs : List Int) (q : Nat) (v : Int) : ∀ m, (setLo xs q v m).length = xs.length
  | 0 => rfl
  | m + 1 => by simp [setLo, setLo_len xs q v m]
/-- The bytes behind the number v was set at p, size k. -/
def setN (xs : List Int) (p k : Nat) (v : Int) : List Int := xs.mapIdx fun j x => if p ≤ j ∧ j < p + k then v / 256 ^ (p + k - 1 - j) % 256 else x
@[simp] theorem setN_len (xs : List Int) (p k : Nat) (v : Int) : (setN xs p k v).length = xs.length := by simp [setN]
theorem setLo_at (xs : List Int) (q : Nat) (v : Int) (m : Nat) (hm : m ≤ q) (hq : q ≤ xs.length) (j : Nat) :
    (setLo xs q v m)[j]? = if q - m ≤ j ∧ j < q then some (v / 256 ^ (q - 1 - j) % 256) else xs[j]? := by
  induction m with
  | zero => simp [setLo]; omega
  | succ m ih =>
    simp only [setLo, List.getElem?_set, setLo_len]
    have ih := ih (by omega)
    by_cases h : q - 1 - m = j
    · subst h
      rw [if_pos rfl, if_pos (by omega), if_pos (by omega), show q - 1 - (q - 1 - m) = m by omega]
    · rw [if_neg h, ih]
      by_cases h2 : q - m ≤ j ∧ j < q
      · rw [if_pos h2, if_pos (by omega)]
      · rw [if_neg h2, if_neg (by omega)]
theorem setN_at (xs : List Int) (p k : Nat) (v : Int) (hq : p + k ≤ xs.length) (j : Nat) :
    (setN xs p k v)[j]? = if p ≤ j ∧ j < p + k then some (v / 256 ^ (p + k - 1 - j) % 256) else xs[j]? := by
  simp only [setN, List.getElem?_mapIdx]
  by_cases h : p ≤ j ∧ j < p + k
  · rw [if_pos h, List.getElem?_eq_getElem (by omega)]
    simp [h]
  · rw [if_neg h]
    cases xs[j]? <;> simp [h]
theorem setLo_all (xs : List Int) (p k : Nat) (v : Int) (hq : p + k ≤ xs.length) : setLo xs (p + k) v k = setN xs p k v := by
  apply List.ext_getElem?
  intro j
  rw [setLo_at _ _ _ _ (by omega) hq, setN_at _ _ _ _ hq, show p + k - k = p by omega]

theorem u8s_at (l : List Int) {k : Nat} (hk : k < l.length) : (u8s l)[k]? = some (.int .u8 l[k]) := by simp [u8s, hk]
theorem u8s_set (l : List Int) (k : Nat) (x : Int) : u8s (l.set k x) = (u8s l).set k (.int .u8 x) := by simp [u8s, List.map_set]

/-- What the document tells of the bytes behind a Set. -/
def setR (xs : List Int) (t s v : Int) : List Int := if errOf xs.length t s = 0 then setN xs t.toNat s.toNat v else xs
@[simp] theorem setR_len (xs : List Int) (t s v : Int) : (setR xs t s v).length = xs.length := by unfold setR; split <;> simp

theorem div_pow (v : Int) (m : Nat) : v / 256 ^ m / 256 = v / 256 ^ (m + 1) := by
  rw [Int.pow_succ, Int.ediv_ediv_of_nonneg]
  exact Int.le_of_lt (Int.pow_pos (by omega))

set_option maxHeartbeats 400000 in
theorem rset_any (A : Option Addr) (c : Nat) (xs : List Int) (t s v : Int) (w : World) (ha : Rd w w.heap.size A c (u8s xs)) (hn : xs.length ≤ 1000000) (ht : -9223372036854775808 ≤ t) (ht2 : t ≤ 9223372036854775807) (hv : 0 ≤ v) (hv2 : v ≤ 18446744073709551615) :
    Calls Try.prog 19 #[.slice A xs.length c, .int .i64 t, .int .i64 s, .int .u64 v] w fun e w' => ∃ g cap, e = .returned (.tuple #[.slice (some ⟨g, 0, none⟩) xs.length cap, .int .i64 (errOf xs.length t s)]) ∧
      w'.ownsRow w.heap.size 5 1 (.slice (some ⟨g, 0, none⟩) xs.length cap) xs.length (u8s (setR xs t s v)) ∧ Below w.heap.size w w' := by
  obtain ⟨i0, hi, hz0, hz1, hz2⟩ := info_parts u8_info
  have HR := Lib.hid ha
  clear ha
  rcases err_cases xs.length t s with ⟨hs, h0, h1, he⟩ | he
  · obtain ⟨p, rfl⟩ := Int.eq_ofNat_of_zero_le h0
    obtain ⟨k, rfl⟩ : ∃ k : Nat, s = k := ⟨s.toNat, by have := place_size s hs; omega⟩
    have hk8 : k ≤ 8 := by have := place_size k hs; omega
    have HG : Hid (setR xs p k v = setN xs p k v) := Lib.hid (by unfold setR; rw [if_pos he]; simp)
    have he' : (errOf xs.length p k != 0) = false := by simp [he]
    have HE := Lib.hid he
    clear he
    go_enter Try.func19, Try.ntmps19
    go_wp2_with (first
      | (go_at_call 26; refine (place_any _ _ _ _ _ _ (by omega) (by omega) (by omega)).mono ?_; rintro e w' ⟨rfl, rfl⟩)
      | (at_builtin; (refine wpList_append_rd _ rfl (.tmp 13) (.tmp 14) 22 rfl w.heap.size 5 i0 (.int .u8 0) 1 Try.underlying22 hi hz0 hz1 hz2 rfl (.slice (some ⟨w.heap.size, 0, none⟩) 0 0) 0 [] rfl (World.ownsRow_lit w #[] 0 (Nat.le_refl _) (by simp) (by simp)) w.heap.size A xs.length c (u8s xs) (by simp) rfl (HR.out.below ((Below.refl _ _).alloc (Nat.le_refl _) _)) (u8s_one _) (by unfold maxLen; omega) (by omega) (by simp) ?_); intro v' w1 hown hgrow hnn; obtain ⟨g, cap, rfl, hg⟩ := own_some hown (by rw [ne_eq, hnn]; simp); simp only [Nat.zero_add] at hown))
    have hb1 : Below w.heap.size w w1 := ((Below.refl _ _).alloc (Nat.le_refl _) _).grown hgrow (by simp) (by simp [Value.ownBlock])
    simp only [List.nil_append] at hown
    clear hnn hgrow
    go_loopw [3, 12] (fun u i wr => ∃ (m : Nat) (z : Int), m ≤ k ∧ i = .int .i64 ((k : Int) - 1 - m) ∧ u = .int .u64 z ∧ 0 ≤ z ∧ z ≤ 18446744073709551615 ∧ Hid (z = v / 256 ^ m) ∧ wr.ownsRow w.heap.size 5 1 (.slice (some ⟨g, 0, none⟩) xs.length cap) xs.length (u8s (setLo xs (p + k) v m)) ∧ Below w.heap.size w wr)
      (fun _ i _ => (intOf i + 1).toNat)
    case atStart => exact ⟨0, v, Nat.zero_le _, by simp, rfl, hv, hv2, Lib.hid (by simp), hown, hb1⟩
    case round =>
      clear hown hb1
      obtain ⟨m, z, hm, rfl, rfl, hz, hz', HZ, hown, hb⟩ := hrel
      by_cases hlt : m < k
      · obtain ⟨y, hc⟩ : ∃ y, wr.cell? ⟨g, p + (k - 1 - m), none⟩ = some (.int .u8 y) := by
          rw [hown.cellAt (p + (k - 1 - m)) (by omega)]
          exact ⟨_, u8s_at _ (by simp; omega)⟩
        have hf := hown.frozenAt (p + (k - 1 - m))
        have hst := hown.stored (p + (k - 1 - m)) (.int .u8 (z % 256))
        have HS := Lib.hid hst.1
        have hb' := hb.grown hst.2 hb.size (by intro i e; injection e with e; omega)
        clear hst
        go_wp2
        go_roundw
        case rel => exact ⟨m + 1, z / 256, by omega, by go_num, rfl, by omega, by omega, Lib.hid (by rw [HZ.out, div_pow]), by rw [setLo, u8s_set, ← HZ.out, show p + k - 1 - m = p + (k - 1 - m) by omega]; exact HS.out, hb'⟩
        case measure => simp [intOf]; omega
      · obtain rfl : m = k := by omega
        go_wp2
        go_ret2
        exact ⟨g, cap, by rw [HE.out]; rfl, by rw [HG.out, ← setLo_all _ _ _ _ (by omega)]; exact hown, hb⟩
  · have he' := errOf_ne he
    have HG : Hid (setR xs t s v = xs) := Lib.hid (by unfold setR; rw [if_neg he])
    clear he
    go_enter Try.func19, Try.ntmps19
    go_wp2_with (first
      | (go_at_call 26; refine (place_any _ _ _ _ _ _ (by omega) (by omega) (by omega)).mono ?_; rintro e w' ⟨rfl, rfl⟩)
      | (at_builtin; (refine wpList_append_rd _ rfl (.tmp 13) (.tmp 14) 22 rfl w.heap.size 5 i0 (.int .u8 0) 1 Try.underlying22 hi hz0 hz1 hz2 rfl (.slice (some ⟨w.heap.size, 0, none⟩) 0 0) 0 [] rfl (World.ownsRow_lit w #[] 0 (Nat.le_refl _) (by simp) (by simp)) w.heap.size A xs.length c (u8s xs) (by simp) rfl (HR.out.below ((Below.refl _ _).alloc (Nat.le_refl _) _)) (u8s_one _) (by unfold maxLen; omega) (by omega) (by simp) ?_); intro v' w1 hown hgrow hnn; obtain ⟨g, cap, rfl, hg⟩ := own_some hown (by rw [ne_eq, hnn]; simp); simp only [Nat.zero_add] at hown))
    go_ret2
    exact ⟨g, cap, rfl, by rw [HG.out]; simpa using hown, ((Below.refl _ _).alloc (Nat.le_refl _) _).grown hgrow (by simp) (by simp [Value.ownBlock])⟩
end Go.Proofs.Ytjacbbefdmnmaaa
