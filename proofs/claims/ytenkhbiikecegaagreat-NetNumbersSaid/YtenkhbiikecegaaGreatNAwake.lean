/- net: the chapter's example. -/
import Derived.Test.YtenkhbiikecegaaGreatNEq
import Derived.Lib.SlBytesConst
namespace Go.Proofs.YtenkhbiikecegaaGreat
open Go.RowKit Go.Maps Go.ChangeMaps
set_option linter.unusedVariables false
set_option linter.unusedSimpArgs false
set_option maxRecDepth 100000

/-- A net made since the world was w0. -/
def Aw (w0 : World) (N : Nat) (S : Sg) (T : List PV) (w : World) : Prop := Below w0.heap.size w0 w ∧ ∃ B : Nat → Prop, (∀ j, B j → w0.heap.size ≤ j) ∧ NB B N S T w
theorem Aw.below {w0 w w' : World} {N : Nat} {S : Sg} {T : List PV} (h : Aw w0 N S T w) (hb : Below w.heap.size w w') : Aw w0 N S T w' := by
  obtain ⟨h1, B, h2, h3⟩ := h
  exact ⟨h1.trans (hb.mono h1.size), B, h2, h3.below hb⟩
theorem Aw.did {w0 w w' : World} {N : Nat} {S : Sg} {T : List PV} {B : Nat → Prop} (h1 : Below w0.heap.size w0 w) (h2 : ∀ j, B j → w0.heap.size ≤ j) (h : Did B N S T w w') : Aw w0 N S T w' := by
  obtain ⟨B', q1, q2, q3⟩ := h
  exact ⟨h1.trans (q3.below h2 h1.size), B', fun j q => (q1 j q).elim (h2 j) (fun q => Nat.le_trans h1.size q), q2⟩
theorem aw_new (w : World) : Calls Tryz.prog 5 #[] w fun e w' => ∃ N, e = .returned (.pointer (some ⟨N, 0, none⟩)) ∧ Aw w N (fun _ _ => []) [] w' := by
  refine (op_new w).mono ?_
  rintro e w' ⟨N, he, ⟨B, h1, h2⟩, h3⟩
  exact ⟨N, he, h3, B, h1, h2⟩
theorem aw_wait {w0 w : World} {N : Nat} {S : Sg} {T : List PV} (a b : Int) (ha : I64 a) (hb : I64 b) (h : Aw w0 N S T w) :
    Calls Tryz.prog 9 #[.pointer (some ⟨N, 0, none⟩), .int .i64 a, .int .i64 b] w fun e w' => e = .returned (.int .i64 (S a b).length) ∧ Below w.heap.size w w' := by
  obtain ⟨_, B, _, h3⟩ := h
  exact op_wait a b ha hb w h3
theorem aw_send {w0 w : World} {N : Nat} {S : Sg} {T : List PV} {KP : Nat → Prop} (a b : Int) (ha : I64 a) (hb : I64 b) (A : Option Addr) (c : Nat) (l : List Int) (h : Aw w0 N S T w) (hl : Rd w KP A c (u8s l)) (hKP : ∀ k, KP k → k < w.heap.size) :
    Calls Tryz.prog 15 #[.pointer (some ⟨N, 0, none⟩), .int .i64 a, .int .i64 b, .slice A l.length c] w fun e w' => e = .returned (.int .i64 (sndE S a b l)) ∧ Aw w0 N (sndS S a b l) T w' := by
  obtain ⟨h1, B, h2, h3⟩ := h
  refine (op_send a b ha hb A c l w h3 hl hKP).mono ?_
  rintro e w' ⟨he, hd⟩
  exact ⟨he, Aw.did h1 h2 hd⟩
theorem aw_lit {w0 w : World} {N : Nat} {S : Sg} {T : List PV} (a b x : Int) (ha : I64 a) (hb : I64 b) (h : Aw w0 N S T w) :
    Calls Tryz.prog 15 #[.pointer (some ⟨N, 0, none⟩), .int .i64 a, .int .i64 b, .slice (some ⟨w.heap.size, 0, none⟩) 1 1] (w.alloc (.cells #[.int .u8 x] 5 (1, 2))) fun e w' => e = .returned (.int .i64 (sndE S a b [x])) ∧ Aw w0 N (sndS S a b [x]) T w' := by
  have hb1 := (Below.refl w.heap.size w).alloc (Nat.le_refl _) (.cells #[.int .u8 x] 5 (1, 2))
  have nb := heap_alloc_new w (.cells #[.int .u8 x] 5 (1, 2))
  refine aw_send (KP := fun k => k = w.heap.size) a b ha hb (some ⟨w.heap.size, 0, none⟩) 1 [x] (h.below hb1) ⟨(fun e => by cases e), fun _ => ⟨_, rfl, rfl, fun j u hu => ?_⟩⟩ (fun k e => by subst e; simp)
  have hadd : (⟨w.heap.size, 0, none⟩ : Addr).add j = ⟨w.heap.size, j, none⟩ := by unfold Addr.add; split <;> simp_all
  rw [hadd]
  rw [cell_of_row _ _ j _ _ _ nb]
  simpa [u8s] using hu
theorem aw_drop {w0 w : World} {N : Nat} {S : Sg} {T : List PV} (a b k : Int) (ha : I64 a) (hb : I64 b) (h : Aw w0 N S T w) :
    Calls Tryz.prog 18 #[.pointer (some ⟨N, 0, none⟩), .int .i64 a, .int .i64 b, .int .i64 k] w fun e w' => e = .returned (.int .i64 (tkE S a b k)) ∧ Aw w0 N (tkS S a b k) T w' := by
  obtain ⟨h1, B, h2, h3⟩ := h
  refine (op_drop a b k ha hb w h3).mono ?_
  rintro e w' ⟨he, hd⟩
  exact ⟨he, Aw.did h1 h2 hd⟩
theorem aw_double {w0 w : World} {N : Nat} {S : Sg} {T : List PV} (a b k : Int) (ha : I64 a) (hb : I64 b) (h : Aw w0 N S T w) :
    Calls Tryz.prog 16 #[.pointer (some ⟨N, 0, none⟩), .int .i64 a, .int .i64 b, .int .i64 k] w fun e w' => e = .returned (.int .i64 (dbE S a b k)) ∧ Aw w0 N (dbS S a b k) T w' := by
  obtain ⟨h1, B, h2, h3⟩ := h
  refine (op_double a b k ha hb w h3).mono ?_
  rintro e w' ⟨he, hd⟩
  exact ⟨he, Aw.did h1 h2 hd⟩
theorem aw_take {w0 w : World} {N : Nat} {S : Sg} {T : List PV} (a b k : Int) (ha : I64 a) (hb : I64 b) (h : Aw w0 N S T w) :
    Calls Tryz.prog 17 #[.pointer (some ⟨N, 0, none⟩), .int .i64 a, .int .i64 b, .int .i64 k] w fun e w' => ∃ A c, e = .returned (.tuple #[.slice A (tkV S a b k).length c, .int .i64 (tkE S a b k)]) ∧ Aw w0 N (tkS S a b k) (T ++ [⟨A, c, tkV S a b k⟩]) w' := by
  obtain ⟨h1, B, h2, h3⟩ := h
  refine (op_take a b k ha hb w h3).mono ?_
  rintro e w' ⟨⟨A, c, l⟩, rfl, he, hd⟩
  exact ⟨A, c, he, Aw.did h1 h2 hd⟩
theorem op_links' {B : Nat → Prop} {N : Nat} {S : Sg} {T : List PV} (w : World) (h : NB B N S T w) (ks : List (Int × Int)) (hks : ∀ x y, S x y ≠ [] → (x, y) ∈ ks) (hkl : ks.length ≤ 1000000) :
    Calls Tryz.prog 12 #[.pointer (some ⟨N, 0, none⟩)] w fun e w' => ∃ A c L, e = .returned (.slice A L.length c) ∧ OnL S L ∧ RdL w' (fun g => w.heap.size ≤ g) A L ∧ Below w.heap.size w w' := by
  refine (op_links w h ks hks hkl).mono ?_
  rintro e w' ⟨v, L, he, q1, q2, q3, q4⟩
  obtain ⟨A, c, rfl, q5⟩ := owned_rdl q3 q2
  exact ⟨A, c, L, he, q1, q5, q4⟩
/-- A told packet's bytes. -/
theorem Aw.dat {w0 w : World} {N : Nat} {S : Sg} {T : List PV} (h : Aw w0 N S T w) {p : PV} (hp : p ∈ T) : ∃ K, Dat w K p.A p.c p.l := by
  obtain ⟨h1, B, h2, h3⟩ := h
  exact ⟨B, h3.dat hp⟩
/-- As a string. -/
theorem str_of {w : World} {K : Nat → Prop} {A : Option Addr} {c : Nat} {l : List Int} (h : Dat w K A c l) (u : List UInt8) (hu : l = u.map fun (b : UInt8) => (b.toNat : Int)) : (convert 28 9 (.slice A l.length c)).run Tryz.prog w = .ok (.string ⟨u.toArray⟩) w := by
  obtain ⟨hr, _, _⟩ := h.rd
  have hlen : l.length = u.length := by rw [hu]; simp
  rw [hlen]
  cases A with
  | none =>
    obtain ⟨h1, h2⟩ := hr.nonone rfl
    rw [u8s_len] at h1
    rw [h1] at hlen
    have : u = [] := List.eq_nil_of_length_eq_zero hlen.symm
    subst this h2
    have e := run_convert_bytes_string (P := Tryz.prog) w 28 9 5 none 0 0 Tryz.underlying28 Tryz.underlying5 Tryz.underlying9
    simp only [List.length_nil]
    exact e.trans rfl
  | some a =>
    refine run_convert_bytes_back (P := Tryz.prog) w 28 9 5 a c u Tryz.underlying28 Tryz.underlying5 Tryz.underlying9 (fun j hj => ?_)
    have hne : u8s l ≠ [] := by
      intro e
      have h1 := congrArg List.length e
      rw [u8s_len, List.length_nil] at h1
      omega
    obtain ⟨a', e', _, hc⟩ := hr.2 hne
    injection e' with e'
    subst e'
    refine hc j _ ?_
    rw [hu]
    simp [u8s, List.getElem?_eq_getElem hj]
/-- One link alone. -/
def U (l : List (List Int)) : Sg := fun x y => if 1 = x ∧ 2 = y then l else []
theorem U_upd (l l' : List (List Int)) : upd (U l) 1 2 l' = U l' := by
  funext x y
  unfold upd U
  split <;> simp_all
theorem U_nil : (fun _ _ => [] : Sg) = U [] := by
  funext x y
  simp [U]
theorem U_at (l : List (List Int)) : U l 1 2 = l := by simp [U]
theorem U_links (l : List (List Int)) (hl : l ≠ []) {L : List (Int × Int)} (h : OnL (U l) L) : L = [(1, 2)] := by
  refine h.one ⟨fun x y => ?_, List.pairwise_singleton _ _⟩
  simp only [U, List.mem_singleton, Prod.mk.injEq]
  constructor
  · rintro ⟨rfl, rfl⟩; simpa using hl
  · intro hne
    by_cases e : (1 : Int) = x ∧ (2 : Int) = y
    · exact ⟨e.1.symm, e.2.symm⟩
    · rw [if_neg e] at hne; exact absurd rfl hne
theorem U_links0 {L : List (Int × Int)} (h : OnL (U []) L) : L = [] := by
  refine h.one ⟨fun x y => ?_, List.Pairwise.nil⟩
  simp [U]
theorem i64_1 : I64 1 := by unfold I64; omega
theorem i64_2 : I64 2 := by unfold I64; omega
theorem conv_same (x : Int) (w : World) : (convert 28 28 (.slice (some ⟨w.heap.size, 0, none⟩) 1 1)).run Tryz.prog (w.alloc (.cells #[.int .u8 x] 5)) = .ok (.slice (some ⟨w.heap.size, 0, none⟩) 1 1) (w.alloc (.cells #[.int .u8 x] 5 (1, 2))) :=
  Lib.run_convert_bytes_const w 28 5 #[.int .u8 x] 1 1 Tryz.underlying28 Tryz.underlying5
theorem awake_any (w : World) : Calls Tryz.prog 7 #[] w fun e w' => e = .returned (.bool true) ∧ Below w.heap.size w w' := by
  have s1 : sndS (U []) 1 2 [120] = U [[120]] := by
    unfold sndS; rw [if_pos (by decide), U_upd]; rfl
  have s2 : sndS (U [[120]]) 1 2 [121] = U [[120], [121]] := by
    unfold sndS; rw [if_pos (by decide), U_upd]; rfl
  have s3 : dbS (U [[120], [121]]) 1 2 0 = U [[120], [121], [120]] := by
    unfold dbS; rw [if_pos (by decide), U_upd]; rfl
  have s4 : tkS (U [[120], [121], [120]]) 1 2 1 = U [[120], [120]] := by
    unfold tkS; rw [if_pos (by decide), U_upd]; rfl
  have s5 : tkS (U [[120], [120]]) 1 2 1 = U [[120]] := by
    unfold tkS; rw [if_pos (by decide), U_upd]; rfl
  have s6 : tkS (U [[120]]) 1 2 1 = U [[120]] := by
    unfold tkS; rw [if_neg (by decide)]
  have s7 : tkS (U [[120]]) 1 2 0 = U [] := by
    unfold tkS; rw [if_pos (by decide), U_upd]; rfl
  have HS := Lib.hid (And.intro s1 (And.intro s2 (And.intro s3 (And.intro s4 (And.intro s5 (And.intro s6 s7))))))
  clear s1 s2 s3 s4 s5 s6 s7
  have hcv := conv_same
  go_enter Tryz.func7, Tryz.ntmps7
  go_wp2_with fail
  refine (aw_new w).mono ?_
  rintro _ w1 ⟨N, rfl, h1⟩
  rw [U_nil] at h1
  go_wp2_with fail
  refine (aw_lit 1 2 120 i64_1 i64_2 h1).mono ?_
  rintro _ w2 ⟨rfl, h2⟩
  rw [HS.out.1] at h2
  go_wp2_with fail
  refine (aw_lit 1 2 121 i64_1 i64_2 h2).mono ?_
  rintro _ w3 ⟨rfl, h3⟩
  rw [HS.out.2.1] at h3
  go_wp2_with fail
  refine (aw_double 1 2 0 i64_1 i64_2 h3).mono ?_
  rintro _ w4 ⟨rfl, h4⟩
  rw [HS.out.2.2.1] at h4
  rw [show dbE (U [[120], [121]]) 1 2 0 = 0 by decide]
  go_wp2_with fail
  refine (aw_wait 1 2 i64_1 i64_2 h4).mono ?_
  rintro _ w5 ⟨rfl, b5⟩
  have h5 := h4.below b5
  rw [show ((U [[120], [121], [120]] 1 2).length : Int) = 3 by decide]
  go_wp2_with fail
  refine (aw_take 1 2 1 i64_1 i64_2 h5).mono ?_
  rintro _ w6 ⟨A1, c1, rfl, h6⟩
  rw [HS.out.2.2.2.1, show tkV (U [[120], [121], [120]]) 1 2 1 = [121] by decide] at h6
  rw [show (tkV (U [[120], [121], [120]]) 1 2 1).length = 1 by decide, show tkE (U [[120], [121], [120]]) 1 2 1 = 0 by decide]
  go_wp2_with fail
  refine (aw_take 1 2 1 i64_1 i64_2 h6).mono ?_
  rintro _ w7 ⟨A2, c2, rfl, h7⟩
  rw [HS.out.2.2.2.2.1, show tkV (U [[120], [120]]) 1 2 1 = [120] by decide] at h7
  rw [show (tkV (U [[120], [120]]) 1 2 1).length = 1 by decide, show tkE (U [[120], [120]]) 1 2 1 = 0 by decide]
  go_wp2_with fail
  refine (aw_take 1 2 1 i64_1 i64_2 h7).mono ?_
  rintro _ w8 ⟨A3, c3, rfl, h8⟩
  rw [HS.out.2.2.2.2.2.1, show tkV (U [[120]]) 1 2 1 = [] by decide] at h8
  rw [show (tkV (U [[120]]) 1 2 1).length = 0 by decide, show tkE (U [[120]]) 1 2 1 = 6 by decide]
  go_wp2_with fail
  obtain ⟨q1, B, q2, q3⟩ := h8
  have Q1 := Lib.hid q1
  have Q2 := Lib.hid q2
  clear q1 q2
  refine (op_links' _ q3 [(1, 2)] (fun x y hne => ?_) (by decide)).mono ?_
  · by_cases e : (1 : Int) = x ∧ (2 : Int) = y
    · rw [← e.1, ← e.2]; simp
    · simp [U, e] at hne
  rintro _ w9 ⟨A4, c4, L, rfl, o9, r9, b9⟩
  have hL := U_links _ (by simp) o9
  subst hL
  clear o9
  have q9 := q3.below b9
  go_wp2_with fail
  refine (op_drop 1 2 0 i64_1 i64_2 _ q9).mono ?_
  rintro _ w10 ⟨rfl, d10⟩
  rw [HS.out.2.2.2.2.2.2] at d10
  rw [show tkE (U [[120]]) 1 2 0 = 0 by decide]
  have h10 : Aw w N (U []) _ w10 := Aw.did (Q1.out.trans (b9.mono Q1.out.size)) Q2.out d10
  have r10 : RdL w10 (fun g => w8.heap.size ≤ g) A4 [(1, 2)] := by
    obtain ⟨_, _, _, lv⟩ := d10
    exact r9.keep (fun g k1 k2 => lv.block g k2 (fun e => by have := q3.lt e; omega)) lv.size (fun _ q _ => q)
  clear d10
  go_wp2_with fail
  refine (aw_wait 2 1 i64_2 i64_1 h10).mono ?_
  rintro _ w11 ⟨rfl, b11⟩
  have h11 := h10.below b11
  have r11 := r10.below b11
  rw [show ((U [] 2 1).length : Int) = 0 by decide]
  have cv1 : (convert 28 9 (.slice A1 1 c1)).run Tryz.prog w11 = .ok (.string ⟨#[121]⟩) w11 := by
    obtain ⟨K, hd⟩ := h11.dat (p := ⟨A1, c1, [121]⟩) (by simp)
    exact str_of hd [121] rfl
  have cv2 : (convert 28 9 (.slice A2 1 c2)).run Tryz.prog w11 = .ok (.string ⟨#[120]⟩) w11 := by
    obtain ⟨K, hd⟩ := h11.dat (p := ⟨A2, c2, [120]⟩) (by simp)
    exact str_of hd [120] rfl
  go_wp2_with fail
  have hbx := (Below.refl w11.heap.size w11).alloc (Nat.le_refl _) (.cells #[.int .i64 1, .int .i64 2] 38)
  have r12 : RdL (w11.alloc (.cells #[.int .i64 1, .int .i64 2] 38)) (fun _ => True) (some ⟨w11.heap.size, 0, none⟩) [(1, 2)] := by
    have nb := Bk.new w11 38 [.int .i64 1, .int .i64 2]
    refine ⟨fun p hp => by simp at hp; subst hp; exact ⟨i64_1, i64_2⟩, fun _ => ⟨_, rfl, ⟨trivial, nb.lt⟩, fun j u hu => (nb.cell j).trans hu⟩⟩
  refine (links_any A4 (some ⟨w11.heap.size, 0, none⟩) c4 1 [(1, 2)] [(1, 2)] _ (r11.below hbx) r12 (by decide) (by decide)).mono ?_
  rintro e w12 ⟨he, n, hw12⟩
  rw [decide_eq_true rfl] at he
  subst he
  have h12 : ∃ T, Aw w N (U []) T w12 := by
    have hx := h11.below hbx
    have hd : Below (w11.alloc (.cells #[.int .i64 1, .int .i64 2] 38)).heap.size (w11.alloc (.cells #[.int .i64 1, .int .i64 2] 38)) w12 := by
      rw [hw12]; exact ⟨rfl, rfl, rfl, Nat.le_refl _, fun _ _ => rfl⟩
    exact ⟨_, hx.below hd⟩
  clear hw12 r12 hbx
  obtain ⟨T12, p1, B2, p2, p3⟩ := h12
  have P1 := Lib.hid p1
  clear p1 p2
  go_wp2_with fail
  refine (op_links' _ p3 [] (fun x y hne => absurd (by simp [U]) hne) (by decide)).mono ?_
  rintro _ w13 ⟨A5, c5, L, rfl, o13, _, b13⟩
  have hL := U_links0 o13
  subst hL
  clear o13
  go_wp2_with fail
  go_ret
  exact ⟨rfl, P1.out.trans (b13.mono P1.out.size)⟩
end Go.Proofs.YtenkhbiikecegaaGreat
