/- net: both nets side by side. -/
import Derived.Test.YtenkhbiikecegaaGreatMLinks
import Derived.Test.YtenkhbiikecegaaGreatKApart
namespace Go.Proofs.YtenkhbiikecegaaGreat
open Go.RowKit Go.Maps Go.ChangeMaps
set_option linter.unusedVariables false
set_option linter.unusedSimpArgs false
set_option maxRecDepth 100000

theorem rop_links {B : Nat → Prop} {R n : Nat} {S : Sg} (w : World) (h : RB B R S n w) :
    Calls Tryz.prog 13 #[.pointer (some ⟨R, 0, none⟩)] w fun e w' => ∃ o L, e = .returned o ∧ OnL S L ∧ (∀ p ∈ L, I64 p.1 ∧ I64 p.2) ∧ L.length ≤ n ∧ w'.ownsRow w.heap.size 38 2 o L.length (lkC L) ∧ Below w.heap.size w w' := by
  obtain ⟨P, v, g, hN, hS⟩ := h
  refine (rlinks_any w hN).mono ?_
  rintro e w' ⟨o, L, he, hR⟩
  refine ⟨o, L, he, ⟨fun x y => ?_, hR.on.2.1⟩, hR.i64, Nat.le_trans hR.on.2.2 hN.few, hR.row, hR.bel⟩
  have h1 := hR.on.1 x y
  rw [List.take_length] at h1
  rw [h1, ← hS, rS_mem]
/-- The links that a net may have. -/
theorem RB.keys {B : Nat → Prop} {R n : Nat} {S : Sg} {w : World} (h : RB B R S n w) : ∃ ks : List (Int × Int), (∀ x y, S x y ≠ [] → (x, y) ∈ ks) ∧ ks.length ≤ 1000000 := by
  obtain ⟨P, v, g, hN, hS⟩ := h
  refine ⟨P.map fun p => (p.a, p.b), fun x y hn => ?_, by rw [List.length_map]; exact Nat.le_trans hN.few hN.nn⟩
  rw [← hS, rS_mem] at hn
  obtain ⟨p, hp, e1, e2⟩ := hn
  exact List.mem_map.2 ⟨p, hp, by rw [e1, e2]⟩
/-- What was told so far, as the law keeps it: at X, apart from both nets. -/
def Told (B BR F : Nat → Prop) (X : Nat) (T : List PV) (w : World) : Prop :=
  ∃ v g, Bk w X 27 [v] ∧ Row w 28 1 v g T.length (T.map PV.val) ∧ (¬ F X ∧ ¬ B X ∧ ¬ BR X) ∧ (v.ownBlock = some g → (¬ F g ∧ g < w.heap.size) ∧ ¬ B g ∧ ¬ BR g ∧ g ≠ X)
/-- The program's net at N (packets S, told T), the document's at R (packets S2), what the law keeps (T2) at X; no block of F is theirs. -/
structure TwoB (B BR F : Nat → Prop) (N R X : Nat) (S S2 : Sg) (T T2 : List PV) (m : Nat) (w : World) : Prop where
  b0 : ∀ j, B j → ¬ F j
  r0 : ∀ j, BR j → ¬ F j ∧ ¬ B j
  net : NB B N S T w
  ref : RB BR R S2 m w
  told : Told B BR F X T2 w
  flt : ∀ j, F j → j < w.heap.size
def Two (F : Nat → Prop) (N R X : Nat) (S S2 : Sg) (T T2 : List PV) (m : Nat) (w : World) : Prop := ∃ B BR, TwoB B BR F N R X S S2 T T2 m w
theorem Told.lt {B BR F : Nat → Prop} {X : Nat} {T : List PV} {w : World} (h : Told B BR F X T w) : X < w.heap.size := by
  obtain ⟨v, g, h1, _⟩ := h
  exact h1.lt
theorem Told.keep {B BR B' BR' F F' : Nat → Prop} {X : Nat} {T : List PV} {w w' : World} (h : Told B BR F X T w) (hs : w.heap.size ≤ w'.heap.size) (hF : ∀ j, F' j → j < w.heap.size → F j) (hk : ∀ j, j < w.heap.size → ¬ F j → ¬ B j → ¬ BR j → w'.heap[j]? = w.heap[j]? ∧ ¬ B' j ∧ ¬ BR' j) : Told B' BR' F' X T w' := by
  obtain ⟨v, g, h1, h2, h3, h4⟩ := h
  obtain ⟨k1, k2, k3⟩ := hk X h1.lt h3.1 h3.2.1 h3.2.2
  refine ⟨v, g, k1.trans h1, h2.keep (fun e => (hk g (h4 e).1.2 (h4 e).1.1 (h4 e).2.1 (h4 e).2.2.1).1), ⟨fun q => h3.1 (hF X q h1.lt), k2, k3⟩, fun e => ?_⟩
  obtain ⟨_, q2, q3⟩ := hk g (h4 e).1.2 (h4 e).1.1 (h4 e).2.1 (h4 e).2.2.1
  exact ⟨⟨fun q => (h4 e).1.1 (hF g q (h4 e).1.2), Nat.lt_of_lt_of_le (h4 e).1.2 hs⟩, q2, q3, (h4 e).2.2.2⟩
theorem RB.blk {B : Nat → Prop} {R n : Nat} {S : Sg} {w : World} (h : RB B R S n w) : B R := by
  obtain ⟨P, v, g, h1, h2⟩ := h
  exact h1.hR
theorem Two.mm {F : Nat → Prop} {N R X : Nat} {S S2 : Sg} {T T2 : List PV} {m : Nat} {w : World} (h : Two F N R X S S2 T T2 m w) : m ≤ 1000000 := by
  obtain ⟨B, BR, h⟩ := h
  obtain ⟨P, v, g, h1, h2⟩ := h.ref
  exact h1.nn
theorem Lv.ag {B F : Nat → Prop} {w w' : World} (h : Lv B w w') (hB : ∀ j, B j → ¬ F j) : Ag F w w' := ⟨h.os, h.tape, h.output, h.size, fun j j1 j2 => h.block j j1 (fun q => hB j q j2)⟩
theorem Two.did {F : Nat → Prop} {N R X : Nat} {S S' S2 : Sg} {T T' T2 : List PV} {m : Nat} {B BR : Nat → Prop} {w w' : World} (h : TwoB B BR F N R X S S2 T T2 m w) (hd : Did B N S' T' w w') : Two F N R X S' S2 T' T2 m w' ∧ Ag F w w' := by
  obtain ⟨B', h1, h2, h3⟩ := hd
  have hlt : ∀ j, BR j → j < w.heap.size := fun j q => h.ref.lt q
  refine ⟨⟨B', BR, fun j q q' => ?_, fun j q => ⟨(h.r0 j q).1, fun q' => ?_⟩, h2, h.ref.keep (fun j q => h3.block j (hlt j q) (h.r0 j q).2) h3.size, h.told.keep h3.size (fun _ q _ => q) fun j j1 j4 j2 j3 => ⟨h3.block j j1 j2, fun q => ?_, j3⟩, fun j q => Nat.lt_of_lt_of_le (h.flt j q) h3.size⟩, h3.ag h.b0⟩
  · rcases h1 j q with q | q
    · exact h.b0 j q q'
    · have := h.flt j q'; omega
  · rcases h1 j q' with q' | q'
    · exact (h.r0 j q).2 q'
    · have := hlt j q; omega
  · rcases h1 j q with q | q
    · exact j2 q
    · omega
theorem Two.rdid {F : Nat → Prop} {N R X : Nat} {S S2 S2' : Sg} {T T2 : List PV} {m m' : Nat} {B BR : Nat → Prop} {w w' : World} (h : TwoB B BR F N R X S S2 T T2 m w) (hd : RDid BR R S2' m' w w') : Two F N R X S S2' T T2 m' w' ∧ Ag F w w' := by
  obtain ⟨B', h1, h2, h3⟩ := hd
  have hlt : ∀ j, B j → j < w.heap.size := fun j q => h.net.lt q
  refine ⟨⟨B, B', h.b0, fun j q => ⟨fun q' => ?_, fun q' => ?_⟩, h.net.keep (fun j q => h3.block j (hlt j q) (fun q' => (h.r0 j q').2 q)) h3.size, h2, h.told.keep h3.size (fun _ q _ => q) fun j j1 j4 j2 j3 => ⟨h3.block j j1 j3, j2, fun q => ?_⟩, fun j q => Nat.lt_of_lt_of_le (h.flt j q) h3.size⟩, h3.ag fun j q => (h.r0 j q).1⟩
  · rcases h1 j q with q | q
    · exact (h.r0 j q).1 q'
    · have := h.flt j q'; omega
  · rcases h1 j q with q | q
    · exact (h.r0 j q).2 q'
    · have := hlt j q'; omega
  · rcases h1 j q with q | q
    · exact j3 q
    · omega
/-- Memory that was made behind it is none of theirs. -/
theorem Two.guard {F F' : Nat → Prop} {N R X : Nat} {S S2 : Sg} {T T2 : List PV} {m : Nat} {w w' : World} (h : Two F N R X S S2 T T2 m w) (hb : Below w.heap.size w w') (hF : ∀ j, F' j → F j ∨ (w.heap.size ≤ j ∧ j < w'.heap.size)) : Two F' N R X S S2 T T2 m w' := by
  obtain ⟨B, BR, h⟩ := h
  have hold : ∀ j, F' j → j < w.heap.size → F j := fun j q j1 => (hF j q).elim id (fun q => by omega)
  exact ⟨B, BR, fun j q q' => h.b0 j q (hold j q' (h.net.lt q)), fun j q => ⟨fun q' => (h.r0 j q).1 (hold j q' (h.ref.lt q)), (h.r0 j q).2⟩, h.net.below hb, h.ref.below hb, h.told.keep hb.size hold fun j j1 j4 j2 j3 => ⟨hb.block j j1, j2, j3⟩, fun j q => (hF j q).elim (fun q => Nat.lt_of_lt_of_le (h.flt j q) hb.size) (fun q => q.2)⟩
theorem Two.below {F : Nat → Prop} {N R X : Nat} {S S2 : Sg} {T T2 : List PV} {m : Nat} {w w' : World} (h : Two F N R X S S2 T T2 m w) (hb : Below w.heap.size w w') : Two F N R X S S2 T T2 m w' := h.guard hb (fun _ q => .inl q)
theorem Two.flt {F : Nat → Prop} {N R X : Nat} {S S2 : Sg} {T T2 : List PV} {m : Nat} {w : World} (h : Two F N R X S S2 T T2 m w) : ∀ j, F j → j < w.heap.size := by
  obtain ⟨B, BR, h⟩ := h
  exact h.flt
/-- Others' memory was turned. -/
theorem Two.other {F : Nat → Prop} {N R X : Nat} {S S2 : Sg} {T T2 : List PV} {m : Nat} {w w' : World} (h : Two F N R X S S2 T T2 m w) (hs : w.heap.size ≤ w'.heap.size) (hk : ∀ j, j < w.heap.size → ¬ F j → w'.heap[j]? = w.heap[j]?) : Two F N R X S S2 T T2 m w' := by
  obtain ⟨B, BR, h⟩ := h
  exact ⟨B, BR, h.b0, h.r0, h.net.keep (fun j q => hk j (h.net.lt q) (h.b0 j q)) hs, h.ref.keep (fun j q => hk j (h.ref.lt q) (h.r0 j q).1) hs, h.told.keep hs (fun _ q _ => q) fun j j1 j4 j2 j3 => ⟨hk j j1 j4, j2, j3⟩, fun j q => Nat.lt_of_lt_of_le (h.flt j q) hs⟩
/-- What an operation ends with. -/
def Ope (F : Nat → Prop) (N R X : Nat) (S S2 : Sg) (T T2 : List PV) (m : Nat) (E : Ending) (w : World) (e : Ending) (w' : World) : Prop := e = E ∧ Two F N R X S S2 T T2 m w' ∧ Ag F w w'
section
variable {F : Nat → Prop} {N R X : Nat} {S S2 : Sg} {T T2 : List PV} {m : Nat} {w : World} (h : Two F N R X S S2 T T2 m w) (a b : Int) (ha : I64 a) (hb : I64 b)
include h ha hb
theorem two_send {KP : Nat → Prop} (A : Option Addr) (c : Nat) (l : List Int) (hl : Rd w KP A c (u8s l)) (hKP : ∀ k, KP k → k < w.heap.size) :
    Calls Tryz.prog 15 #[.pointer (some ⟨N, 0, none⟩), .int .i64 a, .int .i64 b, .slice A l.length c] w (Ope F N R X (sndS S a b l) S2 T T2 m (.returned (.int .i64 (sndE S a b l))) w) := by
  obtain ⟨B, BR, h⟩ := h
  exact (op_send a b ha hb A c l w h.net hl hKP).mono fun e w' q => ⟨q.1, Two.did h q.2⟩
theorem two_rsend {KP : Nat → Prop} (A : Option Addr) (c : Nat) (l : List Int) (hl : Rd w KP A c (u8s l)) (hKP : ∀ k, KP k → k < w.heap.size) (hm : m + 1 ≤ 1000000) :
    Calls Tryz.prog 24 #[.pointer (some ⟨R, 0, none⟩), .int .i64 a, .int .i64 b, .slice A l.length c] w (Ope F N R X S (sndS S2 a b l) T T2 (m + 1) (.returned (.int .i64 (sndE S2 a b l))) w) := by
  obtain ⟨B, BR, h⟩ := h
  exact (rop_send a b ha hb A c l w h.ref hm hl hKP).mono fun e w' q => ⟨q.1, Two.rdid h q.2⟩
theorem two_drop (k : Int) :
    Calls Tryz.prog 18 #[.pointer (some ⟨N, 0, none⟩), .int .i64 a, .int .i64 b, .int .i64 k] w (Ope F N R X (tkS S a b k) S2 T T2 m (.returned (.int .i64 (tkE S a b k))) w) := by
  obtain ⟨B, BR, h⟩ := h
  exact (op_drop a b k ha hb w h.net).mono fun e w' q => ⟨q.1, Two.did h q.2⟩
theorem two_double (k : Int) :
    Calls Tryz.prog 16 #[.pointer (some ⟨N, 0, none⟩), .int .i64 a, .int .i64 b, .int .i64 k] w (Ope F N R X (dbS S a b k) S2 T T2 m (.returned (.int .i64 (dbE S a b k))) w) := by
  obtain ⟨B, BR, h⟩ := h
  exact (op_double a b k ha hb w h.net).mono fun e w' q => ⟨q.1, Two.did h q.2⟩
theorem two_rdouble (k : Int) (hk : I64 k) (hm : m + 1 ≤ 1000000) :
    Calls Tryz.prog 23 #[.pointer (some ⟨R, 0, none⟩), .int .i64 a, .int .i64 b, .int .i64 k] w (Ope F N R X S (dbS S2 a b k) T T2 (m + 1) (.returned (.int .i64 (dbE S2 a b k))) w) := by
  obtain ⟨B, BR, h⟩ := h
  exact (rop_double a b k ha hb hk w h.ref hm).mono fun e w' q => ⟨q.1, Two.rdid h q.2⟩
theorem two_wait :
    Calls Tryz.prog 9 #[.pointer (some ⟨N, 0, none⟩), .int .i64 a, .int .i64 b] w fun e w' => e = .returned (.int .i64 (S a b).length) ∧ Below w.heap.size w w' := by
  obtain ⟨B, BR, h⟩ := h
  exact op_wait a b ha hb w h.net
theorem two_take (k : Int) :
    Calls Tryz.prog 17 #[.pointer (some ⟨N, 0, none⟩), .int .i64 a, .int .i64 b, .int .i64 k] w fun e w' => ∃ A c, Ope F N R X (tkS S a b k) S2 (T ++ [⟨A, c, tkV S a b k⟩]) T2 m (.returned (.tuple #[.slice A (tkV S a b k).length c, .int .i64 (tkE S a b k)])) w e w' := by
  obtain ⟨B, BR, h⟩ := h
  refine (op_take a b k ha hb w h.net).mono ?_
  rintro e w' ⟨⟨A, c, l⟩, hp, he, hd⟩
  dsimp only at hp
  subst hp
  exact ⟨A, c, he, Two.did h hd⟩
end
section
variable {F : Nat → Prop} {N R X : Nat} {S S2 : Sg} {T T2 : List PV} {m : Nat} {w : World} (h : Two F N R X S S2 T T2 m w) (a b : Int)
include h
theorem two_rdrop (k : Int) (hk : I64 k) :
    Calls Tryz.prog 22 #[.pointer (some ⟨R, 0, none⟩), .int .i64 a, .int .i64 b, .int .i64 k] w (Ope F N R X S (tkS S2 a b k) T T2 m (.returned (.int .i64 (tkE S2 a b k))) w) := by
  obtain ⟨B, BR, h⟩ := h
  exact (rop_drop a b k hk w h.ref).mono fun e w' q => ⟨q.1, Two.rdid h q.2⟩
theorem two_rwait :
    Calls Tryz.prog 10 #[.pointer (some ⟨R, 0, none⟩), .int .i64 a, .int .i64 b] w fun e w' => e = .returned (.int .i64 (S2 a b).length) ∧ w' = w := by
  obtain ⟨B, BR, h⟩ := h
  exact rop_wait a b w h.ref
theorem two_rtake (k : Int) (hk : I64 k) :
    Calls Tryz.prog 20 #[.pointer (some ⟨R, 0, none⟩), .int .i64 a, .int .i64 b, .int .i64 k] w fun e w' => ∃ A c, Ope F N R X S (tkS S2 a b k) T T2 m (.returned (.tuple #[.slice A (tkV S2 a b k).length c, .int .i64 (tkE S2 a b k)])) w e w' ∧ ∃ K, Dat w' K A c (tkV S2 a b k) := by
  obtain ⟨B, BR, h⟩ := h
  refine (rop_take a b k hk w h.ref).mono ?_
  rintro e w' ⟨A, c, he, hd, hK⟩
  exact ⟨A, c, ⟨he, Two.rdid h hd⟩, hK⟩
end
/-- A list of links of the call's own. -/
def LkL (S : Sg) (v : Value) (L : List (Int × Int)) (w w' : World) : Prop := OnL S L ∧ (∀ p ∈ L, I64 p.1 ∧ I64 p.2) ∧ w'.ownsRow w.heap.size 38 2 v L.length (lkC L) ∧ Below w.heap.size w w'
section
variable {F : Nat → Prop} {N R X : Nat} {S S2 : Sg} {T T2 : List PV} {m : Nat} {w : World}
theorem two_links (h : Two F N R X S S T T2 m w) :
    Calls Tryz.prog 12 #[.pointer (some ⟨N, 0, none⟩)] w fun e w' => ∃ A c L, e = .returned (.slice A L.length c) ∧ LkL S (.slice A L.length c) L w w' := by
  obtain ⟨B, BR, h⟩ := h
  obtain ⟨ks, h1, h2⟩ := h.ref.keys
  refine (op_links w h.net ks h1 h2).mono ?_
  rintro e w' ⟨v, L, he, q1, q2, q3, q4⟩
  obtain ⟨A, c, rfl⟩ := owns_form q3
  exact ⟨A, c, L, he, q1, q2, q3, q4⟩
theorem two_rlinks (h : Two F N R X S S2 T T2 m w) :
    Calls Tryz.prog 13 #[.pointer (some ⟨R, 0, none⟩)] w fun e w' => ∃ A c L, e = .returned (.slice A L.length c) ∧ LkL S2 (.slice A L.length c) L w w' ∧ L.length ≤ m := by
  obtain ⟨B, BR, h⟩ := h
  refine (rop_links w h.ref).mono ?_
  rintro e w' ⟨v, L, he, q1, q2, q5, q3, q4⟩
  obtain ⟨A, c, rfl⟩ := owns_form q3
  exact ⟨A, c, L, he, ⟨q1, q2, q3, q4⟩, q5⟩
/-- What was told last. -/
theorem Two.dat (h : Two F N R X S S2 T T2 m w) {p : PV} (hp : p ∈ T) : ∃ K, Dat w K p.A p.c p.l := by
  obtain ⟨B, BR, h⟩ := h
  exact ⟨B, h.net.dat hp⟩
/-- The cell at which what was told is kept. -/
theorem Two.cellX (h : Two F N R X S S2 T T2 m w) : ∃ v g, w.cell? ⟨X, 0, none⟩ = some v ∧ Row w 28 1 v g T2.length (T2.map PV.val) ∧ (∀ u, (w.alloc (.cells #[u] 28)).heap[g]? = w.heap[g]? ∨ v.ownBlock ≠ some g) ∧ ∀ (p : PV) v2 w2 g2, Row w2 28 1 v2 g2 (T2.length + 1) (T2.map PV.val ++ [p.val]) → (w.alloc (.cells #[p.val] 28)).grownBy w2 v.ownBlock →
    (g2 = (w.alloc (.cells #[p.val] 28)).heap.size ∨ (g2 = g ∧ v.ownBlock = some g)) → g2 < w2.heap.size →
    w2.frozen? ⟨X, 0, none⟩ = false ∧ w2.cell? ⟨X, 0, none⟩ = some v ∧ Two F N R X S S2 T (T2 ++ [p]) m (w2.setCell ⟨X, 0, none⟩ v2) ∧ Ag F w (w2.setCell ⟨X, 0, none⟩ v2) ∧ Ag (UB w) w (w2.setCell ⟨X, 0, none⟩ v2) := by
  obtain ⟨B, BR, h⟩ := h
  obtain ⟨v, g, h1, h2, h3, h4⟩ := h.told
  have hc := h1.cell 0
  refine ⟨v, g, by simpa using hc, h2, fun u => ?_, fun p v2 w2 g2 hr hg hg2 hlt => ?_⟩
  · by_cases e : v.ownBlock = some g
    · exact .inl (heap_alloc_old w _ (h4 e).1.2)
    · exact .inr e
  have hvo : ∀ j, v.ownBlock = some j → j = g := by
    intro j e
    rcases h2.2 with ⟨e1, _⟩ | ⟨cap, cur, e1, _⟩
    · rw [e1] at e; cases e
    · rw [e1] at e
      have e : some g = some j := e
      injection e with e
      exact e.symm
  have hXv : some X ≠ v.ownBlock := fun e => (h4 (by rw [← e, ← hvo X e.symm])).2.2.2 (hvo X e.symm).symm
  have hX2 : Bk w2 X 27 [v] := (hg.block X (by simp; exact Nat.lt_succ_of_lt h1.lt) hXv).trans ((heap_alloc_old w _ h1.lt).trans h1)
  have hs2 : w.heap.size + 1 ≤ w2.heap.size := by have := hg.size; simpa using this
  have far : ∀ j, j < w.heap.size → j ≠ X → v.ownBlock ≠ some j → (w2.setCell ⟨X, 0, none⟩ v2).heap[j]? = w.heap[j]? := fun j h1 h2 h3 => (Below.heap_setCell w2 _ _ j h2).trans ((hg.block j (by simp; omega) (fun e => h3 e.symm)).trans (heap_alloc_old w _ h1))
  have hsz : (w2.setCell ⟨X, 0, none⟩ v2).heap.size = w2.heap.size := by simp [World.setCell]
  have c2 := hX2.cell 0
  have hX := h1.lt
  refine ⟨hX2.frozen 0, by simpa using c2, ⟨B, BR, h.b0, h.r0, ?_, ?_, ?_, fun j q => by have := h.flt j q; rw [hsz]; omega⟩, ⟨hg.os, hg.tape, hg.output, by rw [hsz]; omega, fun j hj hF => far j hj (fun e => h3.1 (e ▸ hF)) (fun e => ?_)⟩, ⟨hg.os, hg.tape, hg.output, by rw [hsz]; omega, fun j hj hU => far j hj (fun e => ?_) (fun e => ?_)⟩⟩
  · exact h.net.keep (fun j q => far j (h.net.lt q) (fun e => h3.2.1 (e ▸ q)) (fun e => (h4 (by rw [← hvo j e]; exact e)).2.1 (by rw [← hvo j e]; exact q))) (by rw [hsz]; omega)
  · exact h.ref.keep (fun j q => far j (h.ref.lt q) (fun e => h3.2.2 (e ▸ q)) (fun e => (h4 (by rw [← hvo j e]; exact e)).2.2.1 (by rw [← hvo j e]; exact q))) (by rw [hsz]; omega)
  · have hown : (¬ F g2 ∧ g2 < w2.heap.size) ∧ ¬ B g2 ∧ ¬ BR g2 ∧ g2 ≠ X := by
      rw [World.size_alloc] at hg2
      rcases hg2 with e | ⟨e, e2⟩
      · exact ⟨⟨fun q => by have := h.flt _ q; omega, hlt⟩, fun q => by have := h.net.lt q; omega, fun q => by have := h.ref.lt q; omega, by omega⟩
      · obtain ⟨q1, q2⟩ := h4 e2
        rw [e]
        exact ⟨⟨q1.1, by omega⟩, q2⟩
    refine ⟨v2, g2, hX2.set 0 _, ?_, h3, fun _ => ⟨⟨hown.1.1, by rw [hsz]; exact hown.1.2⟩, hown.2⟩⟩
    have := hr.keep (w' := w2.setCell ⟨X, 0, none⟩ v2) (fun _ => Below.heap_setCell w2 _ _ g2 hown.2.2.2)
    rw [List.length_append, List.map_append]
    exact this
  · have := h4 (by rw [← hvo j e]; exact e)
    rw [← hvo j e] at this
    exact this.1.1 hF
  · obtain ⟨cs, ow, hU⟩ := hU
    unfold Bk at h1
    rw [e, h1] at hU
    injection hU with hU
    injection hU with _ hU
    exact absurd hU (by decide)
  · obtain ⟨cs, ow, hU⟩ := hU
    rcases h2.2 with ⟨e1, _⟩ | ⟨cap, cur, e1, hgg, _⟩
    · rw [e1] at e; cases e
    · rw [hvo j e, hgg] at hU
      injection hU with hU
      injection hU with _ hU
      exact absurd hU (by decide)
end
end Go.Proofs.YtenkhbiikecegaaGreat

