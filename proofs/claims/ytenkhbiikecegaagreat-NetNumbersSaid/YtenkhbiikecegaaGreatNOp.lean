/- net: what the operations make of the packets on their way. -/
import Derived.Test.YtenkhbiikecegaaGreatNLinks
namespace Go.Proofs.YtenkhbiikecegaaGreat
open Go.RowKit Go.Maps Go.ChangeMaps
set_option linter.unusedVariables false
set_option linter.unusedSimpArgs false
set_option maxRecDepth 100000

/-- The packets of all links. -/
abbrev Sg := Int → Int → List (List Int)
def upd (S : Sg) (a b : Int) (l : List (List Int)) : Sg := fun x y => if a = x ∧ b = y then l else S x y
def sndE (S : Sg) (a b : Int) (l : List Int) : Int := if 262144 < l.length then 3 else if 64 ≤ (S a b).length then 5 else 0
def sndS (S : Sg) (a b : Int) (l : List Int) : Sg := if sndE S a b l = 0 then upd S a b (S a b ++ [l]) else S
def tkE (S : Sg) (a b k : Int) : Int := if 0 ≤ k ∧ k < (S a b).length then 0 else 6
def tkS (S : Sg) (a b k : Int) : Sg := if 0 ≤ k ∧ k < (S a b).length then upd S a b ((S a b).eraseIdx k.toNat) else S
def tkV (S : Sg) (a b k : Int) : List Int := if 0 ≤ k ∧ k < (S a b).length then (S a b).getD k.toNat [] else []
def dbE (S : Sg) (a b k : Int) : Int := if 0 ≤ k ∧ k < (S a b).length then (if 64 ≤ (S a b).length then 5 else 0) else 6
def dbS (S : Sg) (a b k : Int) : Sg := if dbE S a b k = 0 then upd S a b (S a b ++ [(S a b).getD k.toNat []]) else S

/-- A net with these packets on their way, in memory of B; what was told (T) lies apart, in memory of B too. -/
structure NBs (B : Nat → Prop) (N : Nat) (S : Sg) (T : List PV) (st : NSt) (w : World) : Prop where
  net : NetAt w (fun b => B b ∧ ∀ p ∈ T, p.val.ownBlock ≠ some b) N st
  sg : ∀ x y, (sig st x y).map PV.l = S x y
  own : ∀ j, NOwn st j → B j
  hN : B N
  lt : ∀ j, B j → j < w.heap.size
  told : ∀ p ∈ T, Dat w (fun b => B b ∧ ¬ NOwn st b ∧ b ≠ N) p.A p.c p.l
  sep : T.Pairwise PSep
def NB (B : Nat → Prop) (N : Nat) (S : Sg) (T : List PV) (w : World) : Prop := ∃ st, NBs B N S T st w
/-- All blocks but those of B are as they were. -/
structure Lv (B : Nat → Prop) (w w' : World) : Prop where
  os : w'.os = w.os
  tape : w'.tape = w.tape
  output : w'.output = w.output
  size : w.heap.size ≤ w'.heap.size
  block : ∀ k, k < w.heap.size → ¬ B k → w'.heap[k]? = w.heap[k]?
def Did (B : Nat → Prop) (N : Nat) (S' : Sg) (T' : List PV) (w w' : World) : Prop := ∃ B' : Nat → Prop, (∀ j, B' j → B j ∨ w.heap.size ≤ j) ∧ NB B' N S' T' w' ∧ Lv B w w'
theorem Nw.lv {st : NSt} {B : Nat → Prop} {w w' : World} (h : Nw st w w') (ho : ∀ j, NOwn st j → B j) : Lv B w w' :=
  ⟨h.os, h.tape, h.output, h.size, fun k k1 k2 => h.block k k1 (fun e => k2 (ho k e))⟩
theorem Below.lv {B : Nat → Prop} {w w' : World} (h : Below w.heap.size w w') : Lv B w w' := ⟨h.os, h.tape, h.output, h.size, fun k k1 _ => h.block k k1⟩
theorem Lv.below {B : Nat → Prop} {w w' : World} {n : Nat} (h : Lv B w w') (hB : ∀ j, B j → n ≤ j) (hn : n ≤ w.heap.size) : Below n w w' :=
  ⟨h.os, h.tape, h.output, h.size, fun k k1 => h.block k (Nat.lt_of_lt_of_le k1 hn) (fun e => by have := hB k e; omega)⟩
theorem Dat.ub {w : World} {K : Nat → Prop} {A : Option Addr} {c : Nat} {l : List Int} (h : Dat w K A c l) {b : Nat} (hb : (Value.slice A l.length c).ownBlock = some b) : UB w b := by
  obtain ⟨b', h1, h2⟩ := h
  rcases h1.2 with ⟨q, _⟩ | ⟨cap, cur, q, hg, _⟩
  · rw [q] at hb; cases hb
  · rw [q] at hb
    have : b' = b := by simpa [Value.ownBlock] using hb
    subst this
    exact ⟨_, _, hg⟩
/-- Only blocks of other things were changed. -/
theorem NB.keep {B : Nat → Prop} {N : Nat} {S : Sg} {T : List PV} {w w' : World} (h : NB B N S T w) (hk : ∀ j, B j → w'.heap[j]? = w.heap[j]?) (hs : w.heap.size ≤ w'.heap.size) : NB B N S T w' := by
  obtain ⟨st, h⟩ := h
  exact ⟨st, h.net.keep (hk _ h.hN) (fun k q => hk k (h.own k q)) (fun b q _ => hk b q.1) hs (fun _ q _ => q), h.sg, h.own, h.hN, fun j q => Nat.lt_of_lt_of_le (h.lt j q) hs, fun p hp => (h.told p hp).keep (fun b q _ => hk b q.1) hs (fun _ q _ => q), h.sep⟩
theorem NB.below {B : Nat → Prop} {N : Nat} {S : Sg} {T : List PV} {w w' : World} (h : NB B N S T w) (hb : Below w.heap.size w w') : NB B N S T w' := by
  obtain ⟨st, h'⟩ := h
  exact NB.keep ⟨st, h'⟩ (fun j q => hb.block j (h'.lt j q)) hb.size
theorem NB.lt {B : Nat → Prop} {N : Nat} {S : Sg} {T : List PV} {w : World} (h : NB B N S T w) {j : Nat} (hj : B j) : j < w.heap.size := h.elim fun _ h => h.lt j hj
theorem NB.nlt {B : Nat → Prop} {N : Nat} {S : Sg} {T : List PV} {w : World} (h : NB B N S T w) : N < w.heap.size := h.elim fun _ h => h.lt _ h.hN
theorem Did.same {B : Nat → Prop} {N : Nat} {S : Sg} {T : List PV} {w w' : World} (h : NB B N S T w) (hb : Below w.heap.size w w') : Did B N S T w w' := ⟨B, fun _ q => .inl q, h.below hb, Below.lv hb⟩
theorem NB.dat {B : Nat → Prop} {N : Nat} {S : Sg} {T : List PV} {w : World} (h : NB B N S T w) {p : PV} (hp : p ∈ T) : Dat w B p.A p.c p.l := h.elim fun _ h => (h.told p hp).keep (fun _ _ _ => rfl) (Nat.le_refl _) (fun _ q _ => q.1)
/-- The state behind a step that told nothing. -/
theorem NBs.step {B : Nat → Prop} {N : Nat} {S : Sg} {T : List PV} {st st' : NSt} {w w' : World} (h : NBs B N S T st w) {S' : Sg} (hn : NetAt w' (fun j => (B j ∧ ∀ p ∈ T, p.val.ownBlock ≠ some j) ∨ w.heap.size ≤ j) N st') (hs : ∀ x y, (sig st' x y).map PV.l = S' x y) (ho : ∀ k, NOwn st' k → NOwn st k ∨ w.heap.size ≤ k) (hw : Nw st w w') : Did B N S' T w w' := by
  have hT : ∀ p ∈ T, ∀ j, p.val.ownBlock = some j → j < w.heap.size := fun p hp j e => ((h.told p hp).own e).2
  refine ⟨fun j => (B j ∨ w.heap.size ≤ j) ∧ j < w'.heap.size, fun j q => q.1, ⟨st', hn.mono fun b q hl => ?_, hs, fun j q => ⟨(ho j q).imp (h.own j) id, hn.olt q⟩, ⟨.inl h.hN, hn.net.lt⟩, fun j q => q.2, fun p hp => ?_, h.sep⟩, hw.lv h.own⟩
  · rcases q with q | q
    · exact ⟨⟨.inl q.1, hl⟩, q.2⟩
    · exact ⟨⟨.inr q, hl⟩, fun p hp e => by have := hT p hp b e; omega⟩
  · have hd := h.told p hp
    refine (hd.narrow).keep (fun b q _ => hw.block b (h.lt b q.1.1) q.1.2.1) hw.size (fun b q hl => ⟨⟨.inl q.1.1, Nat.lt_of_lt_of_le hl hw.size⟩, fun e => ?_, q.1.2.2⟩)
    rcases ho b e with e | e
    · exact q.1.2.1 e
    · omega
theorem op_new (w : World) :
    Calls Tryz.prog 5 #[] w fun e w' => ∃ N, e = .returned (.pointer (some ⟨N, 0, none⟩)) ∧ (∃ B, (∀ j, B j → w.heap.size ≤ j) ∧ NB B N (fun _ _ => []) [] w') ∧ Below w.heap.size w w' := by
  refine (new_any w).mono ?_
  rintro e w' ⟨N, m, he, h1, h2, h3, h4⟩
  refine ⟨N, he, ⟨fun j => w.heap.size ≤ j ∧ j < w'.heap.size, fun j q => q.1, ⟨m, []⟩, h1.mono (fun b q hl => ⟨⟨q, hl⟩, by simp⟩), fun x y => rfl, fun j q => ⟨?_, h1.olt q⟩, ⟨h2, h1.net.lt⟩, fun j q => q.2, by simp, List.Pairwise.nil⟩, h4⟩
  rcases q with rfl | ⟨r, hr, _⟩
  · exact h3
  · simp at hr
theorem op_wait {B : Nat → Prop} {N : Nat} {S : Sg} {T : List PV} (a b : Int) (ha : I64 a) (hb : I64 b) (w : World) (h : NB B N S T w) :
    Calls Tryz.prog 9 #[.pointer (some ⟨N, 0, none⟩), .int .i64 a, .int .i64 b] w fun e w' => e = .returned (.int .i64 (S a b).length) ∧ Below w.heap.size w w' := by
  obtain ⟨st, h⟩ := h
  refine (Waiting_any a b ha hb w h.net).mono ?_
  rintro e w' ⟨he, hw⟩
  exact ⟨by rw [he, ← h.sg, List.length_map], hw⟩
theorem op_send {B KP : Nat → Prop} {N : Nat} {S : Sg} {T : List PV} (a b : Int) (ha : I64 a) (hb : I64 b) (A : Option Addr) (c : Nat) (l : List Int) (w : World) (h : NB B N S T w) (hl : Rd w KP A c (u8s l)) (hKP : ∀ k, KP k → k < w.heap.size) :
    Calls Tryz.prog 15 #[.pointer (some ⟨N, 0, none⟩), .int .i64 a, .int .i64 b, .slice A l.length c] w fun e w' => e = .returned (.int .i64 (sndE S a b l)) ∧ Did B N (sndS S a b l) T w w' := by
  obtain ⟨st, h⟩ := h
  have hlen : (sig st a b).length = (S a b).length := by rw [← h.sg, List.length_map]
  have hE : sendE st a b l = sndE S a b l := by unfold sendE sndE; rw [hlen]
  refine (Send_any a b ha hb A c l w h.net hl hKP).mono ?_
  rintro e w' ⟨he, st', h1, ⟨p, hp, h2⟩, h3, h4⟩
  refine ⟨by rw [he, hE], h.step h1 (fun x y => ?_) h3 h4⟩
  rw [h2, hE]
  unfold sndS upd
  by_cases h0 : sndE S a b l = 0
  · simp only [h0, and_true, if_true]
    split
    · rw [List.map_append, h.sg]; simp [hp]
    · exact h.sg x y
  · simp only [h0, and_false, if_false]
    exact h.sg x y
theorem NBs.at_ {B : Nat → Prop} {N : Nat} {S : Sg} {T : List PV} {st : NSt} {w : World} (h : NBs B N S T st w) {a b k : Int} (hk : 0 ≤ k ∧ k < (S a b).length) : ∃ p, (sig st a b)[k.toNat]? = some p ∧ p.l = (S a b).getD k.toNat [] ∧ ((k.toNat : Nat) : Int) = k := by
  have hlen : (sig st a b).length = (S a b).length := by rw [← h.sg, List.length_map]
  have hlt : k.toNat < (sig st a b).length := by omega
  refine ⟨_, List.getElem?_eq_getElem hlt, ?_, by omega⟩
  rw [← h.sg, List.getD_eq_getElem?_getD, List.getElem?_map, List.getElem?_eq_getElem hlt]
  rfl
theorem NBs.out {B : Nat → Prop} {N : Nat} {S : Sg} {T : List PV} {st : NSt} {w : World} (h : NBs B N S T st w) {a b k : Int} (hk : ¬ (0 ≤ k ∧ k < (S a b).length)) : ¬ (0 ≤ k ∧ k < (sig st a b).length) := by
  have hlen : (sig st a b).length = (S a b).length := by rw [← h.sg, List.length_map]
  rw [hlen]; exact hk
theorem NBs.erase {B : Nat → Prop} {N : Nat} {S : Sg} {T : List PV} {st st' : NSt} {w : World} (h : NBs B N S T st w) {a b : Int} {k : Nat} (h2 : ∀ x y, sig st' x y = if a = x ∧ b = y then (sig st a b).eraseIdx k else sig st x y) (x y : Int) : (sig st' x y).map PV.l = upd S a b ((S a b).eraseIdx k) x y := by
  rw [h2]
  unfold upd
  split
  · rw [map_erase, h.sg]
  · exact h.sg x y
theorem op_drop {B : Nat → Prop} {N : Nat} {S : Sg} {T : List PV} (a b k : Int) (ha : I64 a) (hb : I64 b) (w : World) (h : NB B N S T w) :
    Calls Tryz.prog 18 #[.pointer (some ⟨N, 0, none⟩), .int .i64 a, .int .i64 b, .int .i64 k] w fun e w' => e = .returned (.int .i64 (tkE S a b k)) ∧ Did B N (tkS S a b k) T w w' := by
  have h0 := h
  obtain ⟨st, h⟩ := h
  unfold tkE tkS
  by_cases hk : 0 ≤ k ∧ k < (S a b).length
  · obtain ⟨p, hp, _, hkk⟩ := h.at_ hk
    rw [if_pos hk, if_pos hk, ← hkk]
    refine (Drop_in a b ha hb k.toNat p hp w h.net).mono ?_
    rintro e w' ⟨he, st', h1, h2, h3, h4⟩
    refine ⟨he, h.step (h1.mono fun b q _ => .inl q) (fun x y => ?_) (fun j q => .inl (h3 j q)) h4⟩
    rw [hkk]
    exact h.erase h2 x y
  · rw [if_neg hk, if_neg hk]
    refine (Drop_out a b ha hb k (h.out hk) w h.net).mono ?_
    rintro e w' ⟨he, hw⟩
    exact ⟨he, Did.same h0 hw⟩
theorem op_double {B : Nat → Prop} {N : Nat} {S : Sg} {T : List PV} (a b k : Int) (ha : I64 a) (hb : I64 b) (w : World) (h : NB B N S T w) :
    Calls Tryz.prog 16 #[.pointer (some ⟨N, 0, none⟩), .int .i64 a, .int .i64 b, .int .i64 k] w fun e w' => e = .returned (.int .i64 (dbE S a b k)) ∧ Did B N (dbS S a b k) T w w' := by
  have h0 := h
  obtain ⟨st, h⟩ := h
  have hlen : (sig st a b).length = (S a b).length := by rw [← h.sg, List.length_map]
  by_cases hk : 0 ≤ k ∧ k < (S a b).length
  · obtain ⟨p, hp, hpl, hkk⟩ := h.at_ hk
    have hE : dbE S a b k = dblE (sig st a b).length := by unfold dbE dblE; rw [if_pos hk, hlen]
    unfold dbS
    rw [hE, ← hpl, ← hkk]
    refine (Double_in a b ha hb k.toNat p hp w h.net).mono ?_
    rintro e w' ⟨he, st', h1, ⟨p', hp', h2⟩, h3, h4⟩
    refine ⟨he, h.step h1 (fun x y => ?_) h3 h4⟩
    rw [h2]
    by_cases h5 : dblE (sig st a b).length = 0
    · simp only [h5, and_true, if_true]
      unfold upd
      split
      · rw [List.map_append, h.sg]; simp [hp']
      · exact h.sg x y
    · simp only [h5, and_false, if_false]
      exact h.sg x y
  · have hE : dbE S a b k = 6 := by unfold dbE; rw [if_neg hk]
    unfold dbS
    rw [hE, if_neg (by decide)]
    refine (Double_out a b ha hb k (h.out hk) w h.net).mono ?_
    rintro e w' ⟨he, hw⟩
    exact ⟨he, Did.same h0 hw⟩
theorem op_take {B : Nat → Prop} {N : Nat} {S : Sg} {T : List PV} (a b k : Int) (ha : I64 a) (hb : I64 b) (w : World) (h : NB B N S T w) :
    Calls Tryz.prog 17 #[.pointer (some ⟨N, 0, none⟩), .int .i64 a, .int .i64 b, .int .i64 k] w fun e w' => ∃ p : PV, p.l = tkV S a b k ∧ e = .returned (.tuple #[p.val, .int .i64 (tkE S a b k)]) ∧ Did B N (tkS S a b k) (T ++ [p]) w w' := by
  have h0 := h
  obtain ⟨st, h⟩ := h
  unfold tkE tkS tkV
  by_cases hk : 0 ≤ k ∧ k < (S a b).length
  · obtain ⟨p, hp, hpl, hkk⟩ := h.at_ hk
    rw [if_pos hk, if_pos hk, if_pos hk, ← hkk]
    refine (Take_in a b ha hb k.toNat p hp w h.net).mono ?_
    rintro e w' ⟨he, st', h1, h2, h3, h4⟩
    refine ⟨p, by rw [hkk, hpl], he, fun j => (B j ∨ w.heap.size ≤ j) ∧ j < w'.heap.size, fun j q => q.1, ⟨st', ?_, ?_, fun j q => ⟨.inl (h.own j (h3 j q)), h1.olt q⟩, ⟨.inl h.hN, h1.net.lt⟩, fun j q => q.2, fun q hq => ?_, ?_⟩, h4.lv h.own⟩
    · have hx := h1.excl p (fun x y q hq => h.net.sep_in hp x y q (by rw [← h2]; exact hq))
      refine hx.mono fun b q hl => ⟨⟨.inl q.1.1, hl⟩, fun r hr => ?_⟩
      simp at hr
      rcases hr with hr | rfl
      · exact q.1.2 r hr
      · exact q.2
    · intro x y
      rw [hkk]
      exact h.erase h2 x y
    · have hd : Dat w (fun b => B b ∧ ¬ NOwn st b ∧ b ≠ N) q.A q.c q.l := by
        simp at hq
        rcases hq with hq | rfl
        · exact h.told q hq
        · have hd := (h.net.dat_at hp).1
          exact (hd.narrow).keep (fun _ _ _ => rfl) (Nat.le_refl _) (fun b k _ => ⟨k.1.1, h.net.notUB k.2⟩)
      exact hd.keep (fun b k _ => h4.block b (h.lt b k.1) k.2.1) h4.size (fun b k hl => ⟨⟨.inl k.1, Nat.lt_of_lt_of_le hl h4.size⟩, fun e => k.2.1 (h3 b e), k.2.2⟩)
    · refine List.pairwise_append.2 ⟨h.sep, List.pairwise_singleton _ _, fun x hx y hy => ?_⟩
      simp at hy
      subst hy
      intro j e1 e2
      exact ((h.net.dat_at hp).1.own e2).1.2 x hx e1
  · rw [if_neg hk, if_neg hk, if_neg hk]
    refine (Take_out a b ha hb k (h.out hk) w h.net).mono ?_
    rintro e w' ⟨he, hw⟩
    obtain ⟨st2, h2⟩ := NB.below h0 hw
    refine ⟨⟨none, 0, []⟩, rfl, he, B, fun _ q => .inl q, ⟨st2, h2.net.mono fun b q _ => ⟨q.1, fun p hp => ?_⟩, h2.sg, h2.own, h2.hN, h2.lt, fun p hp => ?_, ?_⟩, Below.lv hw⟩
    · simp at hp
      rcases hp with hp | rfl
      · exact q.2 p hp
      · exact fun e => by cases e
    · simp at hp
      rcases hp with hp | rfl
      · exact h2.told p hp
      · exact Dat.nil _ _
    · refine List.pairwise_append.2 ⟨h2.sep, List.pairwise_singleton _ _, fun x hx y hy => ?_⟩
      simp at hy
      subst hy
      exact fun j e1 e2 => by cases e2
/-- The links on which something is. -/
def OnL (S : Sg) (L : List (Int × Int)) : Prop := (∀ x y, (x, y) ∈ L ↔ S x y ≠ []) ∧ L.Pairwise fun x y => ltL x y = true
theorem op_links {B : Nat → Prop} {N : Nat} {S : Sg} {T : List PV} (w : World) (h : NB B N S T w) (ks : List (Int × Int)) (hks : ∀ x y, S x y ≠ [] → (x, y) ∈ ks) (hkl : ks.length ≤ 1000000) :
    Calls Tryz.prog 12 #[.pointer (some ⟨N, 0, none⟩)] w fun e w' => ∃ v L, e = .returned v ∧ OnL S L ∧ (∀ p ∈ L, I64 p.1 ∧ I64 p.2) ∧ w'.ownsRow w.heap.size 38 2 v L.length (lkC L) ∧ Below w.heap.size w w' := by
  obtain ⟨st, h⟩ := h
  have hin : ∀ r ∈ st.rows, S r.a r.b ≠ [] := by
    intro r hr e
    have h1 := h.sg r.a r.b
    rw [e, sig_of h.net.ka hr] at h1
    exact (h.net.row r hr).ne (by simpa using h1)
  have hmem : ∀ x y, (x, y) ∈ st.rows.map (fun r => (r.a, r.b)) ↔ S x y ≠ [] := by
    intro x y
    constructor
    · intro hm
      obtain ⟨r, hr, e⟩ := List.mem_map.1 hm
      injection e with e1 e2
      rw [← e1, ← e2]
      exact hin r hr
    · intro hne
      cases hq : rowOf st x y with
      | none => exact absurd (by rw [← h.sg]; simp [sig, hq]) hne
      | some r =>
        obtain ⟨h1, h2, h3⟩ := rowOf_some hq
        exact List.mem_map.2 ⟨r, h1, by rw [h2, h3]⟩
  have hnd : (st.rows.map (fun r => (r.a, r.b))).Nodup := by
    rw [List.Nodup, List.pairwise_map]
    exact h.net.ka.imp fun hn he => hn ⟨congrArg Prod.fst he, congrArg Prod.snd he⟩
  have hfew : st.rows.length ≤ 1000000 := by
    have := len_le_of_sub _ ks hnd (fun p hp => hks p.1 p.2 ((hmem p.1 p.2).1 hp))
    rw [List.length_map] at this
    omega
  refine (Links_any w h.net hfew).mono ?_
  rintro e w' ⟨v, L, he, ⟨h1, h2⟩, h3, h4⟩
  refine ⟨v, L, he, ⟨fun x y => by rw [h1.mem_iff]; exact hmem x y, h2⟩, fun p hp => ?_, h3, h4⟩
  obtain ⟨r, hr, rfl⟩ := List.mem_map.1 (h1.mem_iff.1 hp)
  exact ⟨(h.net.row r hr).ia, (h.net.row r hr).ib⟩
/-- There is one list of them alone. -/
theorem ltL_trans {x y z : Int × Int} (h1 : ltL x y = true) (h2 : ltL y z = true) : ltL x z = true := by
  simp only [ltL, decide_eq_true_eq] at *; omega
theorem ltL_irr {x : Int × Int} : ltL x x = false := by simp [ltL]
theorem ltL_asymm {x y : Int × Int} (h1 : ltL x y = true) (h2 : ltL y x = true) : False := by
  simp only [ltL, decide_eq_true_eq] at *; omega
theorem OnL.one {S : Sg} : ∀ {L L' : List (Int × Int)}, OnL S L → OnL S L' → L = L' := by
  have key : ∀ (L L' : List (Int × Int)), L.Pairwise (fun x y => ltL x y = true) → L'.Pairwise (fun x y => ltL x y = true) → (∀ p, p ∈ L ↔ p ∈ L') → L = L' := by
    intro L
    induction L with
    | nil =>
      intro L' _ _ h
      cases L' with
      | nil => rfl
      | cons x l => exact absurd ((h x).2 (by simp)) (by simp)
    | cons x l ih =>
      intro L' h1 h2 h
      cases L' with
      | nil => exact absurd ((h x).1 (by simp)) (by simp)
      | cons x' l' =>
        obtain ⟨a1, a2⟩ := List.pairwise_cons.1 h1
        obtain ⟨b1, b2⟩ := List.pairwise_cons.1 h2
        have hx : x = x' := by
          have m1 := (h x).1 (by simp)
          have m2 := (h x').2 (by simp)
          simp at m1 m2
          rcases m1 with e | m1
          · exact e
          · rcases m2 with e | m2
            · exact e.symm
            · exact (ltL_asymm (a1 _ m2) (b1 _ m1)).elim
        subst hx
        congr 1
        refine ih l' a2 b2 fun p => ⟨fun hp => ?_, fun hp => ?_⟩
        · have := (h p).1 (by simp [hp])
          simp at this
          rcases this with rfl | this
          · exact absurd (a1 _ hp) (by rw [ltL_irr]; decide)
          · exact this
        · have := (h p).2 (by simp [hp])
          simp at this
          rcases this with rfl | this
          · exact absurd (b1 _ hp) (by rw [ltL_irr]; decide)
          · exact this
  intro L L' h1 h2
  exact key L L' h1.2 h2.2 fun p => by rw [h1.1 p.1 p.2, h2.1 p.1 p.2]
end Go.Proofs.YtenkhbiikecegaaGreat
