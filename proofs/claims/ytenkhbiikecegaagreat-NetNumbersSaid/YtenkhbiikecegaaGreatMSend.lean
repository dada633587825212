/- net: the document's Send. -/
import Derived.Test.YtenkhbiikecegaaGreatMOne
import Derived.Test.YtenkhbiikecegaaGreatKSame
namespace Go.Proofs.YtenkhbiikecegaaGreat
open Go.RowKit Go.Maps Go.ChangeMaps
set_option linter.unusedVariables false
set_option linter.unusedSimpArgs false
set_option maxRecDepth 100000

section
variable {P : Program} {w : World}
theorem step_append_ownA {ops : Array Oper} {o : Oper} {a : Act} {K : Act → World → Prop} {Q : Exit → Act → World → Prop} {E : Prop} (hgd : o.guard = none) (s x : Operand) (t : TypeId)
    (ho : o.op = .call { callee := .builtin .append, args := #[s, x], argTypes := #[t, t] }) (base : Nat)
    (e : TypeId) (i : TypeInfo) (z : Value) (size bytes : Nat) (ht : P.underlying t = some (.slice e)) (hi : P.info? e = some i) (hz : i.zero = some z)
    (hsize : i.size = size) (hby : i.bytes = bytes) (hzs : z.cells.size = size) (hsz : 0 < size)
    (v : Value) (n : Nat) (xs : List Value) (hs : a.eval s = v) (hown : w.ownsRow base e size v n xs)
    (A : Option Addr) (m c : Nat) (news : List Value) (hx : a.eval x = .slice A m c) (hl : news.length = m * size) (hnone : A = none → m = 0 ∧ c = 0) (hnews : ∀ ad, A = some ad → ∀ j u, news[j]? = some u → w.cell? (ad.add j) = some u) (h1 : ∀ u ∈ news, u.oneCell' = true)
    (h63 : n + m ≤ maxLen) (hbytes : (n + m) * bytes ≤ 140737488355328) (hbase : base ≤ w.heap.size)
    (h : ∀ v' w', w'.ownsRow base e size v' (n + m) (xs ++ news) → w.grownBy w' v.ownBlock → K (a.put o.dst v') w') :
    if Region.wanted o (yielded ops a.tmps) = true then Oper.wp P o a w K Q else E := by
  have hw : Region.wanted o (yielded ops a.tmps) = true := by simp [Region.wanted, hgd]
  rw [if_pos hw]
  unfold Oper.wp execOp
  cases A with
  | some ad =>
    obtain ⟨v', w', hr, h2, h3, _⟩ := run_append_own (P := P) w base t o.type e i z size bytes ht hi hz hsize hby hzs hsz v n xs hown ad m c news hl (hnews ad rfl) h1 h63 hbytes hbase
    simp only [ho, resolve, invoke, builtin, Sem.run_bind, Sem.run_pure, Result.andThen_ok, List.map_toArray, List.map_cons, List.map_nil, hs, hx, hr]
    exact h v' w' h2 h3
  | none =>
    obtain ⟨rfl, rfl⟩ := hnone rfl
    have hn : news = [] := List.eq_nil_of_length_eq_zero (by simpa using hl)
    subst hn
    have hr := run_append_owned_none (P := P) w base t o.type e i size ht hi v n xs hown
    simp only [ho, resolve, invoke, builtin, Sem.run_bind, Sem.run_pure, Result.andThen_ok, List.map_toArray, List.map_cons, List.map_nil, hs, hx, hr]
    exact h v w (by simpa using hown) ⟨rfl, rfl, rfl, Nat.le_refl _, fun _ _ _ => rfl⟩
end
theorem infoPk : (Tryz.prog.info? 60).map (fun i => (i.zero, i.size, i.bytes)) = some (some (.agg #[.int .i64 0, .int .i64 0, .slice none 0 0]), 3, 40) := by kernel_rfl
theorem infoU8 : (Tryz.prog.info? 5).map (fun i => (i.zero, i.size, i.bytes)) = some (some (.int .u8 0), 1, 1) := by kernel_rfl
theorem Row.form3 {w : World} {e : TypeId} {size g n k : Nat} {v : Value} {xs : List Value} (h : Row w e size v g n xs) (hv : v.ownBlock = some k) : ∃ cap, v = .slice (some ⟨g, 0, none⟩) n cap := by
  rcases h.2 with ⟨rfl, _⟩ | ⟨cap, cur, rfl, _⟩
  · cases hv
  · exact ⟨cap, rfl⟩
/-- What the document's net does. -/
def RDid (B : Nat → Prop) (R : Nat) (S' : Sg) (n' : Nat) (w w' : World) : Prop := ∃ B' : Nat → Prop, (∀ j, B' j → B j ∨ w.heap.size ≤ j) ∧ RB B' R S' n' w' ∧ Lv B w w'
theorem RB.at_ {B : Nat → Prop} {R n : Nat} {S : Sg} {w : World} (h : RB B R S n w) : ∃ P v g, RN B R P n v g w ∧ (∀ a b, rS P a b = S a b) ∧ (∀ a b, rc P a b = (S a b).length) := by
  obtain ⟨P, v, g, h1, h2⟩ := h
  exact ⟨P, v, g, h1, h2, fun a b => by rw [← h2, rS_len]⟩
theorem rop_wait {B : Nat → Prop} {R n : Nat} {S : Sg} (a b : Int) (w : World) (h : RB B R S n w) : Calls Tryz.prog 10 #[.pointer (some ⟨R, 0, none⟩), .int .i64 a, .int .i64 b] w fun e w' => e = .returned (.int .i64 (S a b).length) ∧ w' = w := by
  obtain ⟨P, v, g, h1, h2, h3⟩ := h.at_
  refine (rwait_any a b h1).mono ?_
  rintro e w' ⟨rfl, rfl⟩
  exact ⟨by rw [h3], rfl⟩
theorem RDid.same {B : Nat → Prop} {R n n' : Nat} {S : Sg} {w : World} (h : RB B R S n w) (hn : n ≤ n') (hn' : n' ≤ 1000000) : RDid B R S n' w w := by
  obtain ⟨P, v, g, h1, h2⟩ := h
  exact ⟨B, fun _ q => .inl q, ⟨P, v, g, ⟨h1.bk, h1.row, h1.own, h1.hR, h1.lt, h1.dat, Nat.le_trans h1.few hn, hn'⟩, h2⟩, ⟨rfl, rfl, rfl, Nat.le_refl _, fun _ _ _ => rfl⟩⟩
theorem RN.gne {B : Nat → Prop} {R n g k : Nat} {P : List RP} {v : Value} {w : World} {t : TypeId} {cs : List Value} (h : RN B R P n v g w) (hb : Bk w k t cs) (ht : t ≠ 60) : some k ≠ v.ownBlock := by
  intro e
  rcases h.row.2 with ⟨e1, _⟩ | ⟨cap, cur, e1, hg, _⟩
  · rw [e1] at e; cases e
  · rw [e1] at e
    have e : some k = some g := e
    injection e with e
    subst e
    rw [hb] at hg
    injection hg with hg
    injection hg with _ hg
    exact ht hg
theorem RN.gb {B : Nat → Prop} {R n g k : Nat} {P : List RP} {v : Value} {w : World} (h : RN B R P n v g w) (hb : UB w k) : some k ≠ v.ownBlock ∧ k ≠ R := by
  obtain ⟨cur, fr, hb⟩ := hb
  refine ⟨fun e => ?_, fun e => ?_⟩
  · rcases h.row.2 with ⟨e1, _⟩ | ⟨cap, cur', e1, hg, _⟩
    · rw [e1] at e; cases e
    · rw [e1] at e
      have e : some k = some g := e
      injection e with e
      subst e
      rw [hb] at hg
      injection hg with hg
      injection hg with _ hg
      exact absurd hg (by decide)
  · subst e
    have hR := h.bk
    unfold Bk at hR
    rw [hb] at hR
    injection hR with hR
    injection hR with _ hR
    exact absurd hR (by decide)
/-- A packet more. -/
theorem RN.pushed {B : Nat → Prop} {R n g g8 cap8 c6 : Nat} {P : List RP} {v : Value} {w w7 w8 : World} {a b : Int} {A6 : Option Addr} {l : List Int} {S : Sg} (h : RN B R P n v g w) (hn : n + 1 ≤ 1000000) (ha : I64 a) (hb : I64 b) (hl : l.length ≤ 262144) (hS : ∀ a b, rS P a b = S a b)
    (hb7 : Below w.heap.size w w7) (hgr8 : w7.grownBy w8 v.ownBlock) (hr8 : Row w8 60 3 (.slice (some ⟨g8, 0, none⟩) (P.length + 1) cap8) g8 (P.length + 1) (rpV P ++ [.int .i64 a, .int .i64 b, .slice A6 l.length c6]))
    (hg8 : g8 = w7.heap.size ∨ (g8 = g ∧ v.ownBlock = some g)) (hlt8 : g8 < w8.heap.size) (hd7 : Dat w7 (fun b => w.heap.size ≤ b) A6 c6 l) (hR8 : Bk w8 R 51 [v]) :
    RDid B R (upd S a b (S a b ++ [l])) (n + 1) w (w8.setCell ⟨R, 0, none⟩ (.slice (some ⟨g8, 0, none⟩) (P.length + 1) cap8)) := by
  have hRl := h.lt R h.hR
  have hgR : g8 ≠ R := by
    rcases hg8 with e | ⟨e, e2⟩
    · have := hb7.size; omega
    · exact fun e3 => h.gne h.bk (by decide) (by rw [e2, ← e, e3])
  have hs8 := hgr8.size
  have far : ∀ k, k ≠ R → (w8.setCell ⟨R, 0, none⟩ (.slice (some ⟨g8, 0, none⟩) (P.length + 1) cap8)).heap[k]? = w8.heap[k]? := fun k hk => Below.heap_setCell w8 _ _ k hk
  have hsz : (w8.setCell ⟨R, 0, none⟩ (.slice (some ⟨g8, 0, none⟩) (P.length + 1) cap8)).heap.size = w8.heap.size := by simp [World.setCell]
  have old : ∀ k, k < w.heap.size → k ≠ R → some k ≠ v.ownBlock → (w8.setCell ⟨R, 0, none⟩ (.slice (some ⟨g8, 0, none⟩) (P.length + 1) cap8)).heap[k]? = w.heap[k]? := fun k h1 h2 h3 => (far k h2).trans ((hgr8.block k (Nat.lt_of_lt_of_le h1 hb7.size) h3).trans (hb7.block k h1))
  refine ⟨fun j => (B j ∨ w.heap.size ≤ j) ∧ j < w8.heap.size, fun j q => q.1, ⟨P ++ [⟨a, b, ⟨A6, c6, l⟩⟩], _, g8, ⟨hR8.set 0 _, ?_, fun _ => ⟨?_, hlt8⟩, ⟨.inl h.hR, hR8.lt⟩, fun j q => by rw [hsz]; exact q.2, ?_, ?_, hn⟩, fun x y => ?_⟩, ⟨hgr8.os.trans hb7.os, hgr8.tape.trans hb7.tape, hgr8.output.trans hb7.output, ?_, fun k h1 h2 => old k h1 (fun e => h2 (e ▸ h.hR)) (fun e => h2 ?_)⟩⟩
  · have := hr8.keep (w' := (w8.setCell ⟨R, 0, none⟩ (.slice (some ⟨g8, 0, none⟩) (P.length + 1) cap8))) (fun _ => far g8 hgR)
    rw [List.length_append, rpV_app]
    exact this
  · rcases hg8 with e | ⟨e, e2⟩
    · have := hb7.size; right; omega
    · left; rw [e]; exact h.own e2
  · intro p hp
    rcases List.mem_append.1 hp with hp | hp
    · obtain ⟨p1, p2, p3, p4⟩ := h.dat p hp
      refine ⟨p1, p2, p3, p4.narrow.keep (fun k q hk => old k hk (h.gb q.2).2 (h.gb q.2).1) ?_ (fun k q hk => ⟨.inl q.1, by have := hb7.size; omega⟩)⟩
      rw [hsz]; have := hb7.size; omega
    · simp at hp
      subst hp
      refine ⟨ha, hb, hl, hd7.narrow.keep (fun k q hk => ?_) (by rw [hsz]; exact hs8) (fun k q hk => ⟨.inr q.1, by omega⟩)⟩
      have hw7 : RN B R P n v g w7 := h.keep (fun j q => hb7.block j (h.lt j q)) hb7.size
      exact (far k (hw7.gb q.2).2).trans (hgr8.block k hk (hw7.gb q.2).1)
  · have := h.few; simp; omega
  · rw [rS_push]
    unfold upd
    show (if a = x ∧ b = y then _ else _) = _
    by_cases e : a = x ∧ b = y
    · rw [if_pos e, if_pos e, hS, e.1, e.2]
    · rw [if_neg e, if_neg e, hS]
  · rw [hsz]; have := hb7.size; omega
  · rcases h.row.2 with ⟨e1, _⟩ | ⟨cap, cur, e1, _⟩
    · rw [e1] at e; cases e
    · have e2 : v.ownBlock = some g := by rw [e1]; rfl
      have := h.own e2
      rw [e2] at e
      injection e with e
      rw [e]; exact this
set_option maxHeartbeats 2000000 in
theorem rop_send {B KP : Nat → Prop} {R n : Nat} {S : Sg} (a b : Int) (ha : I64 a) (hb : I64 b) (A : Option Addr) (c : Nat) (l : List Int) (w : World) (h : RB B R S n w) (hn : n + 1 ≤ 1000000) (hl : Rd w KP A c (u8s l)) (hKP : ∀ k, KP k → k < w.heap.size) :
    Calls Tryz.prog 24 #[.pointer (some ⟨R, 0, none⟩), .int .i64 a, .int .i64 b, .slice A l.length c] w fun e w' => e = .returned (.int .i64 (sndE S a b l)) ∧ RDid B R (sndS S a b l) (n + 1) w w' := by
  by_cases hlen : 262144 < l.length
  · have d1 : decide ((262144 : Int) < (l.length : Int)) = true := decide_eq_true (by omega)
    have hE : sndE S a b l = 3 := by unfold sndE; rw [if_pos hlen]
    have hS : sndS S a b l = S := by unfold sndS; rw [hE]; rfl
    rw [hE, hS]
    have hD := RDid.same h (Nat.le_succ n) hn
    go_enter Tryz.func24, Tryz.ntmps24
    go_wp2_with fail
    go_ret
    exact ⟨rfl, hD⟩
  have d1 : decide ((262144 : Int) < (l.length : Int)) = false := decide_eq_false (by omega)
  by_cases hfull : 64 ≤ (S a b).length
  · have d2 : decide ((64 : Int) ≤ ((S a b).length : Int)) = true := decide_eq_true (by omega)
    have hE : sndE S a b l = 5 := by unfold sndE; rw [if_neg hlen, if_pos hfull]
    have hS : sndS S a b l = S := by unfold sndS; rw [hE]; rfl
    rw [hE, hS]
    have hD := RDid.same h (Nat.le_succ n) hn
    have hw := rop_wait a b w h
    go_enter Tryz.func24, Tryz.ntmps24
    go_wp2_with fail
    (with_reducible refine hw.mono ?_)
    rintro _ w1 ⟨rfl, rfl⟩
    go_wp2_with fail
    go_ret
    exact ⟨rfl, hD⟩
  have d2 : decide ((64 : Int) ≤ ((S a b).length : Int)) = false := decide_eq_false (by omega)
  have hE : sndE S a b l = 0 := by unfold sndE; rw [if_neg hlen, if_neg hfull]
  have hS : sndS S a b l = upd S a b (S a b ++ [l]) := by unfold sndS; rw [hE]; rfl
  rw [hE, hS]
  have hw := rop_wait a b w h
  obtain ⟨P, v, g, hN, hsg, _⟩ := h.at_
  obtain ⟨i0, hi, hz, hz1, hz2⟩ := info_parts infoPk
  obtain ⟨i1, hi1, hy, hy1, hy2⟩ := info_parts infoU8
  have hnn := hN.few
  go_enter Tryz.func24, Tryz.ntmps24
  go_wp2_with fail
  (with_reducible refine hw.mono ?_)
  rintro _ w_ ⟨rfl, rfl⟩
  clear hw
  obtain ⟨V, HV⟩ : ∃ V, Hid (V = v) := ⟨v, Lib.hid rfl⟩
  have cR : w_.cell? ⟨R, 0, none⟩ = some V := hN.cellR.trans (by rw [HV.out])
  have hX : ∀ w', Below w_.heap.size w_ w' → w'.cell? ⟨R, 0, none⟩ = some V := by
    intro w' hw'
    rw [HV.out]
    exact (hN.keep (fun j q => hw'.block j (hN.lt j q)) hw'.size).cellR
  have hb5 : Below w_.heap.size w_ (w_.alloc (.cells #[] 5)).drew := ((Below.refl _ _).alloc (Nat.le_refl _) _).drew
  have hr5 : ((w_.alloc (.cells #[] 5)).drew).ownsRow w_.heap.size 5 1 (.slice (some ⟨w_.heap.size, 0, none⟩) 0 0) 0 [] := World.ownsRow_made w_ #[] 0 (Nat.le_refl _) (by decide) rfl
  go_wp2_with fail
  refine wp_region_held_drew (S := fun w' => True) (by kernel_rfl) trivial (fun hS => ?_)
  refine wpAnyH_take (i := 0) (v := ?_) rfl (by kernel_rfl) (by kernel_rfl) (by kernel_rfl) (fun _ _ _ h => h) (Or.inl ⟨by rfl, ?_⟩) hS ?_
  rotate_left 1
  · intro w' hSw
    go_simp <;> with_reducible rfl
  try simp only [List.getElem_toArray, List.getElem_cons_zero, List.getElem_cons_succ, Act.put, List.setIfInBounds_toArray, List.set_cons_zero, List.set_cons_succ]
  refine wpAnyH_take (i := 1) (v := ?_) rfl (by kernel_rfl) (by kernel_rfl) (by kernel_rfl) (fun _ _ _ h => h) (Or.inl ⟨by rfl, ?_⟩) hS ?_
  rotate_left 1
  · intro w' hSw
    go_simp <;> with_reducible rfl
  try simp only [List.getElem_toArray, List.getElem_cons_zero, List.getElem_cons_succ, Act.put, List.setIfInBounds_toArray, List.set_cons_zero, List.set_cons_succ]
  refine wpAnyH_take (i := 2) (v := ?_) rfl (by kernel_rfl) (by kernel_rfl) (by kernel_rfl) (fun _ _ _ h => h) (Or.inl ⟨by rfl, ?_⟩) hS ?_
  rotate_left 1
  · intro w' hSw
    go_simp <;> with_reducible rfl
  try simp only [List.getElem_toArray, List.getElem_cons_zero, List.getElem_cons_succ, Act.put, List.setIfInBounds_toArray, List.set_cons_zero, List.set_cons_succ]
  refine wpAnyH_take (i := 3) (v := ?_) rfl (by kernel_rfl) (by kernel_rfl) (by kernel_rfl) (fun _ _ _ h => h) (Or.inl ⟨by rfl, ?_⟩) hS ?_
  rotate_left 1
  · intro w' hSw
    go_simp <;> with_reducible rfl
  try simp only [List.getElem_toArray, List.getElem_cons_zero, List.getElem_cons_succ, Act.put, List.setIfInBounds_toArray, List.set_cons_zero, List.set_cons_succ]
  refine wpAnyH_take (i := 5) (v := ?_) rfl (by kernel_rfl) (by kernel_rfl) (by kernel_rfl) (fun _ _ _ h => h) (Or.inl ⟨by rfl, ?_⟩) hS ?_
  rotate_left 1
  · intro w' hSw
    go_simp <;> with_reducible rfl
  try simp only [List.getElem_toArray, List.getElem_cons_zero, List.getElem_cons_succ, Act.put, List.setIfInBounds_toArray, List.set_cons_zero, List.set_cons_succ]
  refine wpAnyH_take (i := 6) (v := ?_) rfl (by kernel_rfl) (by kernel_rfl) (by kernel_rfl) (fun _ _ _ h => h) (Or.inl ⟨by rfl, ?_⟩) hS ?_
  rotate_left 1
  · intro w' hSw
    go_simp <;> with_reducible rfl
  try simp only [List.getElem_toArray, List.getElem_cons_zero, List.getElem_cons_succ, Act.put, List.setIfInBounds_toArray, List.set_cons_zero, List.set_cons_succ]
  refine wpAnyH_take (i := 8) (v := ?_) rfl (by kernel_rfl) (by kernel_rfl) (by kernel_rfl) (fun _ _ _ h => h) (Or.inl ⟨by rfl, ?_⟩) hS ?_
  rotate_left 1
  · intro w' hSw
    go_simp <;> with_reducible rfl
  try simp only [List.getElem_toArray, List.getElem_cons_zero, List.getElem_cons_succ, Act.put, List.setIfInBounds_toArray, List.set_cons_zero, List.set_cons_succ]
  refine wpAnyH_ready (rs := [4, 7]) (by kernel_rfl) (by simp) (AllReadyH.cons rfl (fun K hK => ?_) (AllReadyH.cons rfl (fun K hK => ?_) AllReadyH.nil))
  · go_simp
    refine hK _ _ trivial (fun hS => ?_)
    clear hK K
    try simp only [List.getElem_toArray, List.getElem_cons_zero, List.getElem_cons_succ, Act.put, List.setIfInBounds_toArray, List.set_cons_zero, List.set_cons_succ]
    refine wpAnyH_ready (rs := [7]) (by kernel_rfl) (by simp) (AllReadyH.cons rfl (fun K hK => ?_) AllReadyH.nil)
    go_simp
    refine hK _ _ trivial (fun hS => ?_)
    clear hK K
    generalize ((w_.alloc (.cells #[] 5)).drew) = w5 at *
    have cR5 := hX _ hb5
    try simp only [List.getElem_toArray, List.getElem_cons_zero, List.getElem_cons_succ, Act.put, List.setIfInBounds_toArray, List.set_cons_zero, List.set_cons_succ]
    refine wpAnyH_ready (rs := [9]) (by kernel_rfl) (by simp) (AllReadyH.cons rfl (fun K hK => ?_) AllReadyH.nil)
    refine step_append_ownA (by rfl) (.tmp 24) (.tmp 25) 28 (by rfl) w_.heap.size 5 i1 (.int .u8 0) 1 1 Tryz.underlying28 hi1 hy hy1 hy2 rfl (by decide) (.slice (some ⟨w_.heap.size, 0, none⟩) 0 0) 0 [] (by rfl) hr5 A l.length c (u8s l) (by rfl) (by simp) (fun e => by have := hl.nonone e; simpa using this) (hl.keep (w' := w5) (K' := KP) (fun k hk => hb5.block k (hKP k hk)) (fun _ q => q)).cells (u8s_one l) (by unfold maxLen; omega) (by omega) hb5.size ?_
    intro v6 w6 hr6 hgr6
    rw [Nat.zero_add, List.nil_append] at hr6
    obtain ⟨A6, c6, rfl, hd6⟩ := own_dat hr6
    have hb6 : Below w_.heap.size w_ w6 := hb5.grown hgr6 hb5.size (fun k e => by have e : some w_.heap.size = some k := e; injection e with e; omega)
    refine hK _ _ trivial (fun hS => ?_)
    clear hK K hgr6 hr6 hr5 hb5
    have cR6 := hX _ hb6
    try simp only [List.getElem_toArray, List.getElem_cons_zero, List.getElem_cons_succ, Act.put, List.setIfInBounds_toArray, List.set_cons_zero, List.set_cons_succ]
    refine wpAnyH_ready (rs := [10]) (by kernel_rfl) (by simp) (AllReadyH.cons rfl (fun K hK => ?_) AllReadyH.nil)
    go_simp
    refine hK _ _ trivial (fun hS => ?_)
    clear hK K
    try simp only [List.getElem_toArray, List.getElem_cons_zero, List.getElem_cons_succ, Act.put, List.setIfInBounds_toArray, List.set_cons_zero, List.set_cons_succ]
    refine wpAnyH_ready (rs := [11]) (by kernel_rfl) (by simp) (AllReadyH.cons rfl (fun K hK => ?_) AllReadyH.nil)
    go_simp
    have hb7 := hb6.alloc hb6.size (.cells #[.int .i64 a, .int .i64 b, .slice A6 l.length c6] 60)
    have hn7 := news_new w6 [.int .i64 a, .int .i64 b, .slice A6 l.length c6] 60
    have hd7 : Dat (w6.alloc (.cells #[.int .i64 a, .int .i64 b, .slice A6 l.length c6] 60)) (fun b => w_.heap.size ≤ b) A6 c6 l := hd6.keep (fun b _ hl => heap_alloc_old w6 _ hl) (by simp) (fun _ q _ => q)
    refine hK _ _ trivial (fun hS => ?_)
    clear hK K hd6 hb6
    rw [show [Value.int .i64 a, Value.int .i64 b, Value.slice A6 l.length c6].toArray = #[Value.int .i64 a, Value.int .i64 b, Value.slice A6 l.length c6] from rfl] at hn7
    generalize (w6.alloc (.cells #[.int .i64 a, .int .i64 b, .slice A6 l.length c6] 60)) = w7 at *
    have cR7 := hX _ hb7
    try simp only [List.getElem_toArray, List.getElem_cons_zero, List.getElem_cons_succ, Act.put, List.setIfInBounds_toArray, List.set_cons_zero, List.set_cons_succ]
    refine wpAnyH_ready (rs := [12]) (by kernel_rfl) (by simp) (AllReadyH.cons rfl (fun K hK => ?_) AllReadyH.nil)
    have hr7 := hN.row.keep (w' := w7) (fun e => hb7.block _ (hN.lt _ (hN.own e)))
    refine step_append_row _ (by rfl) (.tmp 21) (.tmp 28) 49 (by rfl) 60 i0 _ 3 40 Tryz.underlying49 hi hz hz1 hz2 rfl v g P.length (rpV P) HV.out hr7 ⟨w6.heap.size, 0, none⟩ 1 1 [.int .i64 a, .int .i64 b, .slice A6 l.length c6] (by rfl) rfl hn7 (fun u hu => by simp at hu; rcases hu with rfl | rfl | rfl <;> rfl) (by unfold maxLen; omega) (by omega) (by decide) ?_
    intro v8 w8 g8 hr8 hgr8 hv8 hg8 hlt8
    obtain ⟨cap8, rfl⟩ := hr8.form3 hv8
    have hR8 : Bk w8 R 51 [v] := (hgr8.block R (Nat.lt_of_lt_of_le (hN.lt R hN.hR) hb7.size) (hN.gne hN.bk (by decide))).trans ((hb7.block R (hN.lt R hN.hR)).trans hN.bk)
    have cR8 : w8.cell? ⟨R, 0, none⟩ = some v := by have := hR8.cell 0; simpa using this
    have fR8 := hR8.frozen 0
    have hfin := hN.pushed hn ha hb (by omega) hsg hb7 hgr8 hr8 hg8 hlt8 hd7 hR8
    refine hK _ _ trivial (fun hS => ?_)
    clear hK K hX
    try simp only [List.getElem_toArray, List.getElem_cons_zero, List.getElem_cons_succ, Act.put, List.setIfInBounds_toArray, List.set_cons_zero, List.set_cons_succ]
    refine wpAnyH_ready (rs := [13]) (by kernel_rfl) (by simp) (AllReadyH.cons rfl (fun K hK => ?_) AllReadyH.nil)
    go_simp
    refine hK _ _ trivial (fun hS => ?_)
    clear hK K
    try simp only [List.getElem_toArray, List.getElem_cons_zero, List.getElem_cons_succ, Act.put, List.setIfInBounds_toArray, List.set_cons_zero, List.set_cons_succ]
    refine wpAnyH_ready (rs := [14]) (by kernel_rfl) (by simp) (AllReadyH.cons rfl (fun K hK => ?_) AllReadyH.nil)
    go_simp
    refine hK _ _ trivial (fun hS => ?_)
    clear hK K
    try simp only [List.getElem_toArray, List.getElem_cons_zero, List.getElem_cons_succ, Act.put, List.setIfInBounds_toArray, List.set_cons_zero, List.set_cons_succ]
    refine wpAnyH_ready (rs := [15]) (by kernel_rfl) (by simp) (AllReadyH.cons rfl (fun K hK => ?_) AllReadyH.nil)
    go_simp
    refine hK _ _ trivial (fun hS => ?_)
    clear hK K
    try simp only [List.getElem_toArray, List.getElem_cons_zero, List.getElem_cons_succ, Act.put, List.setIfInBounds_toArray, List.set_cons_zero, List.set_cons_succ]
    refine wpAnyH_done (by kernel_rfl) ?_ _
    go_ways
    go_wp2_with fail
    go_ret
    exact ⟨rfl, hfin⟩
  · go_simp
    refine hK _ _ trivial (fun hS => ?_)
    clear hK K
    generalize ((w_.alloc (.cells #[] 5)).drew) = w5 at *
    have cR5 := hX _ hb5
    try simp only [List.getElem_toArray, List.getElem_cons_zero, List.getElem_cons_succ, Act.put, List.setIfInBounds_toArray, List.set_cons_zero, List.set_cons_succ]
    refine wpAnyH_ready (rs := [4, 9]) (by kernel_rfl) (by simp) (AllReadyH.cons rfl (fun K hK => ?_) (AllReadyH.cons rfl (fun K hK => ?_) AllReadyH.nil))
    · go_simp
      refine hK _ _ trivial (fun hS => ?_)
      clear hK K
      try simp only [List.getElem_toArray, List.getElem_cons_zero, List.getElem_cons_succ, Act.put, List.setIfInBounds_toArray, List.set_cons_zero, List.set_cons_succ]
      refine wpAnyH_ready (rs := [9]) (by kernel_rfl) (by simp) (AllReadyH.cons rfl (fun K hK => ?_) AllReadyH.nil)
      refine step_append_ownA (by rfl) (.tmp 24) (.tmp 25) 28 (by rfl) w_.heap.size 5 i1 (.int .u8 0) 1 1 Tryz.underlying28 hi1 hy hy1 hy2 rfl (by decide) (.slice (some ⟨w_.heap.size, 0, none⟩) 0 0) 0 [] (by rfl) hr5 A l.length c (u8s l) (by rfl) (by simp) (fun e => by have := hl.nonone e; simpa using this) (hl.keep (w' := w5) (K' := KP) (fun k hk => hb5.block k (hKP k hk)) (fun _ q => q)).cells (u8s_one l) (by unfold maxLen; omega) (by omega) hb5.size ?_
      intro v6 w6 hr6 hgr6
      rw [Nat.zero_add, List.nil_append] at hr6
      obtain ⟨A6, c6, rfl, hd6⟩ := own_dat hr6
      have hb6 : Below w_.heap.size w_ w6 := hb5.grown hgr6 hb5.size (fun k e => by have e : some w_.heap.size = some k := e; injection e with e; omega)
      refine hK _ _ trivial (fun hS => ?_)
      clear hK K hgr6 hr6 hr5 hb5
      have cR6 := hX _ hb6
      try simp only [List.getElem_toArray, List.getElem_cons_zero, List.getElem_cons_succ, Act.put, List.setIfInBounds_toArray, List.set_cons_zero, List.set_cons_succ]
      refine wpAnyH_ready (rs := [10]) (by kernel_rfl) (by simp) (AllReadyH.cons rfl (fun K hK => ?_) AllReadyH.nil)
      go_simp
      refine hK _ _ trivial (fun hS => ?_)
      clear hK K
      try simp only [List.getElem_toArray, List.getElem_cons_zero, List.getElem_cons_succ, Act.put, List.setIfInBounds_toArray, List.set_cons_zero, List.set_cons_succ]
      refine wpAnyH_ready (rs := [11]) (by kernel_rfl) (by simp) (AllReadyH.cons rfl (fun K hK => ?_) AllReadyH.nil)
      go_simp
      have hb7 := hb6.alloc hb6.size (.cells #[.int .i64 a, .int .i64 b, .slice A6 l.length c6] 60)
      have hn7 := news_new w6 [.int .i64 a, .int .i64 b, .slice A6 l.length c6] 60
      have hd7 : Dat (w6.alloc (.cells #[.int .i64 a, .int .i64 b, .slice A6 l.length c6] 60)) (fun b => w_.heap.size ≤ b) A6 c6 l := hd6.keep (fun b _ hl => heap_alloc_old w6 _ hl) (by simp) (fun _ q _ => q)
      refine hK _ _ trivial (fun hS => ?_)
      clear hK K hd6 hb6
      rw [show [Value.int .i64 a, Value.int .i64 b, Value.slice A6 l.length c6].toArray = #[Value.int .i64 a, Value.int .i64 b, Value.slice A6 l.length c6] from rfl] at hn7
      generalize (w6.alloc (.cells #[.int .i64 a, .int .i64 b, .slice A6 l.length c6] 60)) = w7 at *
      have cR7 := hX _ hb7
      try simp only [List.getElem_toArray, List.getElem_cons_zero, List.getElem_cons_succ, Act.put, List.setIfInBounds_toArray, List.set_cons_zero, List.set_cons_succ]
      refine wpAnyH_ready (rs := [12]) (by kernel_rfl) (by simp) (AllReadyH.cons rfl (fun K hK => ?_) AllReadyH.nil)
      have hr7 := hN.row.keep (w' := w7) (fun e => hb7.block _ (hN.lt _ (hN.own e)))
      refine step_append_row _ (by rfl) (.tmp 21) (.tmp 28) 49 (by rfl) 60 i0 _ 3 40 Tryz.underlying49 hi hz hz1 hz2 rfl v g P.length (rpV P) HV.out hr7 ⟨w6.heap.size, 0, none⟩ 1 1 [.int .i64 a, .int .i64 b, .slice A6 l.length c6] (by rfl) rfl hn7 (fun u hu => by simp at hu; rcases hu with rfl | rfl | rfl <;> rfl) (by unfold maxLen; omega) (by omega) (by decide) ?_
      intro v8 w8 g8 hr8 hgr8 hv8 hg8 hlt8
      obtain ⟨cap8, rfl⟩ := hr8.form3 hv8
      have hR8 : Bk w8 R 51 [v] := (hgr8.block R (Nat.lt_of_lt_of_le (hN.lt R hN.hR) hb7.size) (hN.gne hN.bk (by decide))).trans ((hb7.block R (hN.lt R hN.hR)).trans hN.bk)
      have cR8 : w8.cell? ⟨R, 0, none⟩ = some v := by have := hR8.cell 0; simpa using this
      have fR8 := hR8.frozen 0
      have hfin := hN.pushed hn ha hb (by omega) hsg hb7 hgr8 hr8 hg8 hlt8 hd7 hR8
      refine hK _ _ trivial (fun hS => ?_)
      clear hK K hX
      try simp only [List.getElem_toArray, List.getElem_cons_zero, List.getElem_cons_succ, Act.put, List.setIfInBounds_toArray, List.set_cons_zero, List.set_cons_succ]
      refine wpAnyH_ready (rs := [13]) (by kernel_rfl) (by simp) (AllReadyH.cons rfl (fun K hK => ?_) AllReadyH.nil)
      go_simp
      refine hK _ _ trivial (fun hS => ?_)
      clear hK K
      try simp only [List.getElem_toArray, List.getElem_cons_zero, List.getElem_cons_succ, Act.put, List.setIfInBounds_toArray, List.set_cons_zero, List.set_cons_succ]
      refine wpAnyH_ready (rs := [14]) (by kernel_rfl) (by simp) (AllReadyH.cons rfl (fun K hK => ?_) AllReadyH.nil)
      go_simp
      refine hK _ _ trivial (fun hS => ?_)
      clear hK K
      try simp only [List.getElem_toArray, List.getElem_cons_zero, List.getElem_cons_succ, Act.put, List.setIfInBounds_toArray, List.set_cons_zero, List.set_cons_succ]
      refine wpAnyH_ready (rs := [15]) (by kernel_rfl) (by simp) (AllReadyH.cons rfl (fun K hK => ?_) AllReadyH.nil)
      go_simp
      refine hK _ _ trivial (fun hS => ?_)
      clear hK K
      try simp only [List.getElem_toArray, List.getElem_cons_zero, List.getElem_cons_succ, Act.put, List.setIfInBounds_toArray, List.set_cons_zero, List.set_cons_succ]
      refine wpAnyH_done (by kernel_rfl) ?_ _
      go_ways
      go_wp2_with fail
      go_ret
      exact ⟨rfl, hfin⟩
    · refine step_append_ownA (by rfl) (.tmp 24) (.tmp 25) 28 (by rfl) w_.heap.size 5 i1 (.int .u8 0) 1 1 Tryz.underlying28 hi1 hy hy1 hy2 rfl (by decide) (.slice (some ⟨w_.heap.size, 0, none⟩) 0 0) 0 [] (by rfl) hr5 A l.length c (u8s l) (by rfl) (by simp) (fun e => by have := hl.nonone e; simpa using this) (hl.keep (w' := w5) (K' := KP) (fun k hk => hb5.block k (hKP k hk)) (fun _ q => q)).cells (u8s_one l) (by unfold maxLen; omega) (by omega) hb5.size ?_
      intro v6 w6 hr6 hgr6
      rw [Nat.zero_add, List.nil_append] at hr6
      obtain ⟨A6, c6, rfl, hd6⟩ := own_dat hr6
      have hb6 : Below w_.heap.size w_ w6 := hb5.grown hgr6 hb5.size (fun k e => by have e : some w_.heap.size = some k := e; injection e with e; omega)
      refine hK _ _ trivial (fun hS => ?_)
      clear hK K hgr6 hr6 hr5 hb5
      have cR6 := hX _ hb6
      try simp only [List.getElem_toArray, List.getElem_cons_zero, List.getElem_cons_succ, Act.put, List.setIfInBounds_toArray, List.set_cons_zero, List.set_cons_succ]
      refine wpAnyH_ready (rs := [4, 10]) (by kernel_rfl) (by simp) (AllReadyH.cons rfl (fun K hK => ?_) (AllReadyH.cons rfl (fun K hK => ?_) AllReadyH.nil))
      · go_simp
        refine hK _ _ trivial (fun hS => ?_)
        clear hK K
        try simp only [List.getElem_toArray, List.getElem_cons_zero, List.getElem_cons_succ, Act.put, List.setIfInBounds_toArray, List.set_cons_zero, List.set_cons_succ]
        refine wpAnyH_ready (rs := [10]) (by kernel_rfl) (by simp) (AllReadyH.cons rfl (fun K hK => ?_) AllReadyH.nil)
        go_simp
        refine hK _ _ trivial (fun hS => ?_)
        clear hK K
        try simp only [List.getElem_toArray, List.getElem_cons_zero, List.getElem_cons_succ, Act.put, List.setIfInBounds_toArray, List.set_cons_zero, List.set_cons_succ]
        refine wpAnyH_ready (rs := [11]) (by kernel_rfl) (by simp) (AllReadyH.cons rfl (fun K hK => ?_) AllReadyH.nil)
        go_simp
        have hb7 := hb6.alloc hb6.size (.cells #[.int .i64 a, .int .i64 b, .slice A6 l.length c6] 60)
        have hn7 := news_new w6 [.int .i64 a, .int .i64 b, .slice A6 l.length c6] 60
        have hd7 : Dat (w6.alloc (.cells #[.int .i64 a, .int .i64 b, .slice A6 l.length c6] 60)) (fun b => w_.heap.size ≤ b) A6 c6 l := hd6.keep (fun b _ hl => heap_alloc_old w6 _ hl) (by simp) (fun _ q _ => q)
        refine hK _ _ trivial (fun hS => ?_)
        clear hK K hd6 hb6
        rw [show [Value.int .i64 a, Value.int .i64 b, Value.slice A6 l.length c6].toArray = #[Value.int .i64 a, Value.int .i64 b, Value.slice A6 l.length c6] from rfl] at hn7
        generalize (w6.alloc (.cells #[.int .i64 a, .int .i64 b, .slice A6 l.length c6] 60)) = w7 at *
        have cR7 := hX _ hb7
        try simp only [List.getElem_toArray, List.getElem_cons_zero, List.getElem_cons_succ, Act.put, List.setIfInBounds_toArray, List.set_cons_zero, List.set_cons_succ]
        refine wpAnyH_ready (rs := [12]) (by kernel_rfl) (by simp) (AllReadyH.cons rfl (fun K hK => ?_) AllReadyH.nil)
        have hr7 := hN.row.keep (w' := w7) (fun e => hb7.block _ (hN.lt _ (hN.own e)))
        refine step_append_row _ (by rfl) (.tmp 21) (.tmp 28) 49 (by rfl) 60 i0 _ 3 40 Tryz.underlying49 hi hz hz1 hz2 rfl v g P.length (rpV P) HV.out hr7 ⟨w6.heap.size, 0, none⟩ 1 1 [.int .i64 a, .int .i64 b, .slice A6 l.length c6] (by rfl) rfl hn7 (fun u hu => by simp at hu; rcases hu with rfl | rfl | rfl <;> rfl) (by unfold maxLen; omega) (by omega) (by decide) ?_
        intro v8 w8 g8 hr8 hgr8 hv8 hg8 hlt8
        obtain ⟨cap8, rfl⟩ := hr8.form3 hv8
        have hR8 : Bk w8 R 51 [v] := (hgr8.block R (Nat.lt_of_lt_of_le (hN.lt R hN.hR) hb7.size) (hN.gne hN.bk (by decide))).trans ((hb7.block R (hN.lt R hN.hR)).trans hN.bk)
        have cR8 : w8.cell? ⟨R, 0, none⟩ = some v := by have := hR8.cell 0; simpa using this
        have fR8 := hR8.frozen 0
        have hfin := hN.pushed hn ha hb (by omega) hsg hb7 hgr8 hr8 hg8 hlt8 hd7 hR8
        refine hK _ _ trivial (fun hS => ?_)
        clear hK K hX
        try simp only [List.getElem_toArray, List.getElem_cons_zero, List.getElem_cons_succ, Act.put, List.setIfInBounds_toArray, List.set_cons_zero, List.set_cons_succ]
        refine wpAnyH_ready (rs := [13]) (by kernel_rfl) (by simp) (AllReadyH.cons rfl (fun K hK => ?_) AllReadyH.nil)
        go_simp
        refine hK _ _ trivial (fun hS => ?_)
        clear hK K
        try simp only [List.getElem_toArray, List.getElem_cons_zero, List.getElem_cons_succ, Act.put, List.setIfInBounds_toArray, List.set_cons_zero, List.set_cons_succ]
        refine wpAnyH_ready (rs := [14]) (by kernel_rfl) (by simp) (AllReadyH.cons rfl (fun K hK => ?_) AllReadyH.nil)
        go_simp
        refine hK _ _ trivial (fun hS => ?_)
        clear hK K
        try simp only [List.getElem_toArray, List.getElem_cons_zero, List.getElem_cons_succ, Act.put, List.setIfInBounds_toArray, List.set_cons_zero, List.set_cons_succ]
        refine wpAnyH_ready (rs := [15]) (by kernel_rfl) (by simp) (AllReadyH.cons rfl (fun K hK => ?_) AllReadyH.nil)
        go_simp
        refine hK _ _ trivial (fun hS => ?_)
        clear hK K
        try simp only [List.getElem_toArray, List.getElem_cons_zero, List.getElem_cons_succ, Act.put, List.setIfInBounds_toArray, List.set_cons_zero, List.set_cons_succ]
        refine wpAnyH_done (by kernel_rfl) ?_ _
        go_ways
        go_wp2_with fail
        go_ret
        exact ⟨rfl, hfin⟩
      · go_simp
        refine hK _ _ trivial (fun hS => ?_)
        clear hK K
        try simp only [List.getElem_toArray, List.getElem_cons_zero, List.getElem_cons_succ, Act.put, List.setIfInBounds_toArray, List.set_cons_zero, List.set_cons_succ]
        refine wpAnyH_ready (rs := [4, 11]) (by kernel_rfl) (by simp) (AllReadyH.cons rfl (fun K hK => ?_) (AllReadyH.cons rfl (fun K hK => ?_) AllReadyH.nil))
        · go_simp
          refine hK _ _ trivial (fun hS => ?_)
          clear hK K
          try simp only [List.getElem_toArray, List.getElem_cons_zero, List.getElem_cons_succ, Act.put, List.setIfInBounds_toArray, List.set_cons_zero, List.set_cons_succ]
          refine wpAnyH_ready (rs := [11]) (by kernel_rfl) (by simp) (AllReadyH.cons rfl (fun K hK => ?_) AllReadyH.nil)
          go_simp
          have hb7 := hb6.alloc hb6.size (.cells #[.int .i64 a, .int .i64 b, .slice A6 l.length c6] 60)
          have hn7 := news_new w6 [.int .i64 a, .int .i64 b, .slice A6 l.length c6] 60
          have hd7 : Dat (w6.alloc (.cells #[.int .i64 a, .int .i64 b, .slice A6 l.length c6] 60)) (fun b => w_.heap.size ≤ b) A6 c6 l := hd6.keep (fun b _ hl => heap_alloc_old w6 _ hl) (by simp) (fun _ q _ => q)
          refine hK _ _ trivial (fun hS => ?_)
          clear hK K hd6 hb6
          rw [show [Value.int .i64 a, Value.int .i64 b, Value.slice A6 l.length c6].toArray = #[Value.int .i64 a, Value.int .i64 b, Value.slice A6 l.length c6] from rfl] at hn7
          generalize (w6.alloc (.cells #[.int .i64 a, .int .i64 b, .slice A6 l.length c6] 60)) = w7 at *
          have cR7 := hX _ hb7
          try simp only [List.getElem_toArray, List.getElem_cons_zero, List.getElem_cons_succ, Act.put, List.setIfInBounds_toArray, List.set_cons_zero, List.set_cons_succ]
          refine wpAnyH_ready (rs := [12]) (by kernel_rfl) (by simp) (AllReadyH.cons rfl (fun K hK => ?_) AllReadyH.nil)
          have hr7 := hN.row.keep (w' := w7) (fun e => hb7.block _ (hN.lt _ (hN.own e)))
          refine step_append_row _ (by rfl) (.tmp 21) (.tmp 28) 49 (by rfl) 60 i0 _ 3 40 Tryz.underlying49 hi hz hz1 hz2 rfl v g P.length (rpV P) HV.out hr7 ⟨w6.heap.size, 0, none⟩ 1 1 [.int .i64 a, .int .i64 b, .slice A6 l.length c6] (by rfl) rfl hn7 (fun u hu => by simp at hu; rcases hu with rfl | rfl | rfl <;> rfl) (by unfold maxLen; omega) (by omega) (by decide) ?_
          intro v8 w8 g8 hr8 hgr8 hv8 hg8 hlt8
          obtain ⟨cap8, rfl⟩ := hr8.form3 hv8
          have hR8 : Bk w8 R 51 [v] := (hgr8.block R (Nat.lt_of_lt_of_le (hN.lt R hN.hR) hb7.size) (hN.gne hN.bk (by decide))).trans ((hb7.block R (hN.lt R hN.hR)).trans hN.bk)
          have cR8 : w8.cell? ⟨R, 0, none⟩ = some v := by have := hR8.cell 0; simpa using this
          have fR8 := hR8.frozen 0
          have hfin := hN.pushed hn ha hb (by omega) hsg hb7 hgr8 hr8 hg8 hlt8 hd7 hR8
          refine hK _ _ trivial (fun hS => ?_)
          clear hK K hX
          try simp only [List.getElem_toArray, List.getElem_cons_zero, List.getElem_cons_succ, Act.put, List.setIfInBounds_toArray, List.set_cons_zero, List.set_cons_succ]
          refine wpAnyH_ready (rs := [13]) (by kernel_rfl) (by simp) (AllReadyH.cons rfl (fun K hK => ?_) AllReadyH.nil)
          go_simp
          refine hK _ _ trivial (fun hS => ?_)
          clear hK K
          try simp only [List.getElem_toArray, List.getElem_cons_zero, List.getElem_cons_succ, Act.put, List.setIfInBounds_toArray, List.set_cons_zero, List.set_cons_succ]
          refine wpAnyH_ready (rs := [14]) (by kernel_rfl) (by simp) (AllReadyH.cons rfl (fun K hK => ?_) AllReadyH.nil)
          go_simp
          refine hK _ _ trivial (fun hS => ?_)
          clear hK K
          try simp only [List.getElem_toArray, List.getElem_cons_zero, List.getElem_cons_succ, Act.put, List.setIfInBounds_toArray, List.set_cons_zero, List.set_cons_succ]
          refine wpAnyH_ready (rs := [15]) (by kernel_rfl) (by simp) (AllReadyH.cons rfl (fun K hK => ?_) AllReadyH.nil)
          go_simp
          refine hK _ _ trivial (fun hS => ?_)
          clear hK K
          try simp only [List.getElem_toArray, List.getElem_cons_zero, List.getElem_cons_succ, Act.put, List.setIfInBounds_toArray, List.set_cons_zero, List.set_cons_succ]
          refine wpAnyH_done (by kernel_rfl) ?_ _
          go_ways
          go_wp2_with fail
          go_ret
          exact ⟨rfl, hfin⟩
        · go_simp
          have hb7 := hb6.alloc hb6.size (.cells #[.int .i64 a, .int .i64 b, .slice A6 l.length c6] 60)
          have hn7 := news_new w6 [.int .i64 a, .int .i64 b, .slice A6 l.length c6] 60
          have hd7 : Dat (w6.alloc (.cells #[.int .i64 a, .int .i64 b, .slice A6 l.length c6] 60)) (fun b => w_.heap.size ≤ b) A6 c6 l := hd6.keep (fun b _ hl => heap_alloc_old w6 _ hl) (by simp) (fun _ q _ => q)
          refine hK _ _ trivial (fun hS => ?_)
          clear hK K hd6 hb6
          rw [show [Value.int .i64 a, Value.int .i64 b, Value.slice A6 l.length c6].toArray = #[Value.int .i64 a, Value.int .i64 b, Value.slice A6 l.length c6] from rfl] at hn7
          generalize (w6.alloc (.cells #[.int .i64 a, .int .i64 b, .slice A6 l.length c6] 60)) = w7 at *
          have cR7 := hX _ hb7
          try simp only [List.getElem_toArray, List.getElem_cons_zero, List.getElem_cons_succ, Act.put, List.setIfInBounds_toArray, List.set_cons_zero, List.set_cons_succ]
          refine wpAnyH_ready (rs := [4]) (by kernel_rfl) (by simp) (AllReadyH.cons rfl (fun K hK => ?_) AllReadyH.nil)
          go_simp
          refine hK _ _ trivial (fun hS => ?_)
          clear hK K
          try simp only [List.getElem_toArray, List.getElem_cons_zero, List.getElem_cons_succ, Act.put, List.setIfInBounds_toArray, List.set_cons_zero, List.set_cons_succ]
          refine wpAnyH_ready (rs := [12]) (by kernel_rfl) (by simp) (AllReadyH.cons rfl (fun K hK => ?_) AllReadyH.nil)
          have hr7 := hN.row.keep (w' := w7) (fun e => hb7.block _ (hN.lt _ (hN.own e)))
          refine step_append_row _ (by rfl) (.tmp 21) (.tmp 28) 49 (by rfl) 60 i0 _ 3 40 Tryz.underlying49 hi hz hz1 hz2 rfl v g P.length (rpV P) HV.out hr7 ⟨w6.heap.size, 0, none⟩ 1 1 [.int .i64 a, .int .i64 b, .slice A6 l.length c6] (by rfl) rfl hn7 (fun u hu => by simp at hu; rcases hu with rfl | rfl | rfl <;> rfl) (by unfold maxLen; omega) (by omega) (by decide) ?_
          intro v8 w8 g8 hr8 hgr8 hv8 hg8 hlt8
          obtain ⟨cap8, rfl⟩ := hr8.form3 hv8
          have hR8 : Bk w8 R 51 [v] := (hgr8.block R (Nat.lt_of_lt_of_le (hN.lt R hN.hR) hb7.size) (hN.gne hN.bk (by decide))).trans ((hb7.block R (hN.lt R hN.hR)).trans hN.bk)
          have cR8 : w8.cell? ⟨R, 0, none⟩ = some v := by have := hR8.cell 0; simpa using this
          have fR8 := hR8.frozen 0
          have hfin := hN.pushed hn ha hb (by omega) hsg hb7 hgr8 hr8 hg8 hlt8 hd7 hR8
          refine hK _ _ trivial (fun hS => ?_)
          clear hK K hX
          try simp only [List.getElem_toArray, List.getElem_cons_zero, List.getElem_cons_succ, Act.put, List.setIfInBounds_toArray, List.set_cons_zero, List.set_cons_succ]
          refine wpAnyH_ready (rs := [13]) (by kernel_rfl) (by simp) (AllReadyH.cons rfl (fun K hK => ?_) AllReadyH.nil)
          go_simp
          refine hK _ _ trivial (fun hS => ?_)
          clear hK K
          try simp only [List.getElem_toArray, List.getElem_cons_zero, List.getElem_cons_succ, Act.put, List.setIfInBounds_toArray, List.set_cons_zero, List.set_cons_succ]
          refine wpAnyH_ready (rs := [14]) (by kernel_rfl) (by simp) (AllReadyH.cons rfl (fun K hK => ?_) AllReadyH.nil)
          go_simp
          refine hK _ _ trivial (fun hS => ?_)
          clear hK K
          try simp only [List.getElem_toArray, List.getElem_cons_zero, List.getElem_cons_succ, Act.put, List.setIfInBounds_toArray, List.set_cons_zero, List.set_cons_succ]
          refine wpAnyH_ready (rs := [15]) (by kernel_rfl) (by simp) (AllReadyH.cons rfl (fun K hK => ?_) AllReadyH.nil)
          go_simp
          refine hK _ _ trivial (fun hS => ?_)
          clear hK K
          try simp only [List.getElem_toArray, List.getElem_cons_zero, List.getElem_cons_succ, Act.put, List.setIfInBounds_toArray, List.set_cons_zero, List.set_cons_succ]
          refine wpAnyH_done (by kernel_rfl) ?_ _
          go_ways
          go_wp2_with fail
          go_ret
          exact ⟨rfl, hfin⟩
end Go.Proofs.YtenkhbiikecegaaGreat

