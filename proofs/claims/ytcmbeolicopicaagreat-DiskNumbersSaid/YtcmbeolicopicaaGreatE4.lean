/- disk: the document's Used, List, Read. -/
import Derived.Test.YtcmbeolicopicaaGreatZ9
namespace Go.Proofs.YtcmbeolicopicaaGreat
open Go.RowKit Go.Maps Go.ChangeMaps
set_option linter.unusedVariables false
set_option linter.unusedSectionVars false
set_option linter.unusedSimpArgs false
set_option maxRecDepth 100000

section
variable {P : Program} {w : World}
theorem run_append_ownA {t ty : TypeId} (base : Nat)
    (e : TypeId) (i : TypeInfo) (z : Value) (size bytes : Nat) (ht : P.underlying t = some (.slice e)) (hi : P.info? e = some i) (hz : i.zero = some z)
    (hsize : i.size = size) (hby : i.bytes = bytes) (hzs : z.cells.size = size) (hsz : 0 < size)
    (v : Value) (n : Nat) (xs : List Value) (hown : w.ownsRow base e size v n xs)
    (A : Option Addr) (m c : Nat) (news : List Value) (hl : news.length = m * size) (hnone : A = none → m = 0 ∧ c = 0) (hnews : ∀ ad, A = some ad → ∀ j u, news[j]? = some u → w.cell? (ad.add j) = some u) (h1 : ∀ u ∈ news, u.oneCell' = true)
    (h63 : n + m ≤ maxLen) (hbytes : (n + m) * bytes ≤ 140737488355328) (hbase : base ≤ w.heap.size) :
    ∃ v' w', (Builtin.append_ #[t, t] ty #[v, .slice A m c]).run P w = .ok v' w' ∧ w'.ownsRow base e size v' (n + m) (xs ++ news) ∧ w.grownBy w' v.ownBlock := by
  cases A with
  | some ad =>
    obtain ⟨v', w', hr, h2, h3, _⟩ := run_append_own (P := P) w base t ty e i z size bytes ht hi hz hsize hby hzs hsz v n xs hown ad m c news hl (hnews ad rfl) h1 h63 hbytes hbase
    exact ⟨v', w', hr, h2, h3⟩
  | none =>
    obtain ⟨rfl, rfl⟩ := hnone rfl
    have hn : news = [] := List.eq_nil_of_length_eq_zero (by simpa using hl)
    subst hn
    exact ⟨v, w, run_append_owned_none (P := P) w base t ty e i size ht hi v n xs hown, by simpa using hown, ⟨rfl, rfl, rfl, Nat.le_refl _, fun _ _ _ => rfl⟩⟩
theorem wpList_append_ownA {ops : Array Oper} {rest : List Oper} {o : Oper} {a : Act} {Q : Exit → Act → World → Prop} (hgd : o.guard = none) (s x : Operand) (t : TypeId)
    (ho : o.op = .call { callee := .builtin .append, args := #[s, x], argTypes := #[t, t] }) (base : Nat)
    (e : TypeId) (i : TypeInfo) (z : Value) (size bytes : Nat) (ht : P.underlying t = some (.slice e)) (hi : P.info? e = some i) (hz : i.zero = some z)
    (hsize : i.size = size) (hby : i.bytes = bytes) (hzs : z.cells.size = size) (hsz : 0 < size)
    (v : Value) (n : Nat) (xs : List Value) (hs : a.eval s = v) (hown : w.ownsRow base e size v n xs)
    (A : Option Addr) (m c : Nat) (news : List Value) (hx : a.eval x = .slice A m c) (hl : news.length = m * size) (hnone : A = none → m = 0 ∧ c = 0) (hnews : ∀ ad, A = some ad → ∀ j u, news[j]? = some u → w.cell? (ad.add j) = some u) (h1 : ∀ u ∈ news, u.oneCell' = true)
    (h63 : n + m ≤ maxLen) (hbytes : (n + m) * bytes ≤ 140737488355328) (hbase : base ≤ w.heap.size)
    (h : ∀ v' w', w'.ownsRow base e size v' (n + m) (xs ++ news) → w.grownBy w' v.ownBlock → wpList P ops Q rest (a.put o.dst v') w') : wpList P ops Q (o :: rest) a w := by
  refine wpList_plain hgd fun K hK => ?_
  obtain ⟨v', w', hr, h2, h3⟩ := run_append_ownA (P := P) (w := w) (t := t) (ty := o.type) base e i z size bytes ht hi hz hsize hby hzs hsz v n xs hown A m c news hl hnone hnews h1 h63 hbytes hbase
  unfold Oper.wp execOp
  simp only [ho, resolve, invoke, builtin, Sem.run_bind, Sem.run_pure, Result.andThen_ok, List.map_toArray, List.map_cons, List.map_nil, hs, hx, hr]
  exact hK _ _ (h v' w' h2 h3)
theorem step_append_ownA {ops : Array Oper} {o : Oper} {a : Act} {K : Act → World → Prop} {Q : Exit → Act → World → Prop} {E : Prop} (hgd : o.guard = none) (s x : Operand) (t : TypeId)
    (ho : o.op = .call { callee := .builtin .append, args := #[s, x], argTypes := #[t, t] }) (base : Nat)
    (e : TypeId) (i : TypeInfo) (z : Value) (size bytes : Nat) (ht : P.underlying t = some (.slice e)) (hi : P.info? e = some i) (hz : i.zero = some z)
    (hsize : i.size = size) (hby : i.bytes = bytes) (hzs : z.cells.size = size) (hsz : 0 < size)
    (v : Value) (n : Nat) (xs : List Value) (hs : a.eval s = v) (hown : w.ownsRow base e size v n xs)
    (A : Option Addr) (m c : Nat) (news : List Value) (hx : a.eval x = .slice A m c) (hl : news.length = m * size) (hnone : A = none → m = 0 ∧ c = 0) (hnews : ∀ ad, A = some ad → ∀ j u, news[j]? = some u → w.cell? (ad.add j) = some u) (h1 : ∀ u ∈ news, u.oneCell' = true)
    (h63 : n + m ≤ maxLen) (hbytes : (n + m) * bytes ≤ 140737488355328) (hbase : base ≤ w.heap.size)
    (h : ∀ v' w', w'.ownsRow base e size v' (n + m) (xs ++ news) → w.grownBy w' v.ownBlock → K (a.put o.dst v') w') :
    if Region.wanted o (yielded ops a.tmps) = true then Oper.wp P o a w K Q else E := by
  have hw : Region.wanted o (yielded ops a.tmps) = true := by simp [Region.wanted, hgd]
  rw [if_pos hw]
  obtain ⟨v', w', hr, h2, h3⟩ := run_append_ownA (P := P) (w := w) (t := t) (ty := o.type) base e i z size bytes ht hi hz hsize hby hzs hsz v n xs hown A m c news hl hnone hnews h1 h63 hbytes hbase
  unfold Oper.wp execOp
  simp only [ho, resolve, invoke, builtin, Sem.run_bind, Sem.run_pure, Result.andThen_ok, List.map_toArray, List.map_cons, List.map_nil, hs, hx, hr]
  exact h v' w' h2 h3
end
theorem infoU8 : (Tryz.prog.info? 5).map (fun i => (i.zero, i.size, i.bytes)) = some (some (.int .u8 0), 1, 1) := by kernel_rfl
theorem infoS : (Tryz.prog.info? 9).map (fun i => (i.zero, i.size, i.bytes)) = some (some (.string ⟨#[]⟩), 1, 16) := by kernel_rfl
theorem infoF : (Tryz.prog.info? 67).map (fun i => (i.zero, i.size, i.bytes)) = some (some (.agg #[.string ⟨#[]⟩, .slice none 0 0, .int .i64 0]), 3, 48) := by kernel_rfl
theorem owns_new0 (w : World) (base : Nat) (e : TypeId) (size : Nat) (h : base ≤ w.heap.size) : (w.alloc (.cells #[] e)).ownsRow base e size (.slice (some ⟨w.heap.size, 0, none⟩) 0 0) 0 [] :=
  ⟨by simp, .inr ⟨w.heap.size, 0, #[], rfl, h, heap_alloc_new w _, Nat.le_refl _, Nat.zero_le _, by simp, by simp⟩⟩
theorem grown_below {w w' : World} {n : Nat} {row : Option Nat} (h : w.grownBy w' row) (hr : ∀ g, row = some g → n ≤ g) (hn : n ≤ w.heap.size) : Below n w w' :=
  ⟨h.os, h.tape, h.output, h.size, fun k hk => h.block k (Nat.lt_of_lt_of_le hk hn) (fun e => by have := hr k e.symm; omega)⟩
theorem used_take {L : List FE} {k : Nat} {f : FE} (h : L[k]? = some f) : usedF (L.take (k + 1)) = usedF (L.take k) + f.l.length := by
  rw [List.take_add_one, h]
  simp [usedF]
theorem used_bound {L : List FE} (h : ∀ f ∈ L, f.l.length ≤ 8388608) : usedF L ≤ 8388608 * L.length := by
  induction L with
  | nil => simp [usedF]
  | cons f L ih =>
    have h1 := ih (fun g hg => h g (List.mem_cons_of_mem _ hg))
    have h2 := h f (by simp)
    unfold usedF at *
    simp only [List.map_cons, List.sum_cons, List.length_cons]
    omega
section
variable {B : Nat → Prop} {X n : Nat} {room : Int} {P : List RF} {v : Value} {w : World} (h : RD B X room P n v w)
include h
theorem RD.used_le (k : Nat) : usedF ((P.map RF.fe).take k) ≤ 8388608 * k := by
  refine Nat.le_trans (used_bound fun f hf => ?_) (Nat.mul_le_mul_left _ (by simp; omega))
  obtain ⟨x, hx, rfl⟩ := List.mem_map.1 (List.mem_of_mem_take hf)
  exact (h.len x hx).1
set_option maxHeartbeats 1000000 in
theorem rused_any : Calls Tryz.prog 40 #[.pointer (some ⟨X, 0, none⟩)] w fun e w' => e = .returned (.int .i64 (usedF (P.map RF.fe))) ∧ w' = w := by
  have hmax : P.length ≤ 1000000 := Nat.le_trans h.few h.nn
  have cX := h.c0
  obtain ⟨A, c, rfl, hl, hm, _, _⟩ := h.form
  have H := Lib.hid h
  clear h
  go_enter Tryz.func40, Tryz.ntmps40
  go_wp2_with fail
  go_loopw [3, 4] (fun o i wr => ∃ k : Nat, k ≤ P.length ∧ i = .int .i64 k ∧ o = .int .i64 (usedF ((P.map RF.fe).take k)) ∧ wr = w) (fun _ i _ => P.length - (intOf i).toNat)
  case atStart => exact ⟨0, Nat.zero_le _, rfl, rfl, rfl⟩
  case round =>
    obtain ⟨k, hk, rfl, rfl, rfl⟩ := hrel
    by_cases hlt : k < P.length
    · have d1 : decide ((k : Int) < (P.length : Int)) = true := decide_eq_true (by omega)
      obtain ⟨f, hf⟩ : ∃ f, P[k]? = some f := ⟨_, List.getElem?_eq_getElem hlt⟩
      obtain ⟨g, c', hv, _, _, cb, _⟩ := H.out.at_ hf
      injection hv with hv1 _ hv2
      subst hv1 hv2
      have hle := H.out.used_le k
      have hfl := (H.out.len f (List.mem_of_getElem? hf)).1
      have hsu : Hid (usedF ((P.map RF.fe).take (k + 1)) = usedF ((P.map RF.fe).take k) + f.l.length) := Lib.hid (used_take (fe_at hf))
      unfold RF.dv at cb
      clear hf
      go_wp2_with fail
      go_roundw
      case rel => exact ⟨k + 1, by omega, by go_num, by rw [hsu.out]; go_num, trivial⟩
      case measure => simp [intOf]; omega
    · have d1 : decide ((k : Int) < (P.length : Int)) = false := decide_eq_false (by omega)
      obtain rfl : k = P.length := by omega
      rw [List.take_of_length_le (by simp)]
      go_wp2_with fail
      go_ret
      exact ⟨rfl, rfl⟩
end
theorem RD.cs {B : Nat → Prop} {X n g l c : Nat} {room : Int} {P : List RF} {w : World} (h : RD B X room P n (.slice (some ⟨g, 0, none⟩) l c) w) {i : Nat} {f : RF} (hi : P[i]? = some f) :
    w.cell? ⟨g, i * 3, none⟩ = some (nmV f.s) ∧ w.cell? ⟨g, i * 3 + 1, none⟩ = some f.dv ∧ w.cell? ⟨g, i * 3 + 2, none⟩ = some (.int .i64 f.n) := by
  obtain ⟨g', c', hv, _, c0, c1, c2⟩ := h.at_ hi
  injection hv with hv
  injection hv with hv
  injection hv with hv
  subst hv
  exact ⟨c0, c1, c2⟩
section
variable {B : Nat → Prop} {X n : Nat} {room : Int} {P : List RF} {v : Value} {w : World} (h : RD B X room P n v w)
include h
theorem place_in {s : Nm} {f : RF} (e : P[plc (P.map RF.fe) s]? = some f) (hs : f.s = s) : Calls Tryz.prog 24 #[.pointer (some ⟨X, 0, none⟩), nmV s] w fun e w' => e = .returned (.tuple #[.int .i64 (plc (P.map RF.fe) s), .bool true]) ∧ ∃ q, w' = w.drewN q := by
  have hp := place_any h s
  rw [fd_plc h.srt s, fe_at e, show (Option.filter (fun g => decide (g.s = s)) (some f.fe)).isSome = true by simp [Option.filter, RF.fe, hs]] at hp
  exact hp
theorem place_out {s : Nm} (e : fd (P.map RF.fe) s = none) : Calls Tryz.prog 24 #[.pointer (some ⟨X, 0, none⟩), nmV s] w fun e w' => e = .returned (.tuple #[.int .i64 (plc (P.map RF.fe) s), .bool false]) ∧ ∃ q, w' = w.drewN q := by
  have hp := place_any h s
  rw [e] at hp
  exact hp
set_option maxHeartbeats 1000000 in
theorem rread_out (s : Nm) (e : fd (P.map RF.fe) s = none) : Calls Tryz.prog 9 #[.pointer (some ⟨X, 0, none⟩), nmV s] w fun e w' => e = .returned (.tuple #[.slice none 0 0, .int .i64 6]) ∧ ∃ q, w' = w.drewN q := by
  have hp := place_out h e
  clear h e
  unfold nmV at *
  go_enter Tryz.func9, Tryz.ntmps9
  go_wp2_with fail
  (with_reducible refine hp.mono ?_)
  rintro _ _ ⟨rfl, q, rfl⟩
  clear hp
  go_wp2_with fail
  go_ret2
  exact ⟨rfl, _, rfl⟩
set_option maxHeartbeats 1000000 in
theorem rread_in (s : Nm) {f : RF} (e : P[plc (P.map RF.fe) s]? = some f) (hs : f.s = s) : Calls Tryz.prog 9 #[.pointer (some ⟨X, 0, none⟩), nmV s] w fun e w' => ∃ A c, e = .returned (.tuple #[.slice A f.l.length c, .int .i64 0]) ∧ Dat w' (fun b => w.heap.size ≤ b) A c f.l ∧ Below w.heap.size w w' := by
  have hmax : P.length ≤ 1000000 := Nat.le_trans h.few h.nn
  have hpl : plc (P.map RF.fe) s < P.length := (List.getElem?_eq_some_iff.1 e).1
  obtain ⟨i0, hi, hz0, hz1, hz2⟩ := info_parts infoU8
  have hp := place_in h e hs
  obtain ⟨g, c', rfl, _, _, _, _⟩ := h.at_ e
  have hfl := (h.len f (List.mem_of_getElem? e)).1
  have H := Lib.hid h
  have HE := Lib.hid e
  clear h e hs
  unfold nmV at *
  go_enter Tryz.func9, Tryz.ntmps9
  go_wp2_with fail
  (with_reducible refine hp.mono ?_)
  rintro _ _ ⟨rfl, q, rfl⟩
  clear hp
  have hb1 : Below w.heap.size w ((w.drewN q).alloc (.cells #[] 5)) := (below_drewN (Below.refl _ _) q).alloc (by show w.heap.size ≤ w.heap.size; exact Nat.le_refl _) _
  have H1 := H.out.below hb1
  have hbs : (w.drewN q).heap.size = w.heap.size := rfl
  have cX := H1.c0
  have cb := (H1.cs HE.out).2.1
  have hd := H1.dat f (List.mem_of_getElem? HE.out)
  have hown := owns_new0 (w.drewN q) w.heap.size 5 1 (Nat.le_refl _)
  unfold RF.dv at cb
  obtain ⟨fs, fA, fc, fl, fn⟩ := f
  dsimp only at *
  obtain ⟨hrd, _, _⟩ := hd.rd
  rw [hbs] at hown
  clear H H1 hd hbs
  go_wp2_with (at_builtin; refine wpList_append_ownA (by rfl) (.tmp 16) (.tmp 24) 29 (by rfl) w.heap.size 5 i0 _ 1 1 Tryz.underlying29 hi hz0 hz1 hz2 rfl (by decide) _ 0 [] (by rfl) hown fA fl.length fc (u8s fl) (by rfl) (by simp) (fun e => by have := hrd.nonone e; rwa [u8s_len] at this) hrd.cells (u8s_one fl) (by unfold maxLen; omega) (by omega) hb1.size ?_; intro v4 W4 hr4 hg4)
  rw [Nat.zero_add, List.nil_append] at hr4
  obtain ⟨A4, c4, rfl, hd4⟩ := own_dat hr4
  go_ret2
  exact ⟨A4, c4, rfl, hd4, hb1.trans (grown_below hg4 (fun g e => Nat.le_of_eq (Option.some.inj e)) hb1.size)⟩
set_option maxHeartbeats 1000000 in
theorem rlist_any : Calls Tryz.prog 39 #[.pointer (some ⟨X, 0, none⟩)] w fun e w' => ∃ u, e = .returned u ∧ w'.ownsRow w.heap.size 9 1 u P.length (P.map fun f => nmV f.s) ∧ Below w.heap.size w w' := by
  have hmax : P.length ≤ 1000000 := Nat.le_trans h.few h.nn
  obtain ⟨i0, hi, hz0, hz1, hz2⟩ := info_parts infoS
  obtain ⟨A, c, rfl, hl, hm, _, _⟩ := h.form
  have hXl := h.lt X h.hX
  have H := Lib.hid h
  clear h
  go_enter Tryz.func39, Tryz.ntmps39
  go_wp2_with fail
  go_loopw [3, 4] (fun o i wr => ∃ k : Nat, k ≤ P.length ∧ i = .int .i64 k ∧ wr.ownsRow w.heap.size 9 1 o k ((P.take k).map fun f => nmV f.s) ∧ Below w.heap.size w wr) (fun _ i _ => P.length - (intOf i).toNat)
  case atStart => exact ⟨0, Nat.zero_le _, rfl, ⟨by simp, .inl ⟨rfl, rfl⟩⟩, Below.refl _ _⟩
  case round =>
    obtain ⟨k, hk, rfl, hrow, hb⟩ := hrel
    have H1 := H.out.below hb
    have cX := H1.c0
    by_cases hlt : k < P.length
    · have d1 : decide ((k : Int) < (P.length : Int)) = true := decide_eq_true (by omega)
      obtain ⟨f, hf⟩ : ∃ f, P[k]? = some f := ⟨_, List.getElem?_eq_getElem hlt⟩
      obtain ⟨g, c', hv, _, ca, _, _⟩ := H1.at_ hf
      injection hv with hv1 _ hv2
      subst hv1 hv2
      have hstep : Hid ((P.take (k + 1)).map (fun f => nmV f.s) = (P.take k).map (fun f => nmV f.s) ++ [nmV f.s]) := Lib.hid (by rw [List.take_add_one, hf]; simp)
      have hb2 : Below wr.heap.size wr (wr.alloc (.cells #[nmV f.s] 9)) := (Below.refl _ _).alloc (Nat.le_refl _) _
      have hrow2 := owns_keep (w' := wr.alloc (.cells #[nmV f.s] 9)) hrow (fun g e => hb2.block g (owns_lt hrow g e))
      have hge := owns_block hrow
      have hb3 := hb.trans (hb2.mono hb.size)
      clear hf H1 hrow
      unfold nmV at *
      go_wp2_with (at_builtin; refine wpList_append_own _ (by rfl) (.tmp 14) (.tmp 23) 56 (by rfl) w.heap.size 9 i0 _ 1 16 Tryz.underlying56 hi hz0 hz1 hz2 rfl (by decide) _ k _ (by rfl) hrow2 ⟨wr.heap.size, 0, none⟩ 1 1 [.string ⟨f.s.toArray⟩] (by rfl) (by rfl) (news_new wr [.string ⟨f.s.toArray⟩] _) (fun u hu => by simp at hu; subst hu; rfl) (by unfold maxLen; omega) (by omega) hb3.size ?_; intro v4 W4 hr4 hg4 _)
      go_roundw
      case rel => exact ⟨k + 1, by omega, by go_num, by rw [hstep.out]; exact hr4, hb3.trans (grown_below hg4 (fun g e => (hge g e).1) hb3.size)⟩
      case measure => simp [intOf]; omega
    · have d1 : decide ((k : Int) < (P.length : Int)) = false := decide_eq_false (by omega)
      obtain rfl : k = P.length := by omega
      rw [List.take_length] at hrow
      go_wp2_with fail
      go_ret
      exact ⟨_, rfl, hrow, hb⟩
end
end Go.Proofs.YtcmbeolicopicaaGreat

