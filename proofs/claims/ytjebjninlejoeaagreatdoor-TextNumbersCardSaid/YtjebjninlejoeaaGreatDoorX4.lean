/- text, the walk: a line's tokens. -/
import Derived.Test.YtjebjninlejoeaaGreatDoorApp
import Derived.Shelf.Strings.SlTrimAscii
import Derived.Deep.RegionHeld
namespace Go.Proofs.YtjebjninlejoeaaGreatDoor
open Go.RowKit Go.Maps Go.ChangeMaps
set_option linter.unusedVariables false
set_option linter.unusedSimpArgs false
set_option linter.unusedSectionVars false
set_option maxRecDepth 100000

theorem idx_str (s : Nm) (k : Nat) (hk : k < s.length) (w : World) : (Instr.index 9 (.string ⟨s.toArray⟩) (.int .i64 (k : Int))).run Tryz.prog w = .ok (.int .u8 ((s[k].toNat : Nat) : Int)) w := by
  unfold Instr.index
  have h1 : (0 : Int) ≤ (k : Int) := by omega
  have h2 : k < (⟨s.toArray⟩ : ByteArray).size := by show k < s.toArray.size; simpa using hk
  go_simp
  first
    | rfl
    | (rw [dif_pos h2]; rfl)
    | (simp only [h2]; rfl)
theorem toks_okA : ∀ (s cur : Nm) (l : List Nm), cur.all wordC = true → cur.length + s.length ≤ 1000000000 → toksA cur s = some l → ∀ t ∈ l, TokOk t
  | [], cur, l, hc, hn, h, t, ht => by
    simp only [toksA, flush] at h
    split at h
    · injection h with h; subst h; cases ht
    · next h0 => simp at h; subst h; simp at ht; subst ht; exact ⟨h0, by simpa using hn, .inl hc⟩
  | d :: s, cur, l, hc, hn, h, t, ht => by
    simp only [List.length_cons] at hn
    have fl : ∀ r : Option (List Nm), flush cur r = some l → (∀ l', r = some l' → ∀ t ∈ l', TokOk t) → TokOk t := by
      intro r hr hk
      unfold flush at hr
      split at hr
      · exact hk l hr t ht
      · next h0 =>
        obtain ⟨l', h1, h2⟩ := Option.map_eq_some_iff.1 hr
        subst h2
        rcases List.mem_cons.1 ht with rfl | ht
        · exact ⟨h0, by omega, .inl hc⟩
        · exact hk l' h1 t ht
    simp only [toksA] at h
    split at h
    · exact fl _ h (fun l' e => by injection e with e; subst e; intro t ht; cases ht)
    · split at h
      · next hw => exact toks_okA s _ l (by rw [List.all_append, hc]; simp [hw]) (by simp; omega) h t ht
      · split at h
        · exact fl _ h fun l' e => toks_okA s [] l' rfl (by simp; omega) e
        · split at h
          · next hsg =>
            refine fl _ h fun l' e => ?_
            obtain ⟨l2, h1, h2⟩ := Option.map_eq_some_iff.1 e
            subst h2
            intro t ht
            rcases List.mem_cons.1 ht with rfl | ht
            · exact ⟨by simp, by simp, .inr ⟨d, rfl, hsg⟩⟩
            · exact toks_okA s [] l2 rfl (by simp; omega) h1 t ht
          · cases h
theorem toks_ok {s : Nm} {l : List Nm} (hn : s.length ≤ 1000000000) (h : toks s = some l) : ∀ t ∈ l, TokOk t := toks_okA s [] l rfl (by simpa using hn) h
theorem toks_lenA : ∀ (s cur : Nm) (l : List Nm), toksA cur s = some l → l.length ≤ (if cur = [] then 0 else 1) + s.length
  | [], cur, l, h => by
    simp only [toksA, flush] at h
    split at h
    · injection h with h; subst h; simp
    · next h0 => simp at h; subst h; simp [h0]
  | d :: s, cur, l, h => by
    have fl : ∀ r : Option (List Nm), flush cur r = some l → (∀ l', r = some l' → l'.length ≤ 1 + s.length) → l.length ≤ (if cur = [] then 0 else 1) + (d :: s).length := by
      intro r hr hk
      unfold flush at hr
      split at hr
      · next h0 => have := hk l hr; simp [h0]; omega
      · next h0 =>
        obtain ⟨l', h1, h2⟩ := Option.map_eq_some_iff.1 hr
        subst h2
        have := hk l' h1
        simp [h0]; omega
    have nl : ∀ l', toksA [] s = some l' → l'.length ≤ s.length := fun l' e => by have := toks_lenA s [] l' e; simpa using this
    simp only [toksA] at h
    split at h
    · exact fl _ h (fun l' e => by injection e with e; subst e; simp)
    · split at h
      · have := toks_lenA s _ l h
        simp at this ⊢
        split <;> omega
      · split at h
        · exact fl _ h fun l' e => by have := nl l' e; omega
        · split at h
          · refine fl _ h fun l' e => ?_
            obtain ⟨l2, h1, h2⟩ := Option.map_eq_some_iff.1 e
            subst h2
            have := nl l2 h1
            simp; omega
          · cases h
/-- A row of tokens while it is made, since w. -/
structure SpI (w : World) (N : Nat) (n : Int) (acc : List Nm) (v : Value) (W : World) : Prop where
  bk : Bk W N 121 [v, .int .i64 n]
  own : W.ownsRow (N + 1) 9 1 v acc.length (acc.map nmV)
  low : Below w.heap.size w W
  le : w.heap.size ≤ N
theorem SpI.below {w : World} {N : Nat} {n : Int} {acc : List Nm} {v : Value} {W W' : World} (h : SpI w N n acc v W) (hb : Below W.heap.size W W') : SpI w N n acc v W' :=
  ⟨h.bk.below hb h.bk.lt, owns_keep h.own (fun g e => hb.block g (owns_lt h.own g e)), h.low.trans (hb.mono h.low.size), h.le⟩
theorem SpI.drew {w : World} {N : Nat} {n : Int} {acc : List Nm} {v : Value} {W : World} (h : SpI w N n acc v W) : SpI w N n acc v W.drew := h.below (Below.refl _ _).drew
theorem SpI.row {w : World} {N : Nat} {n : Int} {acc : List Nm} {v : Value} {W : World} (h : SpI w N n acc v W) (hok : ∀ t ∈ acc, TokOk t) (hl : acc.length ≤ 1000000000) : RowAt W N (fun b => N < b) acc n := by
  obtain ⟨A, c, rfl⟩ := owns_form h.own
  refine ⟨⟨A, c, h.bk, ?_, fun hx => ?_⟩, Nat.lt_irrefl _, hok, hl⟩
  · rcases h.own.2 with ⟨e, e2⟩ | ⟨g, cap, cur, e, hb, hg, hnc, _⟩
    · omega
    · injection e with e1 e2 e3; subst e3; exact hnc
  · rcases h.own.2 with ⟨e, e2⟩ | ⟨g, cap, cur, e, hb, hg, hnc, hcm, hcs, ht⟩
    · exact absurd (List.eq_nil_of_length_eq_zero e2) hx
    · injection e with e1 e2 e3
      refine ⟨g, 0, e1, Nat.lt_of_succ_le hb, fun j t hj => ?_⟩
      have hc := World.ownsRow.cells (g := g) h.own (by subst e1; rfl) j (nmV t) (by rw [List.getElem?_map, hj]; rfl)
      have hadd : (⟨g, 0, none⟩ : Addr).add j = ⟨g, 0 + j, none⟩ := by unfold Addr.add; split <;> simp_all
      rw [hadd] at hc
      exact hc
def strLen : Value → Nat
  | .string s => s.size
  | _ => 0
theorem trim_any (s : Nm) (hs : s.length ≤ 1000000) (w : World) : Calls Tryz.prog 137 #[.string ⟨s.toArray⟩, .string ⟨#[32, 9, 13]⟩] w fun e w' => e = .returned (.string ⟨(Lib.trimS s blanks).toArray⟩) ∧ Below w.heap.size w w' := by
  have hz : (⟨s.toArray⟩ : ByteArray).size ≤ 9223372036854775807 := by show s.toArray.size ≤ _; simp; omega
  exact Go.Proofs.Any.strings_Trim_laid Tryz.lays160 (by kernel_rfl) ⟨s.toArray⟩ ⟨#[32, 9, 13]⟩ w hz (by decide) (Go.Proofs.ascii_of_all (by decide))
theorem trimL_any (s : Nm) (w : World) : Calls Tryz.prog 138 #[.string ⟨s.toArray⟩, .string ⟨#[32, 9, 13]⟩] w fun e w' => e = .returned (.string ⟨(Lib.trimLeftS s blanks).toArray⟩) ∧ Below w.heap.size w w' :=
  Go.Proofs.Any.strings_TrimLeft_laid Tryz.lays161 (by kernel_rfl) ⟨s.toArray⟩ ⟨#[32, 9, 13]⟩ w (by decide) (Go.Proofs.ascii_of_all (by decide))
theorem below_dn (w : World) (q : Nat) : Below w.heap.size w (w.drewN q) := by
  have := Lib.below_grow w.heap.size w (Nat.le_refl _) q #[]
  simpa using this
theorem wpAnyH_norm {P : Program} {md : Region.Mode} {ops : Array Oper} {Q : Exit → Act → World → Prop} {S : World → Prop} {fuel : Nat} {listed : Array Bool} {a : Act} {w : World} (fuel' : Nat) (listed' : Array Bool) (h1 : fuel = fuel') (h2 : listed = listed') (h : wpAnyH P md ops Q S fuel' listed' a w) : wpAnyH P md ops Q S fuel listed a w := by
  subst h1 h2
  exact h
theorem ext_take (l : List UInt8) (k : Nat) : ((⟨l.toArray⟩ : ByteArray).extract 0 k) = ⟨(l.take k).toArray⟩ := by
  apply Go.WideShapes.bytes_inj
  rw [Lib.extract_from_zero]
theorem ext_drop (l : List UInt8) (k : Nat) : ((⟨l.toArray⟩ : ByteArray).extract k (⟨l.toArray⟩ : ByteArray).size) = ⟨(l.drop k).toArray⟩ := by
  apply Go.WideShapes.bytes_inj
  rw [Lib.extract_to_end]
theorem info_str : ∃ i0 : TypeInfo, Tryz.prog.info? 9 = some i0 ∧ i0.zero = some (.string ⟨#[]⟩) ∧ i0.size = 1 ∧ i0.bytes = 16 := ⟨_, rfl, rfl, rfl, rfl⟩
/-- What a line's split tells. -/
def SplR (w : World) (n : Int) (r : Option (List Nm)) (x : Ending) (w' : World) : Prop :=
  match r with
  | some l => ∃ N, x = .returned (.pointer (some ⟨N, 0, none⟩)) ∧ RowAt w' N (fun b => N < b) l n ∧ w.heap.size ≤ N ∧ Below w.heap.size w w'
  | none => x = Thrown 120 n ∧ Below w.heap.size w w'
theorem prefix_split (s : Nm) (k : Nat) (hk : k ≤ s.length) (h1 : ∀ j (hj : j < k), ∀ c, s[j]? = some c → wordC c = true) (h2 : ∀ c, s[k]? = some c → wordC c = false) : (s.take k).all wordC = true ∧ Nw (s.drop k) := by
  constructor
  · rw [List.all_eq_true]
    intro c hc
    obtain ⟨j, hj, e⟩ := List.mem_iff_getElem.1 hc
    rw [List.length_take] at hj
    exact h1 j (by omega) c (by rw [← e, List.getElem_take, List.getElem?_eq_getElem])
  · intro c hc
    rw [List.head?_drop] at hc
    exact h2 c hc
set_option maxHeartbeats 1000000 in
theorem split_any (s : Nm) (hs : s.length ≤ 1000000) (n : Int) {B : Nat} (w : World) (hv : Tv B w) (hB : B ≤ w.heap.size) : Calls Tryz.prog 66 #[.string ⟨s.toArray⟩, .int .i64 n] w fun x w' => SplR w n (toks s) x w' := by
  obtain ⟨m, hm⟩ := hv.ml
  obtain ⟨t1, t2, t3, t4⟩ := toks_trim (Lib.cut s [35]).1
  obtain ⟨k1, k2, k3⟩ := toks_cut s
  have hcut := fun W (hW : W.cell? ⟨0, 0, none⟩ = some (.int .i64 m)) => Tryz.strings_Cut ⟨s.toArray⟩ ⟨#[35]⟩ m W (by show s.toArray.size < _; simp; omega) hW
  have hI0 : SpI w w.heap.size n [] (.slice none 0 0) (w.alloc (.cells #[.slice none 0 0, .int .i64 n] 121)) := ⟨Bk.new w 121 [.slice none 0 0, .int .i64 n], ⟨rfl, .inl ⟨rfl, rfl⟩⟩, (Below.refl _ _).alloc (Nat.le_refl _) _, Nat.le_refl _⟩
  have hm0 := (World.cell?_of_block (hI0.low.block 0 (by have := hv.lt; omega))).trans hm
  go_enter Tryz.func66, Tryz.ntmps66
  go_wp2_with fail
  refine (hcut _ hm0).mono ?_
  rintro _ w1 ⟨rfl, q, rfl⟩
  go_wp2_with fail
  have hI1 := hI0.below (below_dn _ q)
  refine (trim_any _ (by omega) _).mono ?_
  rintro _ w2 ⟨rfl, b2⟩
  have hI2 := hI1.below b2
  have htk : toks s = (toks (Lib.trimS (Lib.cut s [35]).1 blanks)).map ([] ++ ·) := by rw [t1, k1]; cases toks s <;> rfl
  have h35 : (35 : UInt8) ∉ Lib.trimS (Lib.cut s [35]).1 blanks := fun h => k2 (t2 _ h)
  have hln : (Lib.trimS (Lib.cut s [35]).1 blanks).length ≤ 1000000 := by omega
  generalize Lib.trimS (Lib.cut s [35]).1 blanks = s1 at *
  clear hI0 hI1 hm0 hcut t1 t2 t4 k1 k2 k3 b2
  go_wp2_with fail
  go_loopw [0] (fun v wr => ∃ (r : Nm) (acc : List Nm) (u : Value), v = .string ⟨r.toArray⟩ ∧ r.length ≤ 1000000 ∧ (35 : UInt8) ∉ r ∧ (∀ c, r.head? = some c → blankC c = false) ∧ toks s = (toks r).map (acc ++ ·) ∧ acc.length + r.length ≤ 1000000 ∧ (∀ t ∈ acc, TokOk t) ∧ SpI w w.heap.size n acc u wr) (fun v _ => strLen v)
  case atStart => exact ⟨s1, [], _, rfl, hln, h35, t3, htk, by simpa using hln, fun t ht => (by cases ht), hI2⟩
  case round =>
    clear hI2 htk h35 hln t3
    obtain ⟨r, acc, u, rfl, hrl, hr35, hrb, htk, hal, hok, hI⟩ := hrel
    cases r with
    | nil =>
      have hR : toks s = some acc := by rw [htk]; simp [toks, toksA, flush]
      go_wp2_with fail
      go_ret
      rw [hR]
      exact ⟨w.heap.size, rfl, hI.row hok (by simp at hal; omega), Nat.le_refl _, hI.low⟩
    | cons c r =>
      have HI := Lib.hid hI
      obtain ⟨W0, hW0⟩ : ∃ W0 : World, W0 = wr := ⟨_, rfl⟩
      rw [← hW0] at HI
      have hl0 : (c :: r).length = r.length + 1 := rfl
      clear hI
      go_wp2_with fail
      go_loopw [6] (fun i wx => ∃ k : Nat, k ≤ r.length + 1 ∧ i = .int .i64 k ∧ wx = W0 ∧ ∀ j (hj : j < k), ∀ d, (c :: r)[j]? = some d → wordC d = true) (fun i _ => r.length + 1 - (intOf i).toNat)
      case atStart => exact ⟨0, Nat.zero_le _, rfl, hW0.symm, fun j hj => by omega⟩
      case round =>
        clear hW0
        obtain ⟨k, hk, rfl, hwx, hwd⟩ := hrel
        subst hwx
        have hln : (((⟨(c :: r).toArray⟩ : ByteArray).size : Nat) : Int) = (r.length : Int) + 1 := by show (((c :: r).toArray.size : Nat) : Int) = _; simp
        by_cases hlt : k < r.length + 1
        · have d1 : decide ((k : Int) < (r.length : Int) + 1) = true := decide_eq_true (by omega)
          have hix := idx_str (c :: r) k hlt
          have hwo := word_any (c :: r)[k]
          by_cases hw : wordC (c :: r)[k] = true
          · rw [hw] at hwo
            generalize (((c :: r)[k].toNat : Nat) : Int) = cv at *
            go_wp2_with fail
            refine (hwo _).mono ?_
            rintro _ w3 ⟨rfl, rfl⟩
            go_wp2_with fail
            go_roundw
            case rel =>
              refine ⟨k + 1, by omega, by go_num, by first | rfl | trivial, fun j hj d hd => ?_⟩
              by_cases e : j = k
              · subst e; rw [List.getElem?_eq_getElem hlt] at hd; injection hd with hd; rw [← hd]; exact hw
              · exact hwd j (by omega) d hd
            case measure => simp [intOf]; omega
          · have hw : wordC (c :: r)[k] = false := by simpa using hw
            have hend : ∀ d, (c :: r)[k]? = some d → wordC d = false := fun d hd => by rw [List.getElem?_eq_getElem hlt] at hd; injection hd with hd; rw [← hd]; exact hw
            rw [hw] at hwo
            generalize (((c :: r)[k].toNat : Nat) : Int) = cv at *
            go_wp2_with fail
            refine (hwo _).mono ?_
            rintro _ w3 ⟨rfl, rfl⟩
            clear hix hwo d1
            obtain ⟨p1, p2⟩ := prefix_split (c :: r) k (by simp; omega) hwd hend
            by_cases hk0 : k = 0
            · skip
              subst hk0
              have hcw : wordC c = false := hend c rfl
              have hcb : blankC c = false := hrb c rfl
              have hc35 : c ≠ 35 := fun e => hr35 (by simp [e])
              have hix0 := idx_str (c :: r) 0 (by simp)
              have hib := Tryz.strings_IndexByte ⟨#[44, 91, 93, 43, 45, 58]⟩ ((c.toNat : Nat) : Int)
              have hcc : (((c.toNat : Nat) : Int)).toNat.toUInt8 = c := by simp
              rw [hcc] at hib
              have hsx := index_sign c
              simp only [List.getElem_cons_zero] at hix0
              by_cases hsg : signC c = true
              · have hT : toks (c :: r) = (toks ((c :: r).drop 1)).map ([(c :: r).take 1] ++ ·) := toks_one c r hsg
                have hTok : TokOk ((c :: r).take 1) := ⟨by simp, by simp, .inr ⟨c, rfl, hsg⟩⟩
                have d2 : decide (Lib.indexByte signs c < 0) = false := by rw [hsx, hsg]; rfl
                have d3 : decide (Lib.indexByte (⟨#[44, 91, 93, 43, 45, 58]⟩ : ByteArray).data.toList c < 0) = false := d2
                generalize Lib.indexByte (⟨#[44, 91, 93, 43, 45, 58]⟩ : ByteArray).data.toList c = ib at *
                go_wp2_with fail
                refine (hib _).mono ?_
                rintro _ w4 ⟨rfl, rfl⟩
                go_wp2_with fail
                have hz := HI.out.drew
                have c0 := hz.bk.cell 0
                simp only [List.getElem?_cons_zero] at c0
                have hq1 : (0 : Int) ≤ 1 := by omega
                have hq2 : 1 ≤ (r.length : Int) + 1 := by omega
                refine wp_region_held_drew (S := fun _ => True) (by kernel_rfl) trivial (fun hS => ?_)
                refine wpAnyH_norm 13 (Array.replicate 13 false) rfl rfl ?_
                refine wpAnyH_take (i := 0) (v := ?_) rfl (by kernel_rfl) (by kernel_rfl) (by kernel_rfl) (fun _ _ _ h => h) (Or.inl ⟨by rfl, ?_⟩) hS ?_
                rotate_left 1
                · intro w' hSw
                  go_simp <;> with_reducible rfl
                try simp only [List.getElem_toArray, List.getElem_cons_zero, List.getElem_cons_succ, Act.put, List.setIfInBounds_toArray, List.set_cons_zero, List.set_cons_succ]
                refine wpAnyH_take (i := 1) (v := ?_) rfl (by kernel_rfl) (by kernel_rfl) (by kernel_rfl) (fun _ _ _ h => h) (Or.inl ⟨by rfl, ?_⟩) hS ?_
                rotate_left 1
                · intro w' hSw
                  go_simp <;> with_reducible rfl
                try simp only [List.getElem_toArray, List.getElem_cons_zero, List.getElem_cons_succ, Act.put, List.setIfInBounds_toArray, List.set_cons_zero, List.set_cons_succ]
                refine wpAnyH_take (i := 2) (v := ?_) rfl (by kernel_rfl) (by kernel_rfl) (by kernel_rfl) (fun _ _ _ h => h) (Or.inl ⟨by rfl, ?_⟩) hS ?_
                rotate_left 1
                · intro w' hSw
                  go_simp <;> with_reducible rfl
                try simp only [List.getElem_toArray, List.getElem_cons_zero, List.getElem_cons_succ, Act.put, List.setIfInBounds_toArray, List.set_cons_zero, List.set_cons_succ]
                refine wpAnyH_take (i := 3) (v := ?_) rfl (by kernel_rfl) (by kernel_rfl) (by kernel_rfl) (fun _ _ _ h => h) (Or.inl ⟨by rfl, ?_⟩) hS ?_
                rotate_left 1
                · intro w' hSw
                  go_simp <;> with_reducible rfl
                try simp only [List.getElem_toArray, List.getElem_cons_zero, List.getElem_cons_succ, Act.put, List.setIfInBounds_toArray, List.set_cons_zero, List.set_cons_succ]
                refine wpAnyH_take (i := 5) (v := ?_) rfl (by kernel_rfl) (by kernel_rfl) (by kernel_rfl) (fun _ _ _ h => h) (Or.inl ⟨by rfl, ?_⟩) hS ?_
                rotate_left 1
                · intro w' hSw
                  go_simp <;> with_reducible rfl
                try simp only [List.getElem_toArray, List.getElem_cons_zero, List.getElem_cons_succ, Act.put, List.setIfInBounds_toArray, List.set_cons_zero, List.set_cons_succ]
                refine wpAnyH_take (i := 6) (v := ?_) rfl (by kernel_rfl) (by kernel_rfl) (by kernel_rfl) (fun _ _ _ h => h) (Or.inl ⟨by rfl, ?_⟩) hS ?_
                rotate_left 1
                · intro w' hSw
                  go_simp <;> with_reducible rfl
                try simp only [List.getElem_toArray, List.getElem_cons_zero, List.getElem_cons_succ, Act.put, List.setIfInBounds_toArray, List.set_cons_zero, List.set_cons_succ]
                refine wpAnyH_take (i := 7) (v := ?_) rfl (by kernel_rfl) (by kernel_rfl) (by kernel_rfl) (fun _ _ _ h => h) (Or.inl ⟨by rfl, ?_⟩) hS ?_
                rotate_left 1
                · intro w' hSw
                  go_simp <;> with_reducible rfl
                try simp only [List.getElem_toArray, List.getElem_cons_zero, List.getElem_cons_succ, Act.put, List.setIfInBounds_toArray, List.set_cons_zero, List.set_cons_succ]
                rw [ext_take]
                have htkl : ((c :: r).take 1).length = 1 := by rw [List.length_take]; simp only [List.length_cons]; omega
                have hdl : ((c :: r).drop 1).length = r.length + 1 - 1 := by simp
                have hdm : ∀ d, d ∈ (c :: r).drop 1 → d ∈ c :: r := fun d hd => List.mem_of_mem_drop hd
                have hxd : ((⟨(c :: r).toArray⟩ : ByteArray).extract 1 (r.length + 1)) = ⟨((c :: r).drop 1).toArray⟩ := by
                  have h1 := ext_drop (c :: r) 1
                  have h2 : (⟨(c :: r).toArray⟩ : ByteArray).size = r.length + 1 := by
                    show (c :: r).toArray.size = _
                    simp
                  rwa [h2] at h1
                generalize htok : (c :: r).take 1 = tok at *
                generalize hrest : (c :: r).drop 1 = rest at *
                obtain ⟨i0, hi0, hz0, hz1, hz2⟩ := info_str
                refine wpAnyH_norm 6 #[true, true, true, true, false, true, true, true, false, false, false, false, false] (by kernel_rfl) (by kernel_rfl) ?_
                have HZ := Lib.hid hz
                clear HI hz
                generalize (_ : World).drew = wz at *
                refine wpAnyH_ready (rs := [4, 8]) (by kernel_rfl) (by simp) (AllReadyH.cons rfl (fun K hK => ?_) (AllReadyH.cons rfl (fun K hK => ?_) AllReadyH.nil))
                · go_simp
                  refine hK _ _ trivial (fun hS => ?_)
                  clear hK K
                  try simp only [List.getElem_toArray, List.getElem_cons_zero, List.getElem_cons_succ, Act.put, List.setIfInBounds_toArray, List.set_cons_zero, List.set_cons_succ]
                  refine wpAnyH_ready (rs := [8]) (by kernel_rfl) (by simp) (AllReadyH.cons rfl (fun K hK => ?_) AllReadyH.nil)
                  go_simp
                  have HZ2 := Lib.hid (HZ.out.below ((Below.refl wz.heap.size wz).alloc (Nat.le_refl _) (.cells #[.string ⟨tok.toArray⟩] 9)))
                  have c0 := HZ2.out.bk.cell 0
                  simp only [List.getElem?_cons_zero] at c0
                  have hny := news_new wz [nmV tok] 9
                  have hny : ∀ j u, [nmV tok][j]? = some u → (wz.alloc (.cells #[.string ⟨tok.toArray⟩] 9)).cell? ((⟨wz.heap.size, 0, none⟩ : Addr).add j) = some u := hny
                  have HB := Lib.hid (show w.heap.size + 1 ≤ (wz.alloc (.cells #[.string ⟨tok.toArray⟩] 9)).heap.size by have := HZ.out.bk.lt; rw [World.size_alloc]; omega)
                  refine hK _ _ trivial (fun hS => ?_)
                  clear hK K HZ
                  generalize (wz.alloc (.cells #[.string ⟨tok.toArray⟩] 9)) = wy at *
                  try simp only [List.getElem_toArray, List.getElem_cons_zero, List.getElem_cons_succ, Act.put, List.setIfInBounds_toArray, List.set_cons_zero, List.set_cons_succ]
                  refine wpAnyH_ready (rs := [9]) (by kernel_rfl) (by simp) (AllReadyH.cons rfl (fun K hK => ?_) AllReadyH.nil)
                  refine step_append_ownA (by rfl) (.tmp 46) (.tmp 50) 45 (by rfl) (w.heap.size + 1) 9 i0 _ 1 16 Tryz.underlying45 hi0 hz0 hz1 hz2 rfl (by decide) u acc.length (acc.map nmV) (by rfl) HZ2.out.own (some ⟨wz.heap.size, 0, none⟩) 1 1 [nmV tok] (by rfl) rfl (fun e => by cases e) (fun ad e => by injection e with e; subst e; exact hny) (by intro x hx; simp at hx; subst hx; rfl) (by unfold maxLen; simp at hal; omega) (by simp at hal; omega) HB.out ?_
                  intro v7 w7 hr7 hgr7
                  obtain ⟨A7, d7, rfl⟩ := owns_form hr7
                  have hbk7 : Bk w7 w.heap.size 121 [u, .int .i64 n] := (hgr7.block _ HZ2.out.bk.lt (fun e => by have := (owns_block HZ2.out.own _ e.symm).1; omega)).trans HZ2.out.bk
                  have hI7 : SpI w w.heap.size n (acc ++ [tok]) (.slice A7 (acc.length + 1) d7) (w7.setCell ⟨w.heap.size, 0, none⟩ (.slice A7 (acc.length + 1) d7)) := by
                    refine ⟨?_, ?_, ?_, Nat.le_refl _⟩
                    · have := hbk7.set 0 (.slice A7 (acc.length + 1) d7)
                      simpa using this
                    · have e1 : (acc ++ [tok]).length = acc.length + 1 := by simp
                      have e2 : (acc ++ [tok]).map nmV = acc.map nmV ++ [nmV tok] := by simp
                      rw [e1, e2]
                      exact owns_keep hr7 (fun g e => Below.heap_setCell w7 _ _ g (fun e2 => by have := (owns_block hr7 g e).1; have e2 : g = w.heap.size := e2; omega))
                    · exact (HZ2.out.low.grown hgr7 HZ2.out.low.size (fun g e => by have := (owns_block HZ2.out.own g e).1; omega)).setCell (by show w.heap.size ≤ w.heap.size; omega) _
                  have f0 := hbk7.frozen 0
                  have c7 := hbk7.cell 0
                  simp only [List.getElem?_cons_zero] at c7
                  refine hK _ _ trivial (fun hS => ?_)
                  clear hK K hr7 hgr7 hny HB hbk7
                  try simp only [List.getElem_toArray, List.getElem_cons_zero, List.getElem_cons_succ, Act.put, List.setIfInBounds_toArray, List.set_cons_zero, List.set_cons_succ]
                  refine wpAnyH_take (i := 10) (v := ?_) rfl (by kernel_rfl) (by kernel_rfl) (by kernel_rfl) (fun _ _ _ h => h) (Or.inl ⟨by rfl, ?_⟩) hS ?_
                  rotate_left 1
                  · intro w' hSw
                    go_simp <;> with_reducible rfl
                  try simp only [List.getElem_toArray, List.getElem_cons_zero, List.getElem_cons_succ, Act.put, List.setIfInBounds_toArray, List.set_cons_zero, List.set_cons_succ]
                  refine wpAnyH_take (i := 11) (v := ?_) rfl (by kernel_rfl) (by kernel_rfl) (by kernel_rfl) (fun _ _ _ h => h) (Or.inl ⟨by rfl, ?_⟩) hS ?_
                  rotate_left 1
                  · intro w' hSw
                    go_simp <;> with_reducible rfl
                  try simp only [List.getElem_toArray, List.getElem_cons_zero, List.getElem_cons_succ, Act.put, List.setIfInBounds_toArray, List.set_cons_zero, List.set_cons_succ]
                  refine wpAnyH_ready (rs := [12]) (by kernel_rfl) (by simp) (AllReadyH.cons rfl (fun K hK => ?_) AllReadyH.nil)
                  go_simp
                  refine hK _ _ trivial (fun hS => ?_)
                  clear hK K
                  try simp only [List.getElem_toArray, List.getElem_cons_zero, List.getElem_cons_succ, Act.put, List.setIfInBounds_toArray, List.set_cons_zero, List.set_cons_succ]
                  refine wpAnyH_done (by kernel_rfl) ?_ _
                  obtain ⟨l1, l2, l3, l4⟩ := toks_left rest
                  clear hny HZ2 c0
                  go_wp2_with fail
                  try rw [hxd]
                  (with_reducible refine (trimL_any rest _).mono ?_)
                  rintro _ w8 ⟨rfl, b8⟩
                  have hI8 := hI7.below b8
                  go_wp2_with fail
                  go_roundw
                  case rel =>
                    refine ⟨Lib.trimLeftS rest blanks, acc ++ [tok], _, rfl, by simp at hrl; omega, fun q => hr35 (hdm _ (l3 _ q)), l4, ?_, by simp at hal ⊢; omega, ?_, hI8⟩
                    · rw [htk, hT, map_app, l1]
                    · intro t ht
                      rcases List.mem_append.1 ht with ht | ht
                      · exact hok t ht
                      · simp at ht; subst ht; exact hTok
                  case measure =>
                    show (Lib.trimLeftS rest blanks).toArray.size < (c :: r).toArray.size
                    simp
                    omega
                · go_simp
                  have HZ2 := Lib.hid (HZ.out.below ((Below.refl wz.heap.size wz).alloc (Nat.le_refl _) (.cells #[.string ⟨tok.toArray⟩] 9)))
                  have c0 := HZ2.out.bk.cell 0
                  simp only [List.getElem?_cons_zero] at c0
                  have hny := news_new wz [nmV tok] 9
                  have hny : ∀ j u, [nmV tok][j]? = some u → (wz.alloc (.cells #[.string ⟨tok.toArray⟩] 9)).cell? ((⟨wz.heap.size, 0, none⟩ : Addr).add j) = some u := hny
                  have HB := Lib.hid (show w.heap.size + 1 ≤ (wz.alloc (.cells #[.string ⟨tok.toArray⟩] 9)).heap.size by have := HZ.out.bk.lt; rw [World.size_alloc]; omega)
                  refine hK _ _ trivial (fun hS => ?_)
                  clear hK K HZ
                  generalize (wz.alloc (.cells #[.string ⟨tok.toArray⟩] 9)) = wy at *
                  try simp only [List.getElem_toArray, List.getElem_cons_zero, List.getElem_cons_succ, Act.put, List.setIfInBounds_toArray, List.set_cons_zero, List.set_cons_succ]
                  refine wpAnyH_ready (rs := [4]) (by kernel_rfl) (by simp) (AllReadyH.cons rfl (fun K hK => ?_) AllReadyH.nil)
                  go_simp
                  refine hK _ _ trivial (fun hS => ?_)
                  clear hK K
                  try simp only [List.getElem_toArray, List.getElem_cons_zero, List.getElem_cons_succ, Act.put, List.setIfInBounds_toArray, List.set_cons_zero, List.set_cons_succ]
                  refine wpAnyH_ready (rs := [9]) (by kernel_rfl) (by simp) (AllReadyH.cons rfl (fun K hK => ?_) AllReadyH.nil)
                  refine step_append_ownA (by rfl) (.tmp 46) (.tmp 50) 45 (by rfl) (w.heap.size + 1) 9 i0 _ 1 16 Tryz.underlying45 hi0 hz0 hz1 hz2 rfl (by decide) u acc.length (acc.map nmV) (by rfl) HZ2.out.own (some ⟨wz.heap.size, 0, none⟩) 1 1 [nmV tok] (by rfl) rfl (fun e => by cases e) (fun ad e => by injection e with e; subst e; exact hny) (by intro x hx; simp at hx; subst hx; rfl) (by unfold maxLen; simp at hal; omega) (by simp at hal; omega) HB.out ?_
                  intro v7 w7 hr7 hgr7
                  obtain ⟨A7, d7, rfl⟩ := owns_form hr7
                  have hbk7 : Bk w7 w.heap.size 121 [u, .int .i64 n] := (hgr7.block _ HZ2.out.bk.lt (fun e => by have := (owns_block HZ2.out.own _ e.symm).1; omega)).trans HZ2.out.bk
                  have hI7 : SpI w w.heap.size n (acc ++ [tok]) (.slice A7 (acc.length + 1) d7) (w7.setCell ⟨w.heap.size, 0, none⟩ (.slice A7 (acc.length + 1) d7)) := by
                    refine ⟨?_, ?_, ?_, Nat.le_refl _⟩
                    · have := hbk7.set 0 (.slice A7 (acc.length + 1) d7)
                      simpa using this
                    · have e1 : (acc ++ [tok]).length = acc.length + 1 := by simp
                      have e2 : (acc ++ [tok]).map nmV = acc.map nmV ++ [nmV tok] := by simp
                      rw [e1, e2]
                      exact owns_keep hr7 (fun g e => Below.heap_setCell w7 _ _ g (fun e2 => by have := (owns_block hr7 g e).1; have e2 : g = w.heap.size := e2; omega))
                    · exact (HZ2.out.low.grown hgr7 HZ2.out.low.size (fun g e => by have := (owns_block HZ2.out.own g e).1; omega)).setCell (by show w.heap.size ≤ w.heap.size; omega) _
                  have f0 := hbk7.frozen 0
                  have c7 := hbk7.cell 0
                  simp only [List.getElem?_cons_zero] at c7
                  refine hK _ _ trivial (fun hS => ?_)
                  clear hK K hr7 hgr7 hny HB hbk7
                  try simp only [List.getElem_toArray, List.getElem_cons_zero, List.getElem_cons_succ, Act.put, List.setIfInBounds_toArray, List.set_cons_zero, List.set_cons_succ]
                  refine wpAnyH_take (i := 10) (v := ?_) rfl (by kernel_rfl) (by kernel_rfl) (by kernel_rfl) (fun _ _ _ h => h) (Or.inl ⟨by rfl, ?_⟩) hS ?_
                  rotate_left 1
                  · intro w' hSw
                    go_simp <;> with_reducible rfl
                  try simp only [List.getElem_toArray, List.getElem_cons_zero, List.getElem_cons_succ, Act.put, List.setIfInBounds_toArray, List.set_cons_zero, List.set_cons_succ]
                  refine wpAnyH_take (i := 11) (v := ?_) rfl (by kernel_rfl) (by kernel_rfl) (by kernel_rfl) (fun _ _ _ h => h) (Or.inl ⟨by rfl, ?_⟩) hS ?_
                  rotate_left 1
                  · intro w' hSw
                    go_simp <;> with_reducible rfl
                  try simp only [List.getElem_toArray, List.getElem_cons_zero, List.getElem_cons_succ, Act.put, List.setIfInBounds_toArray, List.set_cons_zero, List.set_cons_succ]
                  refine wpAnyH_ready (rs := [12]) (by kernel_rfl) (by simp) (AllReadyH.cons rfl (fun K hK => ?_) AllReadyH.nil)
                  go_simp
                  refine hK _ _ trivial (fun hS => ?_)
                  clear hK K
                  try simp only [List.getElem_toArray, List.getElem_cons_zero, List.getElem_cons_succ, Act.put, List.setIfInBounds_toArray, List.set_cons_zero, List.set_cons_succ]
                  refine wpAnyH_done (by kernel_rfl) ?_ _
                  obtain ⟨l1, l2, l3, l4⟩ := toks_left rest
                  clear hny HZ2 c0
                  go_wp2_with fail
                  try rw [hxd]
                  (with_reducible refine (trimL_any rest _).mono ?_)
                  rintro _ w8 ⟨rfl, b8⟩
                  have hI8 := hI7.below b8
                  go_wp2_with fail
                  go_roundw
                  case rel =>
                    refine ⟨Lib.trimLeftS rest blanks, acc ++ [tok], _, rfl, by simp at hrl; omega, fun q => hr35 (hdm _ (l3 _ q)), l4, ?_, by simp at hal ⊢; omega, ?_, hI8⟩
                    · rw [htk, hT, map_app, l1]
                    · intro t ht
                      rcases List.mem_append.1 ht with ht | ht
                      · exact hok t ht
                      · simp at ht; subst ht; exact hTok
                  case measure =>
                    show (Lib.trimLeftS rest blanks).toArray.size < (c :: r).toArray.size
                    simp
                    omega
              · have hsg : signC c = false := by simpa using hsg
                have d2 : decide (Lib.indexByte signs c < 0) = true := by rw [hsx, hsg]; rfl
                have d3 : decide (Lib.indexByte (⟨#[44, 91, 93, 43, 45, 58]⟩ : ByteArray).data.toList c < 0) = true := d2
                have hR : toks s = none := by rw [htk, toks_bad c r hcw hcb hsg hc35]; rfl
                have hbad := bad_any (HI.out.row hok (by simp at hal; omega))
                generalize Lib.indexByte (⟨#[44, 91, 93, 43, 45, 58]⟩ : ByteArray).data.toList c = ib at *
                go_wp2_with fail
                refine (hib _).mono ?_
                rintro _ w4 ⟨rfl, rfl⟩
                go_wp2_with fail
                refine hbad.mono ?_
                rintro _ w5 ⟨rfl, rfl⟩
                refine ⟨rfl, ?_⟩
                rw [hR]
                exact ⟨rfl, HI.out.low⟩
            · skip
              have hT : toks (c :: r) = (toks ((c :: r).drop k)).map ([(c :: r).take k] ++ ·) := by
                have := toks_word ((c :: r).take k) ((c :: r).drop k) p1 (by intro e; have := congrArg List.length e; simp at this; omega) p2
                rw [List.take_append_drop] at this
                exact this
              have hTok : TokOk ((c :: r).take k) := ⟨by intro e; have := congrArg List.length e; simp at this; omega, by simp at hrl ⊢; omega, .inl p1⟩
              have d2 : decide ((k : Int) = 0) = false := decide_eq_false (by omega)
              go_wp2_with fail
              have hz := HI.out.drew
              have c0 := hz.bk.cell 0
              simp only [List.getElem?_cons_zero] at c0
              have hq1 : (0 : Int) ≤ (k : Int) := by omega
              have hq2 : (k : Int) ≤ (r.length : Int) + 1 := by omega
              refine wp_region_held_drew (S := fun _ => True) (by kernel_rfl) trivial (fun hS => ?_)
              refine wpAnyH_norm 13 (Array.replicate 13 false) rfl rfl ?_
              refine wpAnyH_take (i := 0) (v := ?_) rfl (by kernel_rfl) (by kernel_rfl) (by kernel_rfl) (fun _ _ _ h => h) (Or.inl ⟨by rfl, ?_⟩) hS ?_
              rotate_left 1
              · intro w' hSw
                go_simp <;> with_reducible rfl
              try simp only [List.getElem_toArray, List.getElem_cons_zero, List.getElem_cons_succ, Act.put, List.setIfInBounds_toArray, List.set_cons_zero, List.set_cons_succ]
              refine wpAnyH_take (i := 1) (v := ?_) rfl (by kernel_rfl) (by kernel_rfl) (by kernel_rfl) (fun _ _ _ h => h) (Or.inl ⟨by rfl, ?_⟩) hS ?_
              rotate_left 1
              · intro w' hSw
                go_simp <;> with_reducible rfl
              try simp only [List.getElem_toArray, List.getElem_cons_zero, List.getElem_cons_succ, Act.put, List.setIfInBounds_toArray, List.set_cons_zero, List.set_cons_succ]
              refine wpAnyH_take (i := 2) (v := ?_) rfl (by kernel_rfl) (by kernel_rfl) (by kernel_rfl) (fun _ _ _ h => h) (Or.inl ⟨by rfl, ?_⟩) hS ?_
              rotate_left 1
              · intro w' hSw
                go_simp <;> with_reducible rfl
              try simp only [List.getElem_toArray, List.getElem_cons_zero, List.getElem_cons_succ, Act.put, List.setIfInBounds_toArray, List.set_cons_zero, List.set_cons_succ]
              refine wpAnyH_take (i := 3) (v := ?_) rfl (by kernel_rfl) (by kernel_rfl) (by kernel_rfl) (fun _ _ _ h => h) (Or.inl ⟨by rfl, ?_⟩) hS ?_
              rotate_left 1
              · intro w' hSw
                go_simp <;> with_reducible rfl
              try simp only [List.getElem_toArray, List.getElem_cons_zero, List.getElem_cons_succ, Act.put, List.setIfInBounds_toArray, List.set_cons_zero, List.set_cons_succ]
              refine wpAnyH_take (i := 5) (v := ?_) rfl (by kernel_rfl) (by kernel_rfl) (by kernel_rfl) (fun _ _ _ h => h) (Or.inl ⟨by rfl, ?_⟩) hS ?_
              rotate_left 1
              · intro w' hSw
                go_simp <;> with_reducible rfl
              try simp only [List.getElem_toArray, List.getElem_cons_zero, List.getElem_cons_succ, Act.put, List.setIfInBounds_toArray, List.set_cons_zero, List.set_cons_succ]
              refine wpAnyH_take (i := 6) (v := ?_) rfl (by kernel_rfl) (by kernel_rfl) (by kernel_rfl) (fun _ _ _ h => h) (Or.inl ⟨by rfl, ?_⟩) hS ?_
              rotate_left 1
              · intro w' hSw
                go_simp <;> with_reducible rfl
              try simp only [List.getElem_toArray, List.getElem_cons_zero, List.getElem_cons_succ, Act.put, List.setIfInBounds_toArray, List.set_cons_zero, List.set_cons_succ]
              refine wpAnyH_take (i := 7) (v := ?_) rfl (by kernel_rfl) (by kernel_rfl) (by kernel_rfl) (fun _ _ _ h => h) (Or.inl ⟨by rfl, ?_⟩) hS ?_
              rotate_left 1
              · intro w' hSw
                go_simp <;> with_reducible rfl
              try simp only [List.getElem_toArray, List.getElem_cons_zero, List.getElem_cons_succ, Act.put, List.setIfInBounds_toArray, List.set_cons_zero, List.set_cons_succ]
              rw [ext_take]
              have htkl : ((c :: r).take k).length = k := by rw [List.length_take]; simp only [List.length_cons]; omega
              have hdl : ((c :: r).drop k).length = r.length + 1 - k := by simp
              have hdm : ∀ d, d ∈ (c :: r).drop k → d ∈ c :: r := fun d hd => List.mem_of_mem_drop hd
              have hxd : ((⟨(c :: r).toArray⟩ : ByteArray).extract k (r.length + 1)) = ⟨((c :: r).drop k).toArray⟩ := by
                have h1 := ext_drop (c :: r) k
                have h2 : (⟨(c :: r).toArray⟩ : ByteArray).size = r.length + 1 := by
                  show (c :: r).toArray.size = _
                  simp
                rwa [h2] at h1
              generalize htok : (c :: r).take k = tok at *
              generalize hrest : (c :: r).drop k = rest at *
              obtain ⟨i0, hi0, hz0, hz1, hz2⟩ := info_str
              refine wpAnyH_norm 6 #[true, true, true, true, false, true, true, true, false, false, false, false, false] (by kernel_rfl) (by kernel_rfl) ?_
              have HZ := Lib.hid hz
              clear HI hz
              generalize (_ : World).drew = wz at *
              refine wpAnyH_ready (rs := [4, 8]) (by kernel_rfl) (by simp) (AllReadyH.cons rfl (fun K hK => ?_) (AllReadyH.cons rfl (fun K hK => ?_) AllReadyH.nil))
              · go_simp
                refine hK _ _ trivial (fun hS => ?_)
                clear hK K
                try simp only [List.getElem_toArray, List.getElem_cons_zero, List.getElem_cons_succ, Act.put, List.setIfInBounds_toArray, List.set_cons_zero, List.set_cons_succ]
                refine wpAnyH_ready (rs := [8]) (by kernel_rfl) (by simp) (AllReadyH.cons rfl (fun K hK => ?_) AllReadyH.nil)
                go_simp
                have HZ2 := Lib.hid (HZ.out.below ((Below.refl wz.heap.size wz).alloc (Nat.le_refl _) (.cells #[.string ⟨tok.toArray⟩] 9)))
                have c0 := HZ2.out.bk.cell 0
                simp only [List.getElem?_cons_zero] at c0
                have hny := news_new wz [nmV tok] 9
                have hny : ∀ j u, [nmV tok][j]? = some u → (wz.alloc (.cells #[.string ⟨tok.toArray⟩] 9)).cell? ((⟨wz.heap.size, 0, none⟩ : Addr).add j) = some u := hny
                have HB := Lib.hid (show w.heap.size + 1 ≤ (wz.alloc (.cells #[.string ⟨tok.toArray⟩] 9)).heap.size by have := HZ.out.bk.lt; rw [World.size_alloc]; omega)
                refine hK _ _ trivial (fun hS => ?_)
                clear hK K HZ
                generalize (wz.alloc (.cells #[.string ⟨tok.toArray⟩] 9)) = wy at *
                try simp only [List.getElem_toArray, List.getElem_cons_zero, List.getElem_cons_succ, Act.put, List.setIfInBounds_toArray, List.set_cons_zero, List.set_cons_succ]
                refine wpAnyH_ready (rs := [9]) (by kernel_rfl) (by simp) (AllReadyH.cons rfl (fun K hK => ?_) AllReadyH.nil)
                refine step_append_ownA (by rfl) (.tmp 46) (.tmp 50) 45 (by rfl) (w.heap.size + 1) 9 i0 _ 1 16 Tryz.underlying45 hi0 hz0 hz1 hz2 rfl (by decide) u acc.length (acc.map nmV) (by rfl) HZ2.out.own (some ⟨wz.heap.size, 0, none⟩) 1 1 [nmV tok] (by rfl) rfl (fun e => by cases e) (fun ad e => by injection e with e; subst e; exact hny) (by intro x hx; simp at hx; subst hx; rfl) (by unfold maxLen; simp at hal; omega) (by simp at hal; omega) HB.out ?_
                intro v7 w7 hr7 hgr7
                obtain ⟨A7, d7, rfl⟩ := owns_form hr7
                have hbk7 : Bk w7 w.heap.size 121 [u, .int .i64 n] := (hgr7.block _ HZ2.out.bk.lt (fun e => by have := (owns_block HZ2.out.own _ e.symm).1; omega)).trans HZ2.out.bk
                have hI7 : SpI w w.heap.size n (acc ++ [tok]) (.slice A7 (acc.length + 1) d7) (w7.setCell ⟨w.heap.size, 0, none⟩ (.slice A7 (acc.length + 1) d7)) := by
                  refine ⟨?_, ?_, ?_, Nat.le_refl _⟩
                  · have := hbk7.set 0 (.slice A7 (acc.length + 1) d7)
                    simpa using this
                  · have e1 : (acc ++ [tok]).length = acc.length + 1 := by simp
                    have e2 : (acc ++ [tok]).map nmV = acc.map nmV ++ [nmV tok] := by simp
                    rw [e1, e2]
                    exact owns_keep hr7 (fun g e => Below.heap_setCell w7 _ _ g (fun e2 => by have := (owns_block hr7 g e).1; have e2 : g = w.heap.size := e2; omega))
                  · exact (HZ2.out.low.grown hgr7 HZ2.out.low.size (fun g e => by have := (owns_block HZ2.out.own g e).1; omega)).setCell (by show w.heap.size ≤ w.heap.size; omega) _
                have f0 := hbk7.frozen 0
                have c7 := hbk7.cell 0
                simp only [List.getElem?_cons_zero] at c7
                refine hK _ _ trivial (fun hS => ?_)
                clear hK K hr7 hgr7 hny HB hbk7
                try simp only [List.getElem_toArray, List.getElem_cons_zero, List.getElem_cons_succ, Act.put, List.setIfInBounds_toArray, List.set_cons_zero, List.set_cons_succ]
                refine wpAnyH_take (i := 10) (v := ?_) rfl (by kernel_rfl) (by kernel_rfl) (by kernel_rfl) (fun _ _ _ h => h) (Or.inl ⟨by rfl, ?_⟩) hS ?_
                rotate_left 1
                · intro w' hSw
                  go_simp <;> with_reducible rfl
                try simp only [List.getElem_toArray, List.getElem_cons_zero, List.getElem_cons_succ, Act.put, List.setIfInBounds_toArray, List.set_cons_zero, List.set_cons_succ]
                refine wpAnyH_take (i := 11) (v := ?_) rfl (by kernel_rfl) (by kernel_rfl) (by kernel_rfl) (fun _ _ _ h => h) (Or.inl ⟨by rfl, ?_⟩) hS ?_
                rotate_left 1
                · intro w' hSw
                  go_simp <;> with_reducible rfl
                try simp only [List.getElem_toArray, List.getElem_cons_zero, List.getElem_cons_succ, Act.put, List.setIfInBounds_toArray, List.set_cons_zero, List.set_cons_succ]
                refine wpAnyH_ready (rs := [12]) (by kernel_rfl) (by simp) (AllReadyH.cons rfl (fun K hK => ?_) AllReadyH.nil)
                go_simp
                refine hK _ _ trivial (fun hS => ?_)
                clear hK K
                try simp only [List.getElem_toArray, List.getElem_cons_zero, List.getElem_cons_succ, Act.put, List.setIfInBounds_toArray, List.set_cons_zero, List.set_cons_succ]
                refine wpAnyH_done (by kernel_rfl) ?_ _
                obtain ⟨l1, l2, l3, l4⟩ := toks_left rest
                clear hny HZ2 c0
                go_wp2_with fail
                try rw [hxd]
                (with_reducible refine (trimL_any rest _).mono ?_)
                rintro _ w8 ⟨rfl, b8⟩
                have hI8 := hI7.below b8
                go_wp2_with fail
                go_roundw
                case rel =>
                  refine ⟨Lib.trimLeftS rest blanks, acc ++ [tok], _, rfl, by simp at hrl; omega, fun q => hr35 (hdm _ (l3 _ q)), l4, ?_, by simp at hal ⊢; omega, ?_, hI8⟩
                  · rw [htk, hT, map_app, l1]
                  · intro t ht
                    rcases List.mem_append.1 ht with ht | ht
                    · exact hok t ht
                    · simp at ht; subst ht; exact hTok
                case measure =>
                  show (Lib.trimLeftS rest blanks).toArray.size < (c :: r).toArray.size
                  simp
                  omega
              · go_simp
                have HZ2 := Lib.hid (HZ.out.below ((Below.refl wz.heap.size wz).alloc (Nat.le_refl _) (.cells #[.string ⟨tok.toArray⟩] 9)))
                have c0 := HZ2.out.bk.cell 0
                simp only [List.getElem?_cons_zero] at c0
                have hny := news_new wz [nmV tok] 9
                have hny : ∀ j u, [nmV tok][j]? = some u → (wz.alloc (.cells #[.string ⟨tok.toArray⟩] 9)).cell? ((⟨wz.heap.size, 0, none⟩ : Addr).add j) = some u := hny
                have HB := Lib.hid (show w.heap.size + 1 ≤ (wz.alloc (.cells #[.string ⟨tok.toArray⟩] 9)).heap.size by have := HZ.out.bk.lt; rw [World.size_alloc]; omega)
                refine hK _ _ trivial (fun hS => ?_)
                clear hK K HZ
                generalize (wz.alloc (.cells #[.string ⟨tok.toArray⟩] 9)) = wy at *
                try simp only [List.getElem_toArray, List.getElem_cons_zero, List.getElem_cons_succ, Act.put, List.setIfInBounds_toArray, List.set_cons_zero, List.set_cons_succ]
                refine wpAnyH_ready (rs := [4]) (by kernel_rfl) (by simp) (AllReadyH.cons rfl (fun K hK => ?_) AllReadyH.nil)
                go_simp
                refine hK _ _ trivial (fun hS => ?_)
                clear hK K
                try simp only [List.getElem_toArray, List.getElem_cons_zero, List.getElem_cons_succ, Act.put, List.setIfInBounds_toArray, List.set_cons_zero, List.set_cons_succ]
                refine wpAnyH_ready (rs := [9]) (by kernel_rfl) (by simp) (AllReadyH.cons rfl (fun K hK => ?_) AllReadyH.nil)
                refine step_append_ownA (by rfl) (.tmp 46) (.tmp 50) 45 (by rfl) (w.heap.size + 1) 9 i0 _ 1 16 Tryz.underlying45 hi0 hz0 hz1 hz2 rfl (by decide) u acc.length (acc.map nmV) (by rfl) HZ2.out.own (some ⟨wz.heap.size, 0, none⟩) 1 1 [nmV tok] (by rfl) rfl (fun e => by cases e) (fun ad e => by injection e with e; subst e; exact hny) (by intro x hx; simp at hx; subst hx; rfl) (by unfold maxLen; simp at hal; omega) (by simp at hal; omega) HB.out ?_
                intro v7 w7 hr7 hgr7
                obtain ⟨A7, d7, rfl⟩ := owns_form hr7
                have hbk7 : Bk w7 w.heap.size 121 [u, .int .i64 n] := (hgr7.block _ HZ2.out.bk.lt (fun e => by have := (owns_block HZ2.out.own _ e.symm).1; omega)).trans HZ2.out.bk
                have hI7 : SpI w w.heap.size n (acc ++ [tok]) (.slice A7 (acc.length + 1) d7) (w7.setCell ⟨w.heap.size, 0, none⟩ (.slice A7 (acc.length + 1) d7)) := by
                  refine ⟨?_, ?_, ?_, Nat.le_refl _⟩
                  · have := hbk7.set 0 (.slice A7 (acc.length + 1) d7)
                    simpa using this
                  · have e1 : (acc ++ [tok]).length = acc.length + 1 := by simp
                    have e2 : (acc ++ [tok]).map nmV = acc.map nmV ++ [nmV tok] := by simp
                    rw [e1, e2]
                    exact owns_keep hr7 (fun g e => Below.heap_setCell w7 _ _ g (fun e2 => by have := (owns_block hr7 g e).1; have e2 : g = w.heap.size := e2; omega))
                  · exact (HZ2.out.low.grown hgr7 HZ2.out.low.size (fun g e => by have := (owns_block HZ2.out.own g e).1; omega)).setCell (by show w.heap.size ≤ w.heap.size; omega) _
                have f0 := hbk7.frozen 0
                have c7 := hbk7.cell 0
                simp only [List.getElem?_cons_zero] at c7
                refine hK _ _ trivial (fun hS => ?_)
                clear hK K hr7 hgr7 hny HB hbk7
                try simp only [List.getElem_toArray, List.getElem_cons_zero, List.getElem_cons_succ, Act.put, List.setIfInBounds_toArray, List.set_cons_zero, List.set_cons_succ]
                refine wpAnyH_take (i := 10) (v := ?_) rfl (by kernel_rfl) (by kernel_rfl) (by kernel_rfl) (fun _ _ _ h => h) (Or.inl ⟨by rfl, ?_⟩) hS ?_
                rotate_left 1
                · intro w' hSw
                  go_simp <;> with_reducible rfl
                try simp only [List.getElem_toArray, List.getElem_cons_zero, List.getElem_cons_succ, Act.put, List.setIfInBounds_toArray, List.set_cons_zero, List.set_cons_succ]
                refine wpAnyH_take (i := 11) (v := ?_) rfl (by kernel_rfl) (by kernel_rfl) (by kernel_rfl) (fun _ _ _ h => h) (Or.inl ⟨by rfl, ?_⟩) hS ?_
                rotate_left 1
                · intro w' hSw
                  go_simp <;> with_reducible rfl
                try simp only [List.getElem_toArray, List.getElem_cons_zero, List.getElem_cons_succ, Act.put, List.setIfInBounds_toArray, List.set_cons_zero, List.set_cons_succ]
                refine wpAnyH_ready (rs := [12]) (by kernel_rfl) (by simp) (AllReadyH.cons rfl (fun K hK => ?_) AllReadyH.nil)
                go_simp
                refine hK _ _ trivial (fun hS => ?_)
                clear hK K
                try simp only [List.getElem_toArray, List.getElem_cons_zero, List.getElem_cons_succ, Act.put, List.setIfInBounds_toArray, List.set_cons_zero, List.set_cons_succ]
                refine wpAnyH_done (by kernel_rfl) ?_ _
                obtain ⟨l1, l2, l3, l4⟩ := toks_left rest
                clear hny HZ2 c0
                go_wp2_with fail
                try rw [hxd]
                (with_reducible refine (trimL_any rest _).mono ?_)
                rintro _ w8 ⟨rfl, b8⟩
                have hI8 := hI7.below b8
                go_wp2_with fail
                go_roundw
                case rel =>
                  refine ⟨Lib.trimLeftS rest blanks, acc ++ [tok], _, rfl, by simp at hrl; omega, fun q => hr35 (hdm _ (l3 _ q)), l4, ?_, by simp at hal ⊢; omega, ?_, hI8⟩
                  · rw [htk, hT, map_app, l1]
                  · intro t ht
                    rcases List.mem_append.1 ht with ht | ht
                    · exact hok t ht
                    · simp at ht; subst ht; exact hTok
                case measure =>
                  show (Lib.trimLeftS rest blanks).toArray.size < (c :: r).toArray.size
                  simp
                  omega
        · have d1 : decide ((k : Int) < (r.length : Int) + 1) = false := decide_eq_false (by omega)
          have hend : ∀ d, (c :: r)[k]? = some d → wordC d = false := fun d hd => by rw [List.getElem?_eq_none_iff.2 (by simp; omega)] at hd; cases hd
          have hk0 : ¬ k = 0 := by omega
          obtain ⟨p1, p2⟩ := prefix_split (c :: r) k (by simp; omega) hwd hend
          have hT : toks (c :: r) = (toks ((c :: r).drop k)).map ([(c :: r).take k] ++ ·) := by
            have := toks_word ((c :: r).take k) ((c :: r).drop k) p1 (by intro e; have := congrArg List.length e; simp at this; omega) p2
            rw [List.take_append_drop] at this
            exact this
          have hTok : TokOk ((c :: r).take k) := ⟨by intro e; have := congrArg List.length e; simp at this; omega, by simp at hrl ⊢; omega, .inl p1⟩
          have d2 : decide ((k : Int) = 0) = false := decide_eq_false (by omega)
          go_wp2_with fail
          have hz := HI.out.drew
          have c0 := hz.bk.cell 0
          simp only [List.getElem?_cons_zero] at c0
          have hq1 : (0 : Int) ≤ (k : Int) := by omega
          have hq2 : (k : Int) ≤ (r.length : Int) + 1 := by omega
          refine wp_region_held_drew (S := fun _ => True) (by kernel_rfl) trivial (fun hS => ?_)
          refine wpAnyH_norm 13 (Array.replicate 13 false) rfl rfl ?_
          refine wpAnyH_take (i := 0) (v := ?_) rfl (by kernel_rfl) (by kernel_rfl) (by kernel_rfl) (fun _ _ _ h => h) (Or.inl ⟨by rfl, ?_⟩) hS ?_
          rotate_left 1
          · intro w' hSw
            go_simp <;> with_reducible rfl
          try simp only [List.getElem_toArray, List.getElem_cons_zero, List.getElem_cons_succ, Act.put, List.setIfInBounds_toArray, List.set_cons_zero, List.set_cons_succ]
          refine wpAnyH_take (i := 1) (v := ?_) rfl (by kernel_rfl) (by kernel_rfl) (by kernel_rfl) (fun _ _ _ h => h) (Or.inl ⟨by rfl, ?_⟩) hS ?_
          rotate_left 1
          · intro w' hSw
            go_simp <;> with_reducible rfl
          try simp only [List.getElem_toArray, List.getElem_cons_zero, List.getElem_cons_succ, Act.put, List.setIfInBounds_toArray, List.set_cons_zero, List.set_cons_succ]
          refine wpAnyH_take (i := 2) (v := ?_) rfl (by kernel_rfl) (by kernel_rfl) (by kernel_rfl) (fun _ _ _ h => h) (Or.inl ⟨by rfl, ?_⟩) hS ?_
          rotate_left 1
          · intro w' hSw
            go_simp <;> with_reducible rfl
          try simp only [List.getElem_toArray, List.getElem_cons_zero, List.getElem_cons_succ, Act.put, List.setIfInBounds_toArray, List.set_cons_zero, List.set_cons_succ]
          refine wpAnyH_take (i := 3) (v := ?_) rfl (by kernel_rfl) (by kernel_rfl) (by kernel_rfl) (fun _ _ _ h => h) (Or.inl ⟨by rfl, ?_⟩) hS ?_
          rotate_left 1
          · intro w' hSw
            go_simp <;> with_reducible rfl
          try simp only [List.getElem_toArray, List.getElem_cons_zero, List.getElem_cons_succ, Act.put, List.setIfInBounds_toArray, List.set_cons_zero, List.set_cons_succ]
          refine wpAnyH_take (i := 5) (v := ?_) rfl (by kernel_rfl) (by kernel_rfl) (by kernel_rfl) (fun _ _ _ h => h) (Or.inl ⟨by rfl, ?_⟩) hS ?_
          rotate_left 1
          · intro w' hSw
            go_simp <;> with_reducible rfl
          try simp only [List.getElem_toArray, List.getElem_cons_zero, List.getElem_cons_succ, Act.put, List.setIfInBounds_toArray, List.set_cons_zero, List.set_cons_succ]
          refine wpAnyH_take (i := 6) (v := ?_) rfl (by kernel_rfl) (by kernel_rfl) (by kernel_rfl) (fun _ _ _ h => h) (Or.inl ⟨by rfl, ?_⟩) hS ?_
          rotate_left 1
          · intro w' hSw
            go_simp <;> with_reducible rfl
          try simp only [List.getElem_toArray, List.getElem_cons_zero, List.getElem_cons_succ, Act.put, List.setIfInBounds_toArray, List.set_cons_zero, List.set_cons_succ]
          refine wpAnyH_take (i := 7) (v := ?_) rfl (by kernel_rfl) (by kernel_rfl) (by kernel_rfl) (fun _ _ _ h => h) (Or.inl ⟨by rfl, ?_⟩) hS ?_
          rotate_left 1
          · intro w' hSw
            go_simp <;> with_reducible rfl
          try simp only [List.getElem_toArray, List.getElem_cons_zero, List.getElem_cons_succ, Act.put, List.setIfInBounds_toArray, List.set_cons_zero, List.set_cons_succ]
          rw [ext_take]
          have htkl : ((c :: r).take k).length = k := by rw [List.length_take]; simp only [List.length_cons]; omega
          have hdl : ((c :: r).drop k).length = r.length + 1 - k := by simp
          have hdm : ∀ d, d ∈ (c :: r).drop k → d ∈ c :: r := fun d hd => List.mem_of_mem_drop hd
          have hxd : ((⟨(c :: r).toArray⟩ : ByteArray).extract k (r.length + 1)) = ⟨((c :: r).drop k).toArray⟩ := by
            have h1 := ext_drop (c :: r) k
            have h2 : (⟨(c :: r).toArray⟩ : ByteArray).size = r.length + 1 := by
              show (c :: r).toArray.size = _
              simp
            rwa [h2] at h1
          generalize htok : (c :: r).take k = tok at *
          generalize hrest : (c :: r).drop k = rest at *
          obtain ⟨i0, hi0, hz0, hz1, hz2⟩ := info_str
          refine wpAnyH_norm 6 #[true, true, true, true, false, true, true, true, false, false, false, false, false] (by kernel_rfl) (by kernel_rfl) ?_
          have HZ := Lib.hid hz
          clear HI hz
          generalize (_ : World).drew = wz at *
          refine wpAnyH_ready (rs := [4, 8]) (by kernel_rfl) (by simp) (AllReadyH.cons rfl (fun K hK => ?_) (AllReadyH.cons rfl (fun K hK => ?_) AllReadyH.nil))
          · go_simp
            refine hK _ _ trivial (fun hS => ?_)
            clear hK K
            try simp only [List.getElem_toArray, List.getElem_cons_zero, List.getElem_cons_succ, Act.put, List.setIfInBounds_toArray, List.set_cons_zero, List.set_cons_succ]
            refine wpAnyH_ready (rs := [8]) (by kernel_rfl) (by simp) (AllReadyH.cons rfl (fun K hK => ?_) AllReadyH.nil)
            go_simp
            have HZ2 := Lib.hid (HZ.out.below ((Below.refl wz.heap.size wz).alloc (Nat.le_refl _) (.cells #[.string ⟨tok.toArray⟩] 9)))
            have c0 := HZ2.out.bk.cell 0
            simp only [List.getElem?_cons_zero] at c0
            have hny := news_new wz [nmV tok] 9
            have hny : ∀ j u, [nmV tok][j]? = some u → (wz.alloc (.cells #[.string ⟨tok.toArray⟩] 9)).cell? ((⟨wz.heap.size, 0, none⟩ : Addr).add j) = some u := hny
            have HB := Lib.hid (show w.heap.size + 1 ≤ (wz.alloc (.cells #[.string ⟨tok.toArray⟩] 9)).heap.size by have := HZ.out.bk.lt; rw [World.size_alloc]; omega)
            refine hK _ _ trivial (fun hS => ?_)
            clear hK K HZ
            generalize (wz.alloc (.cells #[.string ⟨tok.toArray⟩] 9)) = wy at *
            try simp only [List.getElem_toArray, List.getElem_cons_zero, List.getElem_cons_succ, Act.put, List.setIfInBounds_toArray, List.set_cons_zero, List.set_cons_succ]
            refine wpAnyH_ready (rs := [9]) (by kernel_rfl) (by simp) (AllReadyH.cons rfl (fun K hK => ?_) AllReadyH.nil)
            refine step_append_ownA (by rfl) (.tmp 46) (.tmp 50) 45 (by rfl) (w.heap.size + 1) 9 i0 _ 1 16 Tryz.underlying45 hi0 hz0 hz1 hz2 rfl (by decide) u acc.length (acc.map nmV) (by rfl) HZ2.out.own (some ⟨wz.heap.size, 0, none⟩) 1 1 [nmV tok] (by rfl) rfl (fun e => by cases e) (fun ad e => by injection e with e; subst e; exact hny) (by intro x hx; simp at hx; subst hx; rfl) (by unfold maxLen; simp at hal; omega) (by simp at hal; omega) HB.out ?_
            intro v7 w7 hr7 hgr7
            obtain ⟨A7, d7, rfl⟩ := owns_form hr7
            have hbk7 : Bk w7 w.heap.size 121 [u, .int .i64 n] := (hgr7.block _ HZ2.out.bk.lt (fun e => by have := (owns_block HZ2.out.own _ e.symm).1; omega)).trans HZ2.out.bk
            have hI7 : SpI w w.heap.size n (acc ++ [tok]) (.slice A7 (acc.length + 1) d7) (w7.setCell ⟨w.heap.size, 0, none⟩ (.slice A7 (acc.length + 1) d7)) := by
              refine ⟨?_, ?_, ?_, Nat.le_refl _⟩
              · have := hbk7.set 0 (.slice A7 (acc.length + 1) d7)
                simpa using this
              · have e1 : (acc ++ [tok]).length = acc.length + 1 := by simp
                have e2 : (acc ++ [tok]).map nmV = acc.map nmV ++ [nmV tok] := by simp
                rw [e1, e2]
                exact owns_keep hr7 (fun g e => Below.heap_setCell w7 _ _ g (fun e2 => by have := (owns_block hr7 g e).1; have e2 : g = w.heap.size := e2; omega))
              · exact (HZ2.out.low.grown hgr7 HZ2.out.low.size (fun g e => by have := (owns_block HZ2.out.own g e).1; omega)).setCell (by show w.heap.size ≤ w.heap.size; omega) _
            have f0 := hbk7.frozen 0
            have c7 := hbk7.cell 0
            simp only [List.getElem?_cons_zero] at c7
            refine hK _ _ trivial (fun hS => ?_)
            clear hK K hr7 hgr7 hny HB hbk7
            try simp only [List.getElem_toArray, List.getElem_cons_zero, List.getElem_cons_succ, Act.put, List.setIfInBounds_toArray, List.set_cons_zero, List.set_cons_succ]
            refine wpAnyH_take (i := 10) (v := ?_) rfl (by kernel_rfl) (by kernel_rfl) (by kernel_rfl) (fun _ _ _ h => h) (Or.inl ⟨by rfl, ?_⟩) hS ?_
            rotate_left 1
            · intro w' hSw
              go_simp <;> with_reducible rfl
            try simp only [List.getElem_toArray, List.getElem_cons_zero, List.getElem_cons_succ, Act.put, List.setIfInBounds_toArray, List.set_cons_zero, List.set_cons_succ]
            refine wpAnyH_take (i := 11) (v := ?_) rfl (by kernel_rfl) (by kernel_rfl) (by kernel_rfl) (fun _ _ _ h => h) (Or.inl ⟨by rfl, ?_⟩) hS ?_
            rotate_left 1
            · intro w' hSw
              go_simp <;> with_reducible rfl
            try simp only [List.getElem_toArray, List.getElem_cons_zero, List.getElem_cons_succ, Act.put, List.setIfInBounds_toArray, List.set_cons_zero, List.set_cons_succ]
            refine wpAnyH_ready (rs := [12]) (by kernel_rfl) (by simp) (AllReadyH.cons rfl (fun K hK => ?_) AllReadyH.nil)
            go_simp
            refine hK _ _ trivial (fun hS => ?_)
            clear hK K
            try simp only [List.getElem_toArray, List.getElem_cons_zero, List.getElem_cons_succ, Act.put, List.setIfInBounds_toArray, List.set_cons_zero, List.set_cons_succ]
            refine wpAnyH_done (by kernel_rfl) ?_ _
            obtain ⟨l1, l2, l3, l4⟩ := toks_left rest
            clear hny HZ2 c0
            go_wp2_with fail
            try rw [hxd]
            (with_reducible refine (trimL_any rest _).mono ?_)
            rintro _ w8 ⟨rfl, b8⟩
            have hI8 := hI7.below b8
            go_wp2_with fail
            go_roundw
            case rel =>
              refine ⟨Lib.trimLeftS rest blanks, acc ++ [tok], _, rfl, by simp at hrl; omega, fun q => hr35 (hdm _ (l3 _ q)), l4, ?_, by simp at hal ⊢; omega, ?_, hI8⟩
              · rw [htk, hT, map_app, l1]
              · intro t ht
                rcases List.mem_append.1 ht with ht | ht
                · exact hok t ht
                · simp at ht; subst ht; exact hTok
            case measure =>
              show (Lib.trimLeftS rest blanks).toArray.size < (c :: r).toArray.size
              simp
              omega
          · go_simp
            have HZ2 := Lib.hid (HZ.out.below ((Below.refl wz.heap.size wz).alloc (Nat.le_refl _) (.cells #[.string ⟨tok.toArray⟩] 9)))
            have c0 := HZ2.out.bk.cell 0
            simp only [List.getElem?_cons_zero] at c0
            have hny := news_new wz [nmV tok] 9
            have hny : ∀ j u, [nmV tok][j]? = some u → (wz.alloc (.cells #[.string ⟨tok.toArray⟩] 9)).cell? ((⟨wz.heap.size, 0, none⟩ : Addr).add j) = some u := hny
            have HB := Lib.hid (show w.heap.size + 1 ≤ (wz.alloc (.cells #[.string ⟨tok.toArray⟩] 9)).heap.size by have := HZ.out.bk.lt; rw [World.size_alloc]; omega)
            refine hK _ _ trivial (fun hS => ?_)
            clear hK K HZ
            generalize (wz.alloc (.cells #[.string ⟨tok.toArray⟩] 9)) = wy at *
            try simp only [List.getElem_toArray, List.getElem_cons_zero, List.getElem_cons_succ, Act.put, List.setIfInBounds_toArray, List.set_cons_zero, List.set_cons_succ]
            refine wpAnyH_ready (rs := [4]) (by kernel_rfl) (by simp) (AllReadyH.cons rfl (fun K hK => ?_) AllReadyH.nil)
            go_simp
            refine hK _ _ trivial (fun hS => ?_)
            clear hK K
            try simp only [List.getElem_toArray, List.getElem_cons_zero, List.getElem_cons_succ, Act.put, List.setIfInBounds_toArray, List.set_cons_zero, List.set_cons_succ]
            refine wpAnyH_ready (rs := [9]) (by kernel_rfl) (by simp) (AllReadyH.cons rfl (fun K hK => ?_) AllReadyH.nil)
            refine step_append_ownA (by rfl) (.tmp 46) (.tmp 50) 45 (by rfl) (w.heap.size + 1) 9 i0 _ 1 16 Tryz.underlying45 hi0 hz0 hz1 hz2 rfl (by decide) u acc.length (acc.map nmV) (by rfl) HZ2.out.own (some ⟨wz.heap.size, 0, none⟩) 1 1 [nmV tok] (by rfl) rfl (fun e => by cases e) (fun ad e => by injection e with e; subst e; exact hny) (by intro x hx; simp at hx; subst hx; rfl) (by unfold maxLen; simp at hal; omega) (by simp at hal; omega) HB.out ?_
            intro v7 w7 hr7 hgr7
            obtain ⟨A7, d7, rfl⟩ := owns_form hr7
            have hbk7 : Bk w7 w.heap.size 121 [u, .int .i64 n] := (hgr7.block _ HZ2.out.bk.lt (fun e => by have := (owns_block HZ2.out.own _ e.symm).1; omega)).trans HZ2.out.bk
            have hI7 : SpI w w.heap.size n (acc ++ [tok]) (.slice A7 (acc.length + 1) d7) (w7.setCell ⟨w.heap.size, 0, none⟩ (.slice A7 (acc.length + 1) d7)) := by
              refine ⟨?_, ?_, ?_, Nat.le_refl _⟩
              · have := hbk7.set 0 (.slice A7 (acc.length + 1) d7)
                simpa using this
              · have e1 : (acc ++ [tok]).length = acc.length + 1 := by simp
                have e2 : (acc ++ [tok]).map nmV = acc.map nmV ++ [nmV tok] := by simp
                rw [e1, e2]
                exact owns_keep hr7 (fun g e => Below.heap_setCell w7 _ _ g (fun e2 => by have := (owns_block hr7 g e).1; have e2 : g = w.heap.size := e2; omega))
              · exact (HZ2.out.low.grown hgr7 HZ2.out.low.size (fun g e => by have := (owns_block HZ2.out.own g e).1; omega)).setCell (by show w.heap.size ≤ w.heap.size; omega) _
            have f0 := hbk7.frozen 0
            have c7 := hbk7.cell 0
            simp only [List.getElem?_cons_zero] at c7
            refine hK _ _ trivial (fun hS => ?_)
            clear hK K hr7 hgr7 hny HB hbk7
            try simp only [List.getElem_toArray, List.getElem_cons_zero, List.getElem_cons_succ, Act.put, List.setIfInBounds_toArray, List.set_cons_zero, List.set_cons_succ]
            refine wpAnyH_take (i := 10) (v := ?_) rfl (by kernel_rfl) (by kernel_rfl) (by kernel_rfl) (fun _ _ _ h => h) (Or.inl ⟨by rfl, ?_⟩) hS ?_
            rotate_left 1
            · intro w' hSw
              go_simp <;> with_reducible rfl
            try simp only [List.getElem_toArray, List.getElem_cons_zero, List.getElem_cons_succ, Act.put, List.setIfInBounds_toArray, List.set_cons_zero, List.set_cons_succ]
            refine wpAnyH_take (i := 11) (v := ?_) rfl (by kernel_rfl) (by kernel_rfl) (by kernel_rfl) (fun _ _ _ h => h) (Or.inl ⟨by rfl, ?_⟩) hS ?_
            rotate_left 1
            · intro w' hSw
              go_simp <;> with_reducible rfl
            try simp only [List.getElem_toArray, List.getElem_cons_zero, List.getElem_cons_succ, Act.put, List.setIfInBounds_toArray, List.set_cons_zero, List.set_cons_succ]
            refine wpAnyH_ready (rs := [12]) (by kernel_rfl) (by simp) (AllReadyH.cons rfl (fun K hK => ?_) AllReadyH.nil)
            go_simp
            refine hK _ _ trivial (fun hS => ?_)
            clear hK K
            try simp only [List.getElem_toArray, List.getElem_cons_zero, List.getElem_cons_succ, Act.put, List.setIfInBounds_toArray, List.set_cons_zero, List.set_cons_succ]
            refine wpAnyH_done (by kernel_rfl) ?_ _
            obtain ⟨l1, l2, l3, l4⟩ := toks_left rest
            clear hny HZ2 c0
            go_wp2_with fail
            try rw [hxd]
            (with_reducible refine (trimL_any rest _).mono ?_)
            rintro _ w8 ⟨rfl, b8⟩
            have hI8 := hI7.below b8
            go_wp2_with fail
            go_roundw
            case rel =>
              refine ⟨Lib.trimLeftS rest blanks, acc ++ [tok], _, rfl, by simp at hrl; omega, fun q => hr35 (hdm _ (l3 _ q)), l4, ?_, by simp at hal ⊢; omega, ?_, hI8⟩
              · rw [htk, hT, map_app, l1]
              · intro t ht
                rcases List.mem_append.1 ht with ht | ht
                · exact hok t ht
                · simp at ht; subst ht; exact hTok
            case measure =>
              show (Lib.trimLeftS rest blanks).toArray.size < (c :: r).toArray.size
              simp
              omega
end Go.Proofs.YtjebjninlejoeaaGreatDoor

