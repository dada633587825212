/- disk: the law's same, the walk. -/
import Derived.Test.YtcmbeolicopicaaGreatE22
namespace Go.Proofs.YtcmbeolicopicaaGreat
open Go.RowKit Go.Maps Go.ChangeMaps
set_option linter.unusedVariables false
set_option linter.unusedSectionVars false
set_option linter.unusedSimpArgs false
set_option maxRecDepth 100000

theorem oldF_at {L : List FE} (h : Srt L) {k : Nat} {f : FE} (hf : L[k]? = some f) : oldF L f.s = f.l ∧ synE L f.s = 0 := by
  unfold oldF synE
  rw [fd_mem h.dis (List.mem_of_getElem? hf)]
  exact ⟨rfl, rfl⟩
theorem owns_row_ {w : World} {base e size n : Nat} {A : Option Addr} {c : Nat} {xs : List Value} (h : w.ownsRow base e size (.slice A n c) n xs) : Row w e size (.slice A n c) ((A.map Addr.block).getD 0) n xs := by
  refine ⟨h.1, ?_⟩
  rcases h.2 with ⟨q, q2⟩ | ⟨g', cap, cur, q, _, hb, q2, q3, q4, q5⟩
  · injection q with e1 e2 e3
    subst e1 e3
    exact .inl ⟨by rw [q2], q2⟩
  · injection q with e1 e2 e3
    subst e1 e3
    exact .inr ⟨c, cur, rfl, hb, q2, q3, q5, fun _ => q4⟩
/-- Two rows of texts, in a row. -/
theorem two_texts {w : World} {N1 N2 n m c1 c2 : Nat} {A1 A2 : Option Addr} {xs ys : List Value} (h1 : w.ownsRow N1 9 1 (.slice A1 n c1) n xs) (h2 : w.ownsRow N2 9 1 (.slice A2 m c2) m ys) (hlt : ∀ b, (Value.slice A1 n c1).ownBlock = some b → b < N2) (hn : n ≤ 1000000 := by omega) (hm : m ≤ 1000000 := by omega) :
    ∃ (S : Nat → Prop) (ls : List Fs) (C : Nat → List Value), ls.length = 2 ∧ Fl (w.alloc (.cells #[.slice A1 n c1, .slice A2 m c2] 56)) 9 1 S ls C ∧ Outer (w.alloc (.cells #[.slice A1 n c1, .slice A2 m c2] 56)) S (some ⟨w.heap.size, 0, none⟩) 2 ls ∧ (∀ b, S b → (N1 ≤ b ∨ N2 ≤ b) ∧ b < (w.alloc (.cells #[.slice A1 n c1, .slice A2 m c2] 56)).heap.size) ∧ ∀ x ∈ ls, x.n ≤ 1000000 := by
  have hb : Below w.heap.size w (w.alloc (.cells #[.slice A1 n c1, .slice A2 m c2] 56)) := (Below.refl _ _).alloc (Nat.le_refl _) _
  have k1 := owns_keep (w' := w.alloc (.cells #[.slice A1 n c1, .slice A2 m c2] 56)) h1 (fun g e => hb.block g (owns_lt h1 g e))
  have k2 := owns_keep (w' := w.alloc (.cells #[.slice A1 n c1, .slice A2 m c2] 56)) h2 (fun g e => hb.block g (owns_lt h2 g e))
  have hsb : ∀ b, ((Value.slice A1 n c1).ownBlock = some b ∨ (Value.slice A2 m c2).ownBlock = some b) → (N1 ≤ b ∨ N2 ≤ b) ∧ b < w.heap.size := fun b q => by
    rcases q with q | q
    · exact ⟨.inl (owns_block h1 b q).1, (owns_block h1 b q).2⟩
    · exact ⟨.inr (owns_block h2 b q).1, (owns_block h2 b q).2⟩
  have hn8 := news_new w [.slice A1 n c1, .slice A2 m c2] 56
  refine ⟨fun b => (Value.slice A1 n c1).ownBlock = some b ∨ (Value.slice A2 m c2).ownBlock = some b, [⟨.slice A1 n c1, (A1.map Addr.block).getD 0, n⟩, ⟨.slice A2 m c2, (A2.map Addr.block).getD 0, m⟩], fun k => if k = 0 then xs else ys, rfl, ⟨fun k x hx => ?_, fun k x hx ho => ?_, fun k k' x x' hx hx' hne ho ho' => ?_⟩, ⟨⟨(fun e => by cases e), fun _ => ⟨_, rfl, ⟨fun q => ?_, by rw [World.size_alloc]; exact Nat.lt_succ_self _⟩, hn8⟩⟩, Nat.le_refl _, by decide⟩, fun b q => ⟨(hsb b q).1, Nat.lt_of_lt_of_le (hsb b q).2 hb.size⟩, fun x hx => ?_⟩
  · rcases k with _ | _ | k
    · simp at hx; subst hx; exact owns_row_ k1
    · simp at hx; subst hx; exact owns_row_ k2
    · simp at hx
  · have hq : ((Value.slice A1 n c1).ownBlock = some x.b ∨ (Value.slice A2 m c2).ownBlock = some x.b) := by
      rcases k with _ | _ | k
      · simp at hx; subst hx; exact .inl ho
      · simp at hx; subst hx; exact .inr ho
      · simp at hx
    exact ⟨hq, Nat.lt_of_lt_of_le (hsb _ hq).2 hb.size⟩
  · rcases k with _ | _ | k
    · rcases k' with _ | _ | k'
      · exact absurd rfl hne
      · simp at hx hx'
        subst hx hx'
        intro e
        have z1 := hlt _ ho
        have z2 := (owns_block h2 _ ho').1
        omega
      · simp at hx'
    · rcases k' with _ | _ | k'
      · simp at hx hx'
        subst hx hx'
        intro e
        have z1 := hlt _ ho'
        have z2 := (owns_block h2 _ ho).1
        omega
      · exact absurd rfl hne
      · simp at hx'
    · simp at hx
  · have := (hsb _ q).2
    exact Nat.lt_irrefl _ this
  · simp at hx
    rcases hx with rfl | rfl
    · exact hn
    · exact hm
theorem infoB : (Tryz.prog.info? 29).map (fun i => (i.zero, i.size, i.bytes)) = some (some (.slice none 0 0), 1, 24) := by kernel_rfl
section
variable {F : Nat → Prop} {D X n : Nat} {room : Int} {L : List FE} {w : World}
set_option maxHeartbeats 4000000 in
theorem same_any (h : Pr F D X room L L n w) (hs : ∀ f ∈ L, f.l.length ≤ 1000000) : Calls Tryz.prog 12 #[.pointer (some ⟨D, 0, none⟩), .pointer (some ⟨X, 0, none⟩)] w fun e w' => e = .returned (.bool true) ∧ Below w.heap.size w w' := by
  obtain ⟨hn1, hn2, hsrt, hlen⟩ := h.plain
  obtain ⟨i0, hi, hz0, hz1, hz2⟩ := info_parts infoB
  have hLs : (L.map FE.s).length = L.length := by simp
  have HLS := Lib.hid hLs
  have HSR := Lib.hid hsrt
  have HLN := Lib.hid hlen
  have HSZ := Lib.hid hs
  have H := Lib.hid h
  clear h hLs hsrt hlen hs
  go_enter Tryz.func12, Tryz.ntmps12
  go_wp2_with fail
  refine (pr_list H.out).mono ?_
  rintro _ w1 ⟨u, rfl, hu, hb1⟩
  have hu1 : w1.ownsRow w.heap.size 9 1 u (L.map FE.s).length ((L.map FE.s).map nmV) := by rw [List.length_map, List.map_map]; exact hu
  obtain ⟨AL, cL, rfl, hrd⟩ := owned_nms hu1
  rw [HLS.out] at hu1
  have HU := Lib.hid hu1
  have HR := Lib.hid hrd
  clear hu hrd hu1
  have HB1 := Lib.hid hb1
  rw [HLS.out]
  go_wp2_with fail
  refine (pr_rlist (H.out.below hb1)).mono ?_
  rintro _ w2 ⟨u2, rfl, hu2, hb2⟩
  have hu3 : w2.ownsRow w1.heap.size 9 1 u2 (L.map FE.s).length ((L.map FE.s).map nmV) := by rw [List.length_map, List.map_map]; exact hu2
  obtain ⟨A2, c2, rfl, hrd2⟩ := owned_nms hu3
  have hst := SameTexts_any _ _ AL A2 cL c2 (L.map FE.s) (L.map FE.s) w2 (HR.out.keep (fun b q => hb2.block b q) (fun _ q => q)) hrd2 (by rw [HLS.out]; omega) (by rw [HLS.out]; omega)
  rw [HLS.out, decide_eq_true rfl] at hst
  rw [HLS.out]
  have hbw := hb1.trans (hb2.mono hb1.size)
  clear hu2 hu3 hrd2 hb1
  go_wp2_with fail
  (with_reducible refine hst.mono ?_)
  rintro _ w3 ⟨rfl, q, hq⟩
  clear hst
  have hb3 : Below w2.heap.size w2 w3 := by rw [hq]; exact below_drewN (Below.refl _ _) q
  clear hq
  have hbw3 := hbw.trans (hb3.mono hbw.size)
  have hb13 := hb2.trans (hb3.mono hb2.size)
  clear hbw hb2 hb3
  go_wp2_with fail
  refine (pr_used (H.out.below hbw3)).mono ?_
  rintro _ w4 ⟨rfl, hb4⟩
  have hbw4 := hbw3.trans (hb4.mono hbw3.size)
  have hb14 := hb13.trans (hb4.mono hb13.size)
  clear hbw3 hb13 hb4
  go_wp2_with fail
  refine (pr_rused (H.out.below hbw4)).mono ?_
  rintro _ w4 ⟨rfl, rfl⟩
  have hE : (((usedF L : Nat) : Int) != ((usedF L : Nat) : Int)) = false := by simp
  go_wp2_with fail
  clear hE
  have HT : Hid (TI w4.heap.size [] (.slice none 0 0) w4) := Lib.hid (TI.nil _ _)
  have HB14 := Lib.hid hb14
  have HBW4 := Lib.hid hbw4
  have hs14 := hb14.size
  have hsw1 := HB1.out.size
  clear hb14 hbw4
  go_loopw [6, 7] (fun v i wr => ∃ (k : Nat) (T : List TV), k ≤ L.length ∧ T.length ≤ k ∧ i = .int .i64 k ∧ Hid (TI w4.heap.size T v wr) ∧ Hid (Below w4.heap.size w4 wr)) (fun _ i _ => L.length - (intOf i).toNat)
  case atStart => exact ⟨0, [], Nat.zero_le _, Nat.le_refl _, rfl, HT, Lib.hid (Below.refl _ _)⟩
  case round =>
    clear HT
    obtain ⟨k, T, hk, hT, rfl, HT, HB⟩ := hrel
    have hbr := HBW4.out.trans (HB.out.mono HBW4.out.size)
    have hb1r := HB14.out.trans (HB.out.mono HB14.out.size)
    by_cases hlt : k < L.length
    · have d1 : decide ((k : Int) < (L.length : Int)) = true := decide_eq_true (by omega)
      obtain ⟨f, hf⟩ : ∃ f, L[k]? = some f := ⟨_, List.getElem?_eq_getElem hlt⟩
      obtain ⟨hof, hse⟩ := oldF_at HSR.out hf
      have hfm := List.mem_of_getElem? hf
      have hrk := HR.out.keep (w' := wr) (K' := fun b => b < w1.heap.size) (fun b q => hb1r.block b q) (fun _ q => q)
      obtain ⟨a, x, rfl, _, ca, hx⟩ := hrk.nm_at (k := k) (by rw [HLS.out]; exact hlt)
      obtain rfl : x = f.s := by have := hx.out; rw [List.getElem?_map, hf] at this; injection this with this; exact this.symm
      have hfs := (HLN.out f hfm).2.2
      have hfz := HSZ.out f hfm
      have hkeep : ∀ W, Below wr.heap.size wr W → W.cell? (a.add k) = some (.string ⟨f.s.toArray⟩) := fun W hW => (hW.cell (World.block_lt_of_cell? wr _ ca)).trans ca
      have hp1 := H.out.below hbr
      have HK := Lib.hid hkeep
      clear hrk hx hf hfm hkeep
      unfold nmV at ca
      have hcon := pr_read hp1 f.s (by omega)
      rw [hof, hse] at hcon
      unfold nmV at hcon
      go_wp2_with fail
      refine hcon.mono ?_
      rintro _ w6 ⟨A6, c6, rfl, hd6, hb6⟩
      clear hcon ca
      have ca6 := HK.out w6 hb6
      have hcon := pr_rread (hp1.below hb6) f.s
      rw [hof, hse] at hcon
      unfold nmV at hcon
      go_wp2_with fail
      refine hcon.mono ?_
      rintro _ w7 ⟨A7, c7, rfl, hd7, hb7⟩
      have hsb := SameBytes_any _ _ A6 A7 c6 c7 f.l f.l w7 ((hd6.below hb7).rd.1) (hd7.rd.1) (by omega) (by omega)
      rw [decide_eq_true rfl] at hsb
      clear hcon ca6
      go_wp2_with fail
      (with_reducible refine hsb.mono ?_)
      rintro _ w8 ⟨rfl, q, hq⟩
      have hb8 : Below w7.heap.size w7 w8 := by rw [hq]; exact below_drewN (Below.refl _ _) q
      have hb68 := hb7.trans (hb8.mono hb7.size)
      have hbr8 := hb6.trans (hb68.mono hb6.size)
      have hd8 := hd6.below hb68
      clear hsb hq hb7 hb8 hd6 hd7
      have hb9 : Below w8.heap.size w8 (w8.alloc (.cells #[.slice A6 f.l.length c6] 29)) := (Below.refl _ _).alloc (Nat.le_refl _) _
      have hbr9 := hbr8.trans (hb9.mono hbr8.size)
      have hrow9 := (HT.out.below hbr9).row
      have hd9 := hd8.below hb9
      have hsr := HB.out.size
      have hsr9 := hbr9.size
      go_wp2_with (at_builtin; refine wpList_append_own _ (by rfl) (.tmp 59) (.tmp 61) 74 (by rfl) w4.heap.size 29 i0 _ 1 24 Tryz.underlying74 hi hz0 hz1 hz2 rfl (by decide) _ T.length _ (by rfl) hrow9 ⟨w8.heap.size, 0, none⟩ 1 1 [.slice A6 f.l.length c6] (by rfl) (by rfl) (news_new w8 [.slice A6 f.l.length c6] _) (fun u hu => by simp at hu; subst hu; rfl) (by unfold maxLen; omega) (by omega) (by omega) ?_; intro v10 W10 hr10 hg10 _)
      have HT10 := Lib.hid (HT.out.push (p := ⟨A6, c6, f.l⟩) hsr hbr9 hd9 hfz hg10 hr10)
      have HB10 := Lib.hid (HB.out.trans ((hbr9.mono hsr).trans (grown_below hg10 (fun g e => (owns_block hrow9 g e).1) (by omega))))
      go_roundw
      case rel => exact ⟨k + 1, T ++ [⟨A6, c6, f.l⟩], by omega, by simp; omega, by go_num, HT10, HB10⟩
      case measure => simp [intOf]; omega
    · have d1 : decide ((k : Int) < (L.length : Int)) = false := decide_eq_false (by omega)
      obtain ⟨AT, cT, rfl, hfl, hou, hsT⟩ := HT.out.apart
      have hap := ApartBytes_any _ _ _ AT cT wr hfl hou (fun b q => (hsT b q).2) (by rw [List.length_map]; omega) (fun x hx => by
        obtain ⟨p, hp, rfl⟩ := List.mem_map.1 hx
        exact HT.out.len p hp)
      rw [List.length_map] at hap
      clear hfl hou
      go_wp2_with fail
      (with_reducible refine hap.mono ?_)
      rintro _ w6 ⟨rfl, hag⟩
      clear hap
      have hS4 : ∀ b, (∃ p ∈ T, p.val.ownBlock = some b) → w4.heap.size ≤ b := fun b q => (hsT b q).1
      have hbw6 : Below w.heap.size w w6 := hbr.trans (hag.below hbr.size fun j j1 q => by have := hS4 j q; have := HBW4.out.size; omega)
      have hb16 : Below w1.heap.size w1 w6 := hb1r.trans (hag.below hb1r.size fun j j1 q => by have := hS4 j q; omega)
      clear hag hsT hS4 hbr hb1r
      go_wp2_with fail
      refine (pr_list (H.out.below hbw6)).mono ?_
      rintro _ w7 ⟨u3, rfl, hu3, hb7⟩
      obtain ⟨A3, c3, rfl⟩ := owns_form hu3
      have hb17 := hb16.trans (hb7.mono hb16.size)
      have hbw7 := hbw6.trans (hb7.mono hbw6.size)
      have hl7 := owns_keep (w' := w7) HU.out (fun g e => hb17.block g (owns_lt HU.out g e))
      have h16 := hb16.size
      obtain ⟨S, ls, C, hl2, hFl, hOu, hSb, hLn⟩ := two_texts hl7 hu3 (fun b e => by have := owns_lt HU.out b e; omega)
      have hbw8 : Below w.heap.size w (w7.alloc (.cells #[.slice AL L.length cL, .slice A3 L.length c3] 56)) := hbw7.alloc hbw7.size _
      have hap := ApartTexts_any S ls C _ 2 _ hFl hOu (fun b q => (hSb b q).2) (by omega) hLn
      rw [hl2] at hap
      have hSw : ∀ b, S b → w.heap.size ≤ b := fun b q => by
        rcases (hSb b q).1 with q | q
        · exact q
        · have := hbw6.size; omega
      clear hFl hOu hSb hLn hl7 hu3 hl2
      go_wp2_with fail
      (with_reducible refine hap.mono ?_)
      rintro _ w9 ⟨rfl, hag⟩
      have HFN := Lib.hid (hbw8.trans (hag.below hbw8.size fun j j1 q => by have := hSw j q; omega))
      clear hap hag hSw
      go_wp2_with fail
      go_ret
      exact ⟨rfl, HFN.out⟩
end
end Go.Proofs.YtcmbeolicopicaaGreat

