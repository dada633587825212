/- disk: DiskSafe, the walk. -/
import Derived.Test.YtcmbeolicopicaaDSafe9
import Derived.StillTailTactics
namespace Go.Proofs.Ytcmbeolicopicaa
open Go.RowKit Go.Maps Go.ChangeMaps
set_option linter.unusedVariables false
set_option linter.unusedSectionVars false
set_option linter.unusedSimpArgs false
set_option maxRecDepth 100000

theorem Dos.at_ {w : World} {A : Option Addr} {c : Nat} {xs : List DoV} (h : Dos w (fun b => b < w.heap.size) A c xs) {k : Nat} (hk : k < xs.length) :
    ∃ (a : Addr) (d : DoV) (E : Option Addr) (e : Nat), A = some a ∧ (∀ W, Below w.heap.size w W → W.cell? (a.add (k * 5)) = some (.int .i64 d.o) ∧ W.cell? ⟨(a.add (k * 5)).block, (a.add (k * 5)).off + 1, none⟩ = some (nmV d.s) ∧ W.cell? ⟨(a.add (k * 5)).block, (a.add (k * 5)).off + 3, none⟩ = some (.int .i64 d.k) ∧ W.cell? ⟨(a.add (k * 5)).block, (a.add (k * 5)).off + 4, none⟩ = some (.slice E d.u.length e) ∧ Rd W (fun b => b < w.heap.size) E e (u8s (bI d.u))) ∧ (I64 d.o ∧ I64 d.k ∧ d.s.length ≤ maxLen ∧ d.u.length ≤ maxLen) := by
  obtain ⟨a, e, hc⟩ := h.2.2.2 (by rintro rfl; simp at hk)
  obtain ⟨E, d, hb, hcell, hr, h1, h2, i1, i2, i3, i4⟩ := hc k _ (List.getElem?_eq_getElem hk)
  refine ⟨a, _, E, d, e, fun W hW => ?_, i1, i2, i3, Nat.le_trans h1 h2⟩
  have hq : ∀ j, j < 5 → W.cell? ((a.add (k * 5)).add j) = _ := fun j hj => (World.cell?_of_block (by rw [add_blk]; exact hW.block _ hb)).trans (hcell j hj)
  exact ⟨hq 0 (by omega), hq 1 (by omega), hq 3 (by omega), hq 4 (by omega), hr.keep (fun b q => hW.block b q) (fun _ q => q)⟩
theorem conv_one (w : World) (x : Nat) (hx : x < 256) : (convert 29 9 (.slice (some ⟨w.heap.size, 0, none⟩) 1 1)).run Try.prog (w.alloc (.cells #[.int .u8 (x : Nat)] 5)) = .ok (.string ⟨#[UInt8.ofNat x]⟩) (w.alloc (.cells #[.int .u8 (x : Nat)] 5)) := by
  refine run_convert_bytes_back _ 29 9 5 ⟨w.heap.size, 0, none⟩ 1 [UInt8.ofNat x] Try.underlying29 Try.underlying5 Try.underlying9 fun j hj => ?_
  have h := (Bk.new w 5 [.int .u8 (x : Nat)]).cell 0
  obtain rfl : j = 0 := by simp at hj; omega
  rw [show (Addr.add ⟨w.heap.size, 0, none⟩ 0) = ⟨w.heap.size, 0, none⟩ from rfl, h]
  simp [UInt8.toNat_ofNat', Nat.mod_eq_of_lt hx]
theorem ba_app (x y : List UInt8) : (ByteArray.mk x.toArray ++ ByteArray.mk y.toArray) = ByteArray.mk (x ++ y).toArray := by
  apply ByteArray.ext
  simp
theorem SI.drew {w : World} {D m1 m2 : Nat} {v : Value} {g : Nat} {L : List FE} {ns : List Nm} {al sl : Nm → Option Value} {n : Nat} {W : World} (h : SI w D m1 m2 v g L ns al sl n W) : SI w D m1 m2 v g L ns al sl n W.drew := h.below (Below.refl _ _).drew
theorem SI.name_at {w : World} {D m1 m2 : Nat} {a : Addr} {l c g : Nat} {L : List FE} {ns : List Nm} {al sl : Nm → Option Value} {n : Nat} {W : World} (h : SI w D m1 m2 (.slice (some a) l c) g L ns al sl n W) {j : Nat} {s : Nm} (hj : ns[j]? = some s) : W.cell? (a.add j) = some (nmV s) := by
  obtain ⟨A, c', hv, hr⟩ := h.names
  cases hv
  exact hr.cells a rfl j _ (by rw [List.getElem?_map, hj]; rfl)
theorem has_prefix (x y : List UInt8) (h : y <+: x) (w : World) : Calls Try.prog 12 #[.string ⟨x.toArray⟩, .string ⟨y.toArray⟩] w fun e w' => e = .returned (.bool true) ∧ w' = w := by
  refine (Try.strings_HasPrefix _ _ w).mono fun e w' q => ⟨q.1.trans ?_, q.2⟩
  have : Lib.hasPrefix x y = true := by unfold Lib.hasPrefix; exact List.isPrefixOf_iff_prefix.2 h
  simp [this]
set_option maxHeartbeats 40000000 in
theorem DiskSafe_any (A : Option Addr) (c : Nat) (ds : List DoV) (w : World) (h : Dos w (fun b => b < w.heap.size) A c ds) :
    Calls Try.prog 3 #[.slice A ds.length c] w fun e w' => e = .returned (.bool true) ∧ Below w.heap.size w w' := by
  have hmax : ds.length ≤ maxLen := Nat.le_trans h.2.1 h.2.2.1
  unfold maxLen at hmax
  have H := Lib.hid h
  clear h
  have hmm := @run_makeMap Try.prog
  go_enter Try.func3, Try.ntmps3
  go_wp2_with fail
  refine (awake_any w).mono ?_
  rintro _ w1 ⟨rfl, b1⟩
  go_wp2_with fail
  refine (bx_new 1048576 w1).mono ?_
  rintro _ w2 ⟨D, rfl, x0⟩
  rw [show max (1048576 : Int) 0 = 1048576 from rfl] at x0
  replace x0 := SI.start (x0.since b1)
  have X0 := Lib.hid x0
  clear x0 b1
  go_wp2_with fail
  generalize ((w2.alloc (.map #[] 0)).alloc (.map #[] 0)) = W0 at *
  generalize hm1 : w2.heap.size = m1 at *
  generalize hm2 : m1 + 1 = m2 at *
  clear hm1 hm2 hmm
  go_loopw [6, 7] (fun nm i wr => ∃ (k g n : Nat) (L : List FE) (ns : List Nm) (al sl : Nm → Option Value), k ≤ ds.length ∧ k ≤ 100 ∧ i = .int .i64 k ∧ n ≤ k ∧ Hid (Sq L ns al sl k) ∧ Hid (SI w D m1 m2 nm g L ns al sl n wr)) (fun _ i _ => ds.length - (intOf i).toNat)
  case atStart => exact ⟨0, 0, 0, _, _, _, _, Nat.zero_le _, Nat.zero_le _, rfl, Nat.le_refl _, Lib.hid Sq.start, X0⟩
  case round =>
    clear X0
    obtain ⟨k, g, n, L, ns, al, sl, hk, hk1, rfl, hn, HQ, HI⟩ := hrel
    by_cases hlt : k < ds.length
    · by_cases hlt2 : k < 100
      · have d1 : decide ((k : Int) < (ds.length : Int)) = true := decide_eq_true (by omega)
        have d2 : decide ((k : Int) < 100) = true := decide_eq_true (by omega)
        obtain ⟨a, d, E, e, rfl, hD, i1, i2, i3, i4⟩ := H.out.at_ hlt
        obtain ⟨dO, dS, dT, dK, u⟩ := d
        dsimp only at hD i1 i2 i3 i4
        have HD := Lib.hid hD
        clear hD
        obtain ⟨NA, NC, rfl, -⟩ := HI.out.names
        have c4 := (HD.out wr HI.out.bx.low).2.2.2.1
        by_cases h5 : 400 < u.length
        · have d5 : decide ((400 : Int) < (u.length : Int)) = true := decide_eq_true (by omega)
          go_wp2_with fail
          go_ret
          exact ⟨rfl, HI.out.bx.low⟩
        have d5 : decide ((400 : Int) < (u.length : Int)) = false := decide_eq_false (by omega)
        obtain ⟨cc, hc4, hpc⟩ : ∃ cc : Nat, cc < 4 ∧ ∀ W, Calls Try.prog 7 #[.int .i64 dS.length, .int .i64 4] W fun e w' => e = .returned (.int .i64 cc) ∧ W = w' := by
          have := pickI_range dS.length 4 (by omega)
          refine ⟨(pickI dS.length 4).toNat, by omega, fun W => (pick_any dS.length 4 W (by omega) (by omega)).mono fun e w' ⟨q1, q2⟩ => ⟨by rw [q1]; congr 2 <;> omega, q2⟩⟩
        obtain ⟨oo, ho4, hpo⟩ : ∃ oo : Nat, oo < 4 ∧ ∀ W, Calls Try.prog 7 #[.int .i64 dO, .int .i64 4] W fun e w' => e = .returned (.int .i64 oo) ∧ W = w' := by
          have := pickI_range dO 4 (by omega)
          refine ⟨(pickI dO 4).toNat, by omega, fun W => (pick_any dO 4 W (by omega) (by omega)).mono fun e w' ⟨q1, q2⟩ => ⟨by rw [q1]; congr 2 <;> omega, q2⟩⟩
        have HPC := Lib.hid hpc
        have HPO := Lib.hid hpo
        clear hpc hpo
        have c1 := (HD.out wr HI.out.bx.low).2.1
        have hI1 := HI.out.below ((Below.refl wr.heap.size wr).alloc (Nat.le_refl _) (.cells #[.int .u8 (97 + (cc : Int))] 5))
        have c0 := (HD.out _ hI1.bx.low).1
        have HI1 := Lib.hid hI1
        clear hI1
        unfold nmV at c1
        obtain ⟨s, hse, hsk, hsl⟩ : ∃ s : Nm, (ByteArray.mk #[102] ++ ByteArray.mk #[97 + UInt8.ofNat cc]) = ⟨s.toArray⟩ ∧ okN s = true ∧ s.length ≤ 24 := by
          have : cc = 0 ∨ cc = 1 ∨ cc = 2 ∨ cc = 3 := by omega
          rcases this with rfl | rfl | rfl | rfl
          · exact ⟨[102, 97], by decide, by decide, by decide⟩
          · exact ⟨[102, 98], by decide, by decide, by decide⟩
          · exact ⟨[102, 99], by decide, by decide, by decide⟩
          · exact ⟨[102, 100], by decide, by decide, by decide⟩
        have hcv := conv_one wr (97 + cc) (by omega)
        rw [show (((97 + cc : Nat)) : Int) = 97 + (cc : Int) by omega] at hcv
        have hop : oo = 2 ∨ oo = 3 ∨ (((oo : Int) == 2) = false ∧ ((oo : Int) == 3) = false) := by
          by_cases q3 : oo = 2
          · exact .inl q3
          by_cases q4 : oo = 3
          · exact .inr (.inl q4)
          exact .inr (.inr ⟨beq_eq_false_iff_ne.2 (by omega), beq_eq_false_iff_ne.2 (by omega)⟩)
        go_wp2_with fail
        refine (HPC.out _).mono ?_
        rintro _ _ ⟨rfl, rfl⟩
        go_wp2_with fail
        refine (HPO.out _).mono ?_
        rintro _ _ ⟨rfl, rfl⟩
        clear hcv c0 c1 c4 HI HPC HPO hse
        generalize wr.alloc (.cells #[.int .u8 (97 + (cc : Int))] 5) = W at *
        generalize wr.heap.size = X
        clear wr
        rcases hop with rfl | rfl | ⟨q2, q3⟩
        ·
          as_aux_lemma =>
            have d6 : (((2 : Nat) : Int) == 2) = true := rfl
            go_wp2_with fail
            refine (HI1.out.sync s hsl HQ.out).mono ?_
            rintro _ W2 ⟨L2, z, rfl, hz, hI2, hQ2⟩
            have HQ2 := Lib.hid hQ2
            clear hQ2 HI1
            obtain ⟨_, _, hv, hR⟩ := hI2.names
            cases hv
            have hzb : (z == 0) = decide (s ∈ ns) := hz
            clear hz
            go_wp2_with fail
            refine (has_any _ _ _ ns s W2 hR (by have := HQ.out.few; omega)).mono ?_
            rintro _ _ ⟨rfl, q, rfl⟩
            have hI3 := hI2.below (below_drewN (Below.refl _ _) q)
            clear hI2 hR
            generalize W2.drewN q = W3 at *
            clear W2
            generalize decide (s ∈ ns) = bb at *
            have hbb : (bb != bb) = false := by cases bb <;> rfl
            have hlk := hI3.al.look Try.underlying26 s (by omega) (z := nmV []) (fun _ => rfl)
            rw [HQ.out.old s] at hlk
            obtain ⟨W4, hup, ht4, hm4⟩ := hI3.sl.upd Try.underlying27 s (by omega) (.int .i64 ((tB (oldF L s)).length : Nat))
            have HI4 := Lib.hid (hI3.putSafe ht4 hm4)
            clear hI3 ht4 hm4
            unfold nmV at hlk hup
            go_wp2_with fail
            go_roundw
            case rel => exact ⟨k + 1, g, n, _, _, _, _, by omega, by omega, by go_num, by omega, HQ2, HI4⟩
            case measure => simp [intOf]; omega
        ·
          as_aux_lemma =>
            have d6 : (((3 : Nat) : Int) == 2) = false := rfl
            have d7 : (((3 : Nat) : Int) == 3) = true := rfl
            obtain ⟨-, -, c3, -, -⟩ := HD.out W HI1.out.bx.low
            go_wp2_with fail
            refine (HI1.out.crash dK).mono ?_
            rintro _ W2 ⟨rfl, hI2⟩
            clear c3 HI1
            have HI2 : Hid (SI w D m1 m2 (.slice NA ns.length NC) g (L.map (crF dK)) ns (alC (L.map (crF dK)) ns al 0) (slC (L.map (crF dK)) ns sl 0) n W2) := by
              rw [al_zero, sl_zero]; exact Lib.hid hI2
            clear hI2
            have HQ2 := Lib.hid (HQ.out.crash dK)
            go_wp2_with fail
            go_loopw [9, 10] (fun us j wr => ∃ jj : Nat, jj ≤ ns.length ∧ us = .int .i64 (usC (L.map (crF dK)) ns jj : Nat) ∧ j = .int .i64 jj ∧ Hid (SI w D m1 m2 (.slice NA ns.length NC) g (L.map (crF dK)) ns (alC (L.map (crF dK)) ns al jj) (slC (L.map (crF dK)) ns sl jj) n wr)) (fun _ j _ => ns.length - (intOf j).toNat)
            case atStart => exact ⟨0, Nat.zero_le _, rfl, rfl, HI2⟩
            case round =>
              clear HI2
              obtain ⟨jj, hjj, rfl, rfl, HI2⟩ := hrel
              have hfew := HQ.out.few
              by_cases hjl : jj < ns.length
              · have d8 : decide ((jj : Int) < (ns.length : Int)) = true := decide_eq_true (by omega)
                obtain ⟨_, _, hv, hR⟩ := HI2.out.names
                cases hv
                obtain ⟨a2, s2, rfl, _, ca, hx⟩ := hR.nm_at hjl
                clear hR
                unfold nmV at ca
                have hs2 := HQ.out.nm s2 (List.mem_of_getElem? hx.out)
                obtain ⟨g2, e1, e2, e3, e4, e5, e6, e7, e8⟩ := HQ.out.cr_at dK hx.out
                have hal : alC (L.map (crF dK)) ns al jj s2 = some (nmV (tB g2.l)) := by
                  rw [al_at HQ.out.nd al hx.out, HQ.out.al s2, e1]; rfl
                have hsl2 : (slC (L.map (crF dK)) ns sl jj s2).getD (.int .i64 0) = .int .i64 (g2.n : Nat) := by
                  rw [sl_at HQ.out.nd sl hx.out, HQ.out.sl s2, e1]; rfl
                have hstA := al_step (L := L.map (crF dK)) al hx.out e2
                have hstS := sl_step (L := L.map (crF dK)) sl hx.out e2
                have hstU := us_step (L := L.map (crF dK)) hx.out e2
                have hle := HQ2.out.us_le (jj + 1)
                rw [hstU] at hle
                have hle2 := HQ2.out.used
                go_wp2_with fail
                refine (HI2.out.read s2 hs2 e2 (HQ2.out.rng _ (fd_some e2).1)).mono ?_
                rintro _ W3 ⟨bA, bc, rfl, hb, hI3⟩
                clear HI2 ca
                have htl : (tB (crF dK g2).l).length = (crF dK g2).l.length := by simp [tB]
                generalize hbt : tB (crF dK g2).l = bt at *
                generalize hgt : tB g2.l = gt at *
                rw [← htl] at hstS hstU e3 e4 e5 hle
                have HST := Lib.hid (And.intro hstA (And.intro hstS hstU))
                have E5 := Lib.hid e5
                clear htl e8 hbt hgt hstA hstS hstU e5
                go_wp2_with fail
                obtain ⟨-, -, c3, -, -⟩ := HD.out W3.drew hI3.drew.bx.low
                have ca := hI3.drew.name_at hx.out
                have hlk1 := hI3.drew.al.look Try.underlying26 s2 (by omega) (z := nmV []) (fun _ => rfl)
                rw [hal] at hlk1
                have hlk2 := hI3.drew.sl.look Try.underlying27 s2 (by omega) (z := .int .i64 0) (fun _ => rfl)
                rw [hsl2] at hlk2
                have hbD := hb.keep (w' := W3.drew) (fun _ _ => rfl) (fun _ q => q)
                have hID := hI3.drew
                clear hI3 hb
                have hcv := conv_text bt hbD
                have d9 : decide ((bt.length : Int) < (g2.n : Int)) = false := decide_eq_false (by omega)
                refine wp_region_still_lit (by kernel_rfl) (by kernel_rfl) ?_
                change wpStill _ _ W3.drew (fun a' => (_ : Exit → Act → World → Prop) .normal a' W3.drew) _ _
                generalize W3.drew = WD at *
                unfold nmV at hlk1 hlk2 ca
                simp only [Option.getD_some] at hlk1
                repeat still_step
                still_call (has_prefix gt bt e6 _)
                repeat still_step
                by_cases h1 : dK < 1
                · have dn : decide (dK < 1) = true := decide_eq_true h1
                  have dm : ((bt.length : Int) != (g2.n : Int)) = false := by rw [E5.out h1]; simp
                  clear h1
                  rw [dn]
                  clear dn
                  repeat (with_reducible (refine wpStill_step (fun K hK => ?_)); go_simp; refine hK _ ?_; clear hK K)
                  as_aux_lemma =>
                    refine wpStill_nil ?_
                    clear hlk1 hlk2 ca hcv
                    go_wp2_with fail
                    refine wp_region_still_tail 7 (by kernel_rfl) (by kernel_rfl) ?_
                    change wpStill _ _ WD.drew (fun a' => wpList _ _ _ _ a' WD.drew) _ _
                    have hI4 := hID.drew
                    clear hID
                    have hb4 := hbD.keep (w' := WD.drew) (fun _ _ => rfl) (fun _ q => q)
                    clear hbD
                    generalize WD.drew = WE at *
                    have ca := hI4.name_at hx.out
                    have hcv := conv_text bt hb4
                    obtain ⟨WF, hup, ht4, hm4⟩ := hI4.al.upd Try.underlying26 s2 (by omega) (nmV bt)
                    have hI5 := hI4.putAll ht4 hm4
                    have ca5 := hI5.name_at hx.out
                    obtain ⟨WG, hup2, ht5, hm5⟩ := hI5.sl.upd Try.underlying27 s2 (by omega) (.int .i64 (bt.length : Nat))
                    have HI6 := Lib.hid (hI5.putSafe ht5 hm5)
                    clear hI4 hb4 ht4 hm4 hI5 ht5 hm5
                    unfold nmV at hup hup2 ca ca5
                    simp only [List.take_succ_cons, List.take_zero, List.drop_succ_cons, List.drop_zero]
                    repeat (with_reducible (refine wpStill_step (fun K hK => ?_)); go_simp; refine hK _ ?_; clear hK K)
                    refine wpStill_nil ?_
                    go_wp2_with fail
                    go_roundw
                    case rel => exact ⟨jj + 1, by omega, by rw [HST.out.2.2]; go_num, by go_num, by rw [← HST.out.1, ← HST.out.2.1]; exact HI6⟩
                    case measure => simp [intOf]; omega
                · have dn : decide (dK < 1) = false := decide_eq_false h1
                  clear h1
                  rw [dn]
                  clear dn
                  repeat (with_reducible (refine wpStill_step (fun K hK => ?_)); go_simp; refine hK _ ?_; clear hK K)
                  as_aux_lemma =>
                    refine wpStill_nil ?_
                    clear hlk1 hlk2 ca hcv
                    go_wp2_with fail
                    refine wp_region_still_tail 7 (by kernel_rfl) (by kernel_rfl) ?_
                    change wpStill _ _ WD.drew (fun a' => wpList _ _ _ _ a' WD.drew) _ _
                    have hI4 := hID.drew
                    clear hID
                    have hb4 := hbD.keep (w' := WD.drew) (fun _ _ => rfl) (fun _ q => q)
                    clear hbD
                    generalize WD.drew = WE at *
                    have ca := hI4.name_at hx.out
                    have hcv := conv_text bt hb4
                    obtain ⟨WF, hup, ht4, hm4⟩ := hI4.al.upd Try.underlying26 s2 (by omega) (nmV bt)
                    have hI5 := hI4.putAll ht4 hm4
                    have ca5 := hI5.name_at hx.out
                    obtain ⟨WG, hup2, ht5, hm5⟩ := hI5.sl.upd Try.underlying27 s2 (by omega) (.int .i64 (bt.length : Nat))
                    have HI6 := Lib.hid (hI5.putSafe ht5 hm5)
                    clear hI4 hb4 ht4 hm4 hI5 ht5 hm5
                    unfold nmV at hup hup2 ca ca5
                    simp only [List.take_succ_cons, List.take_zero, List.drop_succ_cons, List.drop_zero]
                    repeat (with_reducible (refine wpStill_step (fun K hK => ?_)); go_simp; refine hK _ ?_; clear hK K)
                    refine wpStill_nil ?_
                    go_wp2_with fail
                    go_roundw
                    case rel => exact ⟨jj + 1, by omega, by rw [HST.out.2.2]; go_num, by go_num, by rw [← HST.out.1, ← HST.out.2.1]; exact HI6⟩
                    case measure => simp [intOf]; omega
              · obtain rfl : jj = ns.length := by omega
                have d8 : decide ((ns.length : Int) < (ns.length : Int)) = false := decide_eq_false (by omega)
                obtain ⟨_, _, hv, _⟩ := HI2.out.names
                cases hv
                have hus := HQ2.out.us_all
                have hn2 : n ≤ 100 := by omega
                go_wp2_with fail
                refine (HI2.out.copy hn2).mono ?_
                rintro _ W3 ⟨D2, B2, rfl, hc, hB, hlo⟩
                go_wp2_with fail
                refine (HI2.out.crash2 hc hB hlo (-1)).mono ?_
                rintro _ W4 ⟨rfl, hI4, hc4⟩
                rw [HQ.out.again] at hI4
                clear HI2 hc hB hlo
                go_wp2_with fail
                refine hI4.used.mono ?_
                rintro _ W5 ⟨rfl, b5⟩
                have hI5 := Lib.hid (hI4.below b5)
                have hc5 := hc4.below b5
                clear hI4 hc4 b5
                have huu : ((usedF (L.map (crF dK)) : Int) != (usedF (L.map (crF dK)) : Int)) = false := by simp
                clear hus
                go_wp2_with fail
                refine (op_used hc5).mono ?_
                rintro _ W6 ⟨rfl, b6⟩
                have HI6 := Lib.hid (hI5.out.below b6)
                clear hc5 hI5 b6
                go_wp2_with fail
                go_roundw
                case rel => exact ⟨k + 1, g, n, _, _, _, _, by omega, by omega, by go_num, by omega, HQ2, HI6⟩
                case measure => simp [intOf]; omega
        ·
          as_aux_lemma =>
            obtain ⟨-, -, -, c4, hu⟩ := HD.out W HI1.out.bx.low
            go_wp2_with fail
            refine (HI1.out.append HQ.out hk1 (by omega) hsk hsl (by omega) hu (fun b hb => Nat.lt_of_lt_of_le hb HI1.out.bx.low.size)).mono ?_
            rintro _ W2 ⟨rfl, hI2⟩
            clear c4 hu HI1
            obtain ⟨_, _, hv, hR⟩ := hI2.names
            cases hv
            go_wp2_with fail
            refine (has_any _ _ _ ns s W2 hR (by have := HQ.out.few; omega)).mono ?_
            rintro _ _ ⟨rfl, q, rfl⟩
            have hI3 := hI2.below (below_drewN (Below.refl _ _) q)
            clear hI2 hR
            generalize W2.drewN q = W3 at *
            clear W2
            have HQ3 := Lib.hid (HQ.out.app (u := u) hsk hsl (by omega) hk1)
            by_cases hm : s ∈ ns
            · rw [if_pos hm] at HQ3
              rw [decide_eq_true hm]
              as_aux_lemma =>
                obtain ⟨-, -, -, c4, hu⟩ := HD.out _ hI3.drew.bx.low
                have hlk := hI3.drew.al.look Try.underlying26 s (by omega) (z := nmV []) (fun _ => rfl)
                rw [HQ.out.old s] at hlk
                have hcv := conv_text u hu
                obtain ⟨WE, hup, ht4, hm4⟩ := hI3.drew.al.upd Try.underlying26 s (by omega) (nmV (tB (oldF L s) ++ u))
                have HI4 := Lib.hid (hI3.drew.putAll ht4 hm4)
                clear hI3 ht4 hm4 hu
                go_wp2_with fail
                refine wp_region_still_tail 12 (by kernel_rfl) (by kernel_rfl) ?_
                change wpStill _ _ W3.drew (fun a' => wpList _ _ _ _ a' W3.drew) _ _
                generalize W3.drew = WD at *
                simp only [List.take_succ_cons, List.take_zero, List.drop_succ_cons, List.drop_zero]
                unfold nmV at hlk hup
                rw [← ba_app] at hup
                have hf1 : ¬ (9223372036854775807 < (tB (oldF L s)).length + u.length) := by have := HQ.out.len s; omega
                repeat still_step
                refine wpStill_nil ?_
                go_wp2_with fail
                go_roundw
                case rel => exact ⟨k + 1, g, n + 1, _, _, _, _, by omega, by omega, by go_num, by omega, HQ3, HI4⟩
                case measure => simp [intOf]; omega
            · rw [if_neg hm] at HQ3
              rw [decide_eq_false hm]
              obtain ⟨i0, hi, hz0, hz1, hz2⟩ := info_parts info_str
              have hfew := HQ.out.few
              have hb4 := (Below.refl W3.heap.size W3).alloc (Nat.le_refl _) (.cells #[.string ⟨s.toArray⟩] 9)
              have hrow4 := (hI3.below hb4).row
              go_wp2_with (at_builtin; refine wpList_append_row _ (by rfl) (.tmp 70) (.tmp 72) 28 (by rfl) 9 i0 _ 1 16 Try.underlying28 hi hz0 hz1 hz2 rfl (.slice NA ns.length NC) g ns.length (ns.map nmV) (by rfl) hrow4 ⟨W3.heap.size, 0, none⟩ 1 1 [.string ⟨s.toArray⟩] (by rfl) rfl (new1 _ _ _) (fun u hu => by simp at hu; subst hu; rfl) (by unfold maxLen; omega) (by omega) (by decide) ?_; intro v4 W4 g4 hr4 hgr4 hv4 hg4 hlt4; have hI5 := hI3.push hb4 hr4 hgr4 hv4 hg4 hlt4; clear hr4 hgr4 hg4 hlt4 hrow4 hb4 hI3)
              clear hi hz0 hz1 hz2 hv4
              as_aux_lemma =>
                obtain ⟨-, -, -, c4, hu⟩ := HD.out _ hI5.drew.bx.low
                have hlk := hI5.drew.al.look Try.underlying26 s (by omega) (z := nmV []) (fun _ => rfl)
                rw [HQ.out.old s] at hlk
                have hcv := conv_text u hu
                obtain ⟨WE, hup, ht4, hm4⟩ := hI5.drew.al.upd Try.underlying26 s (by omega) (nmV (tB (oldF L s) ++ u))
                have HI4 := Lib.hid (hI5.drew.putAll ht4 hm4)
                clear hI5 ht4 hm4 hu
                go_wp2_with fail
                refine wp_region_still_tail 12 (by kernel_rfl) (by kernel_rfl) ?_
                change wpStill _ _ W4.drew (fun a' => wpList _ _ _ _ a' W4.drew) _ _
                generalize W4.drew = WD at *
                simp only [List.take_succ_cons, List.take_zero, List.drop_succ_cons, List.drop_zero]
                unfold nmV at hlk hup
                rw [← ba_app] at hup
                have hf1 : ¬ (9223372036854775807 < (tB (oldF L s)).length + u.length) := by have := HQ.out.len s; omega
                repeat still_step
                refine wpStill_nil ?_
                go_wp2_with fail
                go_roundw
                case rel => exact ⟨k + 1, g4, n + 1, _, _, _, _, by omega, by omega, by go_num, by omega, HQ3, HI4⟩
                case measure => simp [intOf]; omega
      · have d1 : decide ((k : Int) < (ds.length : Int)) = true := decide_eq_true (by omega)
        have d2 : decide ((k : Int) < 100) = false := decide_eq_false (by omega)
        go_wp2_with fail
        as_aux_lemma =>
          clear H hmax
          have hfew := HQ.out.few
          obtain ⟨NA, NC, rfl, -⟩ := HI.out.names
          go_loopw [14] (fun j wr => ∃ jj : Nat, jj ≤ ns.length ∧ j = .int .i64 jj ∧ Hid (SI w D m1 m2 (.slice NA ns.length NC) g L ns al sl n wr)) (fun j _ => ns.length - (intOf j).toNat)
          case atStart => exact ⟨0, Nat.zero_le _, rfl, HI⟩
          case round =>
            clear HI
            obtain ⟨jj, hjj, rfl, HI2⟩ := hrel
            by_cases hjl : jj < ns.length
            · have d8 : decide ((jj : Int) < (ns.length : Int)) = true := decide_eq_true (by omega)
              obtain ⟨_, _, hv, hR⟩ := HI2.out.names
              cases hv
              obtain ⟨a2, s2, rfl, _, ca, hx⟩ := hR.nm_at hjl
              clear hR
              unfold nmV at ca
              have hs2 := HQ.out.nm s2 (List.mem_of_getElem? hx.out)
              obtain ⟨g2, e1⟩ := (HQ.out.mem s2).1 (List.mem_of_getElem? hx.out)
              have hal : al s2 = some (nmV (tB g2.l)) := by rw [HQ.out.al s2, e1]; rfl
              go_wp2_with fail
              refine (HI2.out.read s2 hs2 e1 (HQ.out.rng _ (fd_some e1).1)).mono ?_
              rintro _ W3 ⟨bA, bc, rfl, hb, hI3⟩
              clear HI2 ca
              generalize tB g2.l = bt at *
              go_wp2_with fail
              have hID := hI3.drew
              have ca := hID.name_at hx.out
              have hlk1 := hID.al.look Try.underlying26 s2 (by omega) (z := nmV []) (fun _ => rfl)
              rw [hal] at hlk1
              have hbD := hb.keep (w' := W3.drew) (fun _ _ => rfl) (fun _ q => q)
              have hcv := conv_text bt hbD
              clear hI3 hb hbD e1 hal
              refine wp_region_still_lit (by kernel_rfl) (by kernel_rfl) ?_
              change wpStill _ _ W3.drew (fun a' => (_ : Exit → Act → World → Prop) .normal a' W3.drew) _ _
              generalize W3.drew = WD at *
              have HI4 := Lib.hid hID
              clear hID
              unfold nmV at hlk1 ca
              simp only [Option.getD_some] at hlk1
              repeat (with_reducible (refine wpStill_step (fun K hK => ?_)); go_simp; refine hK _ ?_; clear hK K)
              refine wpStill_nil ?_
              clear hlk1 ca hcv
              go_wp2_with fail
              go_roundw
              case rel => exact ⟨jj + 1, by omega, by go_num, HI4⟩
              case measure => simp [intOf]; omega
            · obtain rfl : jj = ns.length := by omega
              have d8 : decide ((ns.length : Int) < (ns.length : Int)) = false := decide_eq_false (by omega)
              go_wp2_with fail
              refine (HI2.out.list).mono ?_
              rintro _ W3 ⟨A3, c3, rfl, b3⟩
              rw [HQ.out.count]
              have HI4 := Lib.hid (HI2.out.below b3)
              clear HI2 b3
              go_wp2_with fail
              go_ret
              exact ⟨by simp, HI4.out.bx.low⟩
    · have d1 : decide ((k : Int) < (ds.length : Int)) = false := decide_eq_false (by omega)
      go_wp2_with fail
      as_aux_lemma =>
        clear H hmax
        have hfew := HQ.out.few
        obtain ⟨NA, NC, rfl, -⟩ := HI.out.names
        go_loopw [14] (fun j wr => ∃ jj : Nat, jj ≤ ns.length ∧ j = .int .i64 jj ∧ Hid (SI w D m1 m2 (.slice NA ns.length NC) g L ns al sl n wr)) (fun j _ => ns.length - (intOf j).toNat)
        case atStart => exact ⟨0, Nat.zero_le _, rfl, HI⟩
        case round =>
          clear HI
          obtain ⟨jj, hjj, rfl, HI2⟩ := hrel
          by_cases hjl : jj < ns.length
          · have d8 : decide ((jj : Int) < (ns.length : Int)) = true := decide_eq_true (by omega)
            obtain ⟨_, _, hv, hR⟩ := HI2.out.names
            cases hv
            obtain ⟨a2, s2, rfl, _, ca, hx⟩ := hR.nm_at hjl
            clear hR
            unfold nmV at ca
            have hs2 := HQ.out.nm s2 (List.mem_of_getElem? hx.out)
            obtain ⟨g2, e1⟩ := (HQ.out.mem s2).1 (List.mem_of_getElem? hx.out)
            have hal : al s2 = some (nmV (tB g2.l)) := by rw [HQ.out.al s2, e1]; rfl
            go_wp2_with fail
            refine (HI2.out.read s2 hs2 e1 (HQ.out.rng _ (fd_some e1).1)).mono ?_
            rintro _ W3 ⟨bA, bc, rfl, hb, hI3⟩
            clear HI2 ca
            generalize tB g2.l = bt at *
            go_wp2_with fail
            have hID := hI3.drew
            have ca := hID.name_at hx.out
            have hlk1 := hID.al.look Try.underlying26 s2 (by omega) (z := nmV []) (fun _ => rfl)
            rw [hal] at hlk1
            have hbD := hb.keep (w' := W3.drew) (fun _ _ => rfl) (fun _ q => q)
            have hcv := conv_text bt hbD
            clear hI3 hb hbD e1 hal
            refine wp_region_still_lit (by kernel_rfl) (by kernel_rfl) ?_
            change wpStill _ _ W3.drew (fun a' => (_ : Exit → Act → World → Prop) .normal a' W3.drew) _ _
            generalize W3.drew = WD at *
            have HI4 := Lib.hid hID
            clear hID
            unfold nmV at hlk1 ca
            simp only [Option.getD_some] at hlk1
            repeat (with_reducible (refine wpStill_step (fun K hK => ?_)); go_simp; refine hK _ ?_; clear hK K)
            refine wpStill_nil ?_
            clear hlk1 ca hcv
            go_wp2_with fail
            go_roundw
            case rel => exact ⟨jj + 1, by omega, by go_num, HI4⟩
            case measure => simp [intOf]; omega
          · obtain rfl : jj = ns.length := by omega
            have d8 : decide ((ns.length : Int) < (ns.length : Int)) = false := decide_eq_false (by omega)
            go_wp2_with fail
            refine (HI2.out.list).mono ?_
            rintro _ W3 ⟨A3, c3, rfl, b3⟩
            rw [HQ.out.count]
            have HI4 := Lib.hid (HI2.out.below b3)
            clear HI2 b3
            go_wp2_with fail
            go_ret
            exact ⟨by simp, HI4.out.bx.low⟩
end Go.Proofs.Ytcmbeolicopicaa

