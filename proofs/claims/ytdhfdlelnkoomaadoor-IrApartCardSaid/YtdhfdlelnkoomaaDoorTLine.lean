/- ir's writer of lines: line. -/
import Derived.Test.YtdhfdlelnkoomaaDoorTTold
namespace Go.Proofs.YtdhfdlelnkoomaaDoor
open Go.RowKit
set_option linter.unusedVariables false
set_option maxRecDepth 100000

/-- A line, in its pieces. -/
def lineP (o : Int) (op : Nat) (nar : Bool) (d a bb u sz t : Nat) : List (List UInt8) :=
  if o = 1 then [rT d, eqT, Lib.decDigits u] else
  if o = 2 then [rT d, eqT, rT a] else
  if o = 3 then (if op = 13 then [rT d, eqT, wordT op nar, [32], rT a] else [rT d, eqT, rT a, [32], wordT op nar, [32], rT bb]) else
  if o = 4 then [rT d, eqT, cellT [112, 97, 99, 107, 101, 116] a u sz] else
  if o = 5 then [rT d, eqT, cellT [115, 116, 97, 99, 107] a u sz] else
  if o = 6 then [cellT [115, 116, 97, 99, 107] a u sz, eqT, rT bb] else
  if o = 7 then [[103, 111, 116, 111, 32], Lib.itoa t] else
  if o = 8 then [[105, 102, 32], rT a, [32], wordT op nar, [32], rT bb, [32, 103, 111, 116, 111, 32], Lib.itoa t] else
  [[101, 110, 100, 32], rT a]
def lineT (o : Int) (op : Nat) (nar : Bool) (d a bb u sz t : Nat) : List UInt8 := (lineP o op nar d a bb u sz t).flatten
theorem word_l (op : Nat) (h : op < 28) (nar : Bool) : (wordT op nar).length ≤ 6 := by
  have := words_len op h
  rw [wordT, List.length_append]
  generalize wordsL.getD op [] = W at *
  cases nar <;> simp <;> omega
theorem lineT_len (o : Int) (op : Nat) (nar : Bool) (d a bb u sz t : Nat) (hf : Ln op d a bb u sz t) : (lineT o op nar d a bb u sz t).length ≤ 200 := by
  have h1 := rT_l d hf.ld
  have h2 := rT_l a hf.la
  have h3 := rT_l bb hf.lb
  have h4 := dec_len u hf.lu
  have h5 := itoa_l t (by have := hf.lt; omega)
  have h6 := word_l op hf.lw nar
  have h7 := cellT_len [112, 97, 99, 107, 101, 116] a u sz hf.la hf.lu hf.ls
  have h8 := cellT_len [115, 116, 97, 99, 107] a u sz hf.la hf.lu hf.ls
  simp only [List.length_cons, List.length_nil] at h7 h8
  unfold lineT lineP
  repeat' split
  all_goals (simp only [List.flatten_cons, List.flatten_nil, List.length_append, List.length_cons, List.length_nil, eqT]; omega)
set_option maxHeartbeats 2000000 in
theorem line1 (B b : Nat) (l : List UInt8) (op : Nat) (nar : Bool) (d a bb u sz t : Nat) (hf : Ln op d a bb u sz t) (w : World) (ht : Tb B w) (h : Bd 54 B b l w) (hlen : l.length ≤ 10000000000) :
    Calls Tryd.prog 24 #[.pointer (some ⟨b, 0, none⟩), insA (mkI 1 op nar d a bb u sz t)] w fun e w' => e = .returned (.tuple #[]) ∧ (Bd 54 B b (l ++ lineT 1 op nar d a bb u sz t) w' ∧ Below B w w' ∧ Oth b w w') := by
  obtain ⟨w0, e0, HK⟩ := Kq.box (mkI 1 op nar d a bb u sz t) ht h
  have hcs := HK.out.cs
  simp only [mkI] at hcs
  obtain ⟨c0, c1, c2, c3, c4, c5, c6, c7, c8⟩ := hcs
  have HFL := Lib.hid (show ([rT d, eqT] ++ [Lib.decDigits u]).flatten = lineT 1 op nar d a bb u sz t by simp [lineT, lineP])
  have HLN := Lib.hid (show l.length + ([Lib.decDigits u]).flatten.length ≤ 100000000000 by
    have hh := lineT_len 1 op nar d a bb u sz t hf
    rw [← HFL.out] at hh
    simp only [List.flatten_append, List.flatten_cons, List.flatten_nil, List.length_append, List.length_nil] at hh ⊢
    omega)
  have HK0 := Lib.hid HK.out.drew
  clear ht h hlen
  simp only [mkI, insV] at e0
  go_enter Tryd.func24, Tryd.ntmps24
  unfold insA insV mkI
  go_wp2_with fail
  clear e0
  go_region_held3 (fun w' => w'.cell? ⟨w.heap.size, 0, none⟩ = some (.int .u8 1) ∧ w'.cell? ⟨w.heap.size, 1, none⟩ = some (.int .u8 (op : Int)) ∧ w'.cell? ⟨w.heap.size, 2, none⟩ = some (.bool nar) ∧ w'.cell? ⟨w.heap.size, 3, none⟩ = some (.int .i64 (d : Int)) ∧ w'.cell? ⟨w.heap.size, 4, none⟩ = some (.int .i64 (a : Int)) ∧ w'.cell? ⟨w.heap.size, 5, none⟩ = some (.int .i64 (bb : Int)) ∧ w'.cell? ⟨w.heap.size, 6, none⟩ = some (.int .u64 (u : Int)) ∧ w'.cell? ⟨w.heap.size, 7, none⟩ = some (.int .i64 (sz : Int)) ∧ w'.cell? ⟨w.heap.size, 8, none⟩ = some (.int .i64 (t : Int))) (first | exact Kq.cs (Hid.out (by assumption)) | exact Kq.cs (Kq.alloc (Hid.out (by assumption)) _))
    (first
      | (go_at_call 44; refine (fmtU_any u hf.lu _ (Kq.tb (Hid.out (by assumption)))).mono ?_; rintro _ w' ⟨rfl, hb'⟩; have HK' := Lib.hid (Kq.step (Hid.out (by assumption)) hb'); clear hb')
      | (go_at_call 43; refine (told_any B b _ l [Lib.decDigits u] 1 op nar d a bb u sz t hf _ (Kq.tb (Kq.alloc (Hid.out (by assumption)) _)) (Kq.bd (Kq.alloc (Hid.out (by assumption)) _)) (Kq.texts (Hid.out (by assumption)) [Lib.decDigits u]).1 (Kq.texts (Hid.out (by assumption)) []).2 HLN.out (by simp)).mono ?_; rintro _ w' ⟨rfl, hw'⟩; have HKF := Lib.hid (Kq.write (Kq.alloc (Hid.out (by assumption)) _) hw'); clear hw'))
  go_wp2_with fail
  go_end0
  exact ⟨rfl, HFL.out ▸ HKF.out.bd, HKF.out.below, HKF.out.oth⟩
set_option maxHeartbeats 2000000 in
theorem line2 (B b : Nat) (l : List UInt8) (op : Nat) (nar : Bool) (d a bb u sz t : Nat) (hf : Ln op d a bb u sz t) (w : World) (ht : Tb B w) (h : Bd 54 B b l w) (hlen : l.length ≤ 10000000000) :
    Calls Tryd.prog 24 #[.pointer (some ⟨b, 0, none⟩), insA (mkI 2 op nar d a bb u sz t)] w fun e w' => e = .returned (.tuple #[]) ∧ (Bd 54 B b (l ++ lineT 2 op nar d a bb u sz t) w' ∧ Below B w w' ∧ Oth b w w') := by
  obtain ⟨w0, e0, HK⟩ := Kq.box (mkI 2 op nar d a bb u sz t) ht h
  have hcs := HK.out.cs
  simp only [mkI] at hcs
  obtain ⟨c0, c1, c2, c3, c4, c5, c6, c7, c8⟩ := hcs
  have HFL := Lib.hid (show ([rT d, eqT] ++ [rT a]).flatten = lineT 2 op nar d a bb u sz t by simp [lineT, lineP])
  have HLN := Lib.hid (show l.length + ([rT a]).flatten.length ≤ 100000000000 by
    have hh := lineT_len 2 op nar d a bb u sz t hf
    rw [← HFL.out] at hh
    simp only [List.flatten_append, List.flatten_cons, List.flatten_nil, List.length_append, List.length_nil] at hh ⊢
    omega)
  have HK0 := Lib.hid HK.out.drew
  clear ht h hlen
  simp only [mkI, insV] at e0
  go_enter Tryd.func24, Tryd.ntmps24
  unfold insA insV mkI
  go_wp2_with fail
  clear e0
  go_region_held3 (fun w' => w'.cell? ⟨w.heap.size, 0, none⟩ = some (.int .u8 2) ∧ w'.cell? ⟨w.heap.size, 1, none⟩ = some (.int .u8 (op : Int)) ∧ w'.cell? ⟨w.heap.size, 2, none⟩ = some (.bool nar) ∧ w'.cell? ⟨w.heap.size, 3, none⟩ = some (.int .i64 (d : Int)) ∧ w'.cell? ⟨w.heap.size, 4, none⟩ = some (.int .i64 (a : Int)) ∧ w'.cell? ⟨w.heap.size, 5, none⟩ = some (.int .i64 (bb : Int)) ∧ w'.cell? ⟨w.heap.size, 6, none⟩ = some (.int .u64 (u : Int)) ∧ w'.cell? ⟨w.heap.size, 7, none⟩ = some (.int .i64 (sz : Int)) ∧ w'.cell? ⟨w.heap.size, 8, none⟩ = some (.int .i64 (t : Int))) (first | exact Kq.cs (Hid.out (by assumption)) | exact Kq.cs (Kq.alloc (Hid.out (by assumption)) _))
    (first
      | (go_at_call 45; refine (rN_any a hf.la _ (Kq.tb (Hid.out (by assumption)))).mono ?_; rintro _ w' ⟨rfl, hb'⟩; have HK' := Lib.hid (Kq.step (Hid.out (by assumption)) hb'); clear hb')
      | (go_at_call 43; refine (told_any B b _ l [rT a] 2 op nar d a bb u sz t hf _ (Kq.tb (Kq.alloc (Hid.out (by assumption)) _)) (Kq.bd (Kq.alloc (Hid.out (by assumption)) _)) (Kq.texts (Hid.out (by assumption)) [rT a]).1 (Kq.texts (Hid.out (by assumption)) []).2 HLN.out (by simp)).mono ?_; rintro _ w' ⟨rfl, hw'⟩; have HKF := Lib.hid (Kq.write (Kq.alloc (Hid.out (by assumption)) _) hw'); clear hw'))
  go_wp2_with fail
  go_end0
  exact ⟨rfl, HFL.out ▸ HKF.out.bd, HKF.out.below, HKF.out.oth⟩
set_option maxHeartbeats 2000000 in
theorem line3n (B b : Nat) (l : List UInt8) (nar : Bool) (d a bb u sz t : Nat) (hf : Ln 13 d a bb u sz t) (w : World) (ht : Tb B w) (h : Bd 54 B b l w) (hlen : l.length ≤ 10000000000) :
    Calls Tryd.prog 24 #[.pointer (some ⟨b, 0, none⟩), insA (mkI 3 13 nar d a bb u sz t)] w fun e w' => e = .returned (.tuple #[]) ∧ (Bd 54 B b (l ++ lineT 3 13 nar d a bb u sz t) w' ∧ Below B w w' ∧ Oth b w w') := by
  obtain ⟨w0, e0, HK⟩ := Kq.box (mkI 3 13 nar d a bb u sz t) ht h
  have hcs := HK.out.cs
  simp only [mkI] at hcs
  obtain ⟨c0, c1, c2, c3, c4, c5, c6, c7, c8⟩ := hcs
  have HFL := Lib.hid (show ([rT d, eqT] ++ [wordT 13 nar, [32], rT a]).flatten = lineT 3 13 nar d a bb u sz t by simp [lineT, lineP])
  have HLN := Lib.hid (show l.length + ([wordT 13 nar, [32], rT a]).flatten.length ≤ 100000000000 by
    have hh := lineT_len 3 13 nar d a bb u sz t hf
    rw [← HFL.out] at hh
    simp only [List.flatten_append, List.flatten_cons, List.flatten_nil, List.length_append, List.length_nil] at hh ⊢
    omega)
  have HK0 := Lib.hid HK.out.drew
  clear ht h hlen
  simp only [mkI, insV] at e0
  replace e0 : w.alloc (.cells #[.int .u8 3, .int .u8 13, .bool nar, .int .i64 (d : Int), .int .i64 (a : Int), .int .i64 (bb : Int), .int .u64 (u : Int), .int .i64 (sz : Int), .int .i64 (t : Int)] 35) = w0 := e0
  go_enter Tryd.func24, Tryd.ntmps24
  unfold insA insV mkI
  go_wp2_with fail
  clear e0
  go_region_held3 (fun w' => w'.cell? ⟨w.heap.size, 0, none⟩ = some (.int .u8 3) ∧ w'.cell? ⟨w.heap.size, 1, none⟩ = some (.int .u8 13) ∧ w'.cell? ⟨w.heap.size, 2, none⟩ = some (.bool nar) ∧ w'.cell? ⟨w.heap.size, 3, none⟩ = some (.int .i64 (d : Int)) ∧ w'.cell? ⟨w.heap.size, 4, none⟩ = some (.int .i64 (a : Int)) ∧ w'.cell? ⟨w.heap.size, 5, none⟩ = some (.int .i64 (bb : Int)) ∧ w'.cell? ⟨w.heap.size, 6, none⟩ = some (.int .u64 (u : Int)) ∧ w'.cell? ⟨w.heap.size, 7, none⟩ = some (.int .i64 (sz : Int)) ∧ w'.cell? ⟨w.heap.size, 8, none⟩ = some (.int .i64 (t : Int))) (first | exact Kq.cs (Hid.out (by assumption)) | exact Kq.cs (Kq.alloc (Hid.out (by assumption)) _))
    (first
      | (go_at_call 46; refine (word_any (mkI 3 13 nar d a bb u sz t) 13 rfl hf.lw _ (Kq.tb (Hid.out (by assumption))) (Kq.hB (Hid.out (by assumption)))).mono ?_; rintro _ w' ⟨rfl, hb'⟩; have HK' := Lib.hid (Kq.step (Hid.out (by assumption)) hb'); clear hb')
      | (go_at_call 45; refine (rN_any a hf.la _ (Kq.tb (Hid.out (by assumption)))).mono ?_; rintro _ w' ⟨rfl, hb'⟩; have HK' := Lib.hid (Kq.step (Hid.out (by assumption)) hb'); clear hb')
      | (go_at_call 43; refine (told_any B b _ l [wordT 13 nar, [32], rT a] 3 13 nar d a bb u sz t hf _ (Kq.tb (Kq.alloc (Hid.out (by assumption)) _)) (Kq.bd (Kq.alloc (Hid.out (by assumption)) _)) (Kq.texts (Hid.out (by assumption)) [wordT 13 nar, [32], rT a]).1 (Kq.texts (Hid.out (by assumption)) []).2 HLN.out (by simp)).mono ?_; rintro _ w' ⟨rfl, hw'⟩; have HKF := Lib.hid (Kq.write (Kq.alloc (Hid.out (by assumption)) _) hw'); clear hw'))
  go_wp2_with fail
  (try simp only [Exit.inBlock, Exit.then])
  refine bodyPost_ret (results_none rfl _ _ _) rfl ?_
  exact ⟨rfl, HFL.out ▸ HKF.out.bd, HKF.out.below, HKF.out.oth⟩
set_option maxHeartbeats 2000000 in
theorem line3 (B b : Nat) (l : List UInt8) (op : Nat) (nar : Bool) (d a bb u sz t : Nat) (hf : Ln op d a bb u sz t) (hop : op ≠ 13) (w : World) (ht : Tb B w) (h : Bd 54 B b l w) (hlen : l.length ≤ 10000000000) :
    Calls Tryd.prog 24 #[.pointer (some ⟨b, 0, none⟩), insA (mkI 3 op nar d a bb u sz t)] w fun e w' => e = .returned (.tuple #[]) ∧ (Bd 54 B b (l ++ lineT 3 op nar d a bb u sz t) w' ∧ Below B w w' ∧ Oth b w w') := by
  obtain ⟨w0, e0, HK⟩ := Kq.box (mkI 3 op nar d a bb u sz t) ht h
  have hcs := HK.out.cs
  simp only [mkI] at hcs
  obtain ⟨c0, c1, c2, c3, c4, c5, c6, c7, c8⟩ := hcs
  have HFL := Lib.hid (show ([rT d, eqT] ++ [rT a, [32], wordT op nar, [32], rT bb]).flatten = lineT 3 op nar d a bb u sz t by simp [lineT, lineP, hop])
  have HLN := Lib.hid (show l.length + ([rT a, [32], wordT op nar, [32], rT bb]).flatten.length ≤ 100000000000 by
    have hh := lineT_len 3 op nar d a bb u sz t hf
    rw [← HFL.out] at hh
    simp only [List.flatten_append, List.flatten_cons, List.flatten_nil, List.length_append, List.length_nil] at hh ⊢
    omega)
  have HK0 := Lib.hid HK.out.drew
  clear ht h hlen
  simp only [mkI, insV] at e0
  have hd13 : ((op : Int) == 13) = false := by simp; omega
  go_enter Tryd.func24, Tryd.ntmps24
  unfold insA insV mkI
  go_wp2_with fail
  clear e0
  go_region_held3 (fun w' => w'.cell? ⟨w.heap.size, 0, none⟩ = some (.int .u8 3) ∧ w'.cell? ⟨w.heap.size, 1, none⟩ = some (.int .u8 (op : Int)) ∧ w'.cell? ⟨w.heap.size, 2, none⟩ = some (.bool nar) ∧ w'.cell? ⟨w.heap.size, 3, none⟩ = some (.int .i64 (d : Int)) ∧ w'.cell? ⟨w.heap.size, 4, none⟩ = some (.int .i64 (a : Int)) ∧ w'.cell? ⟨w.heap.size, 5, none⟩ = some (.int .i64 (bb : Int)) ∧ w'.cell? ⟨w.heap.size, 6, none⟩ = some (.int .u64 (u : Int)) ∧ w'.cell? ⟨w.heap.size, 7, none⟩ = some (.int .i64 (sz : Int)) ∧ w'.cell? ⟨w.heap.size, 8, none⟩ = some (.int .i64 (t : Int))) (first | exact Kq.cs (Hid.out (by assumption)) | exact Kq.cs (Kq.alloc (Hid.out (by assumption)) _))
    (first
      | (go_at_call 45; refine (rN_any a hf.la _ (Kq.tb (Hid.out (by assumption)))).mono ?_; rintro _ w' ⟨rfl, hb'⟩; have HK' := Lib.hid (Kq.step (Hid.out (by assumption)) hb'); clear hb')
      | (go_at_call 46; refine (word_any (mkI 3 op nar d a bb u sz t) op rfl hf.lw _ (Kq.tb (Hid.out (by assumption))) (Kq.hB (Hid.out (by assumption)))).mono ?_; rintro _ w' ⟨rfl, hb'⟩; have HK' := Lib.hid (Kq.step (Hid.out (by assumption)) hb'); clear hb')
      | (go_at_call 45; refine (rN_any bb hf.lb _ (Kq.tb (Hid.out (by assumption)))).mono ?_; rintro _ w' ⟨rfl, hb'⟩; have HK' := Lib.hid (Kq.step (Hid.out (by assumption)) hb'); clear hb')
      | (go_at_call 43; refine (told_any B b _ l [rT a, [32], wordT op nar, [32], rT bb] 3 op nar d a bb u sz t hf _ (Kq.tb (Kq.alloc (Hid.out (by assumption)) _)) (Kq.bd (Kq.alloc (Hid.out (by assumption)) _)) (Kq.texts (Hid.out (by assumption)) [rT a, [32], wordT op nar, [32], rT bb]).1 (Kq.texts (Hid.out (by assumption)) []).2 HLN.out (by simp)).mono ?_; rintro _ w' ⟨rfl, hw'⟩; have HKF := Lib.hid (Kq.write (Kq.alloc (Hid.out (by assumption)) _) hw'); clear hw'))
  go_wp2_with fail
  go_end0
  exact ⟨rfl, HFL.out ▸ HKF.out.bd, HKF.out.below, HKF.out.oth⟩
set_option maxHeartbeats 2000000 in
theorem line8 (B b : Nat) (l : List UInt8) (op : Nat) (nar : Bool) (d a bb u sz t : Nat) (hf : Ln op d a bb u sz t) (w : World) (ht : Tb B w) (h : Bd 54 B b l w) (hlen : l.length ≤ 10000000000) :
    Calls Tryd.prog 24 #[.pointer (some ⟨b, 0, none⟩), insA (mkI 8 op nar d a bb u sz t)] w fun e w' => e = .returned (.tuple #[]) ∧ (Bd 54 B b (l ++ lineT 8 op nar d a bb u sz t) w' ∧ Below B w w' ∧ Oth b w w') := by
  obtain ⟨w0, e0, HK⟩ := Kq.box (mkI 8 op nar d a bb u sz t) ht h
  have hcs := HK.out.cs
  simp only [mkI] at hcs
  obtain ⟨c0, c1, c2, c3, c4, c5, c6, c7, c8⟩ := hcs
  have HFL := Lib.hid (show ([[105, 102, 32], rT a, [32], wordT op nar, [32], rT bb, [32, 103, 111, 116, 111, 32], Lib.itoa t]).flatten = lineT 8 op nar d a bb u sz t by simp [lineT, lineP])
  have HLN := Lib.hid (show l.length + ([[105, 102, 32], rT a, [32], wordT op nar, [32], rT bb, [32, 103, 111, 116, 111, 32], Lib.itoa t]).flatten.length ≤ 1000000000000 by
    have hh := lineT_len 8 op nar d a bb u sz t hf
    rw [← HFL.out] at hh
    simp only [List.flatten_cons, List.flatten_nil, List.length_append, List.length_nil] at hh ⊢
    omega)
  have HK0 := Lib.hid HK.out.drew
  clear ht h hlen
  simp only [mkI, insV] at e0
  go_enter Tryd.func24, Tryd.ntmps24
  unfold insA insV mkI
  go_wp2_with fail
  clear e0
  go_region_held3 (fun w' => w'.cell? ⟨w.heap.size, 0, none⟩ = some (.int .u8 8) ∧ w'.cell? ⟨w.heap.size, 1, none⟩ = some (.int .u8 (op : Int)) ∧ w'.cell? ⟨w.heap.size, 2, none⟩ = some (.bool nar) ∧ w'.cell? ⟨w.heap.size, 3, none⟩ = some (.int .i64 (d : Int)) ∧ w'.cell? ⟨w.heap.size, 4, none⟩ = some (.int .i64 (a : Int)) ∧ w'.cell? ⟨w.heap.size, 5, none⟩ = some (.int .i64 (bb : Int)) ∧ w'.cell? ⟨w.heap.size, 6, none⟩ = some (.int .u64 (u : Int)) ∧ w'.cell? ⟨w.heap.size, 7, none⟩ = some (.int .i64 (sz : Int)) ∧ w'.cell? ⟨w.heap.size, 8, none⟩ = some (.int .i64 (t : Int))) (first | exact Kq.cs (Hid.out (by assumption)) | exact Kq.cs (Kq.alloc (Hid.out (by assumption)) _))
    (first
      | (go_at_call 45; refine (rN_any a hf.la _ (Kq.tb (Hid.out (by assumption)))).mono ?_; rintro _ w' ⟨rfl, hb'⟩; have HK' := Lib.hid (Kq.step (Hid.out (by assumption)) hb'); clear hb')
      | (go_at_call 46; refine (word_any (mkI 8 op nar d a bb u sz t) op rfl hf.lw _ (Kq.tb (Hid.out (by assumption))) (Kq.hB (Hid.out (by assumption)))).mono ?_; rintro _ w' ⟨rfl, hb'⟩; have HK' := Lib.hid (Kq.step (Hid.out (by assumption)) hb'); clear hb')
      | (go_at_call 45; refine (rN_any bb hf.lb _ (Kq.tb (Hid.out (by assumption)))).mono ?_; rintro _ w' ⟨rfl, hb'⟩; have HK' := Lib.hid (Kq.step (Hid.out (by assumption)) hb'); clear hb')
      | (go_at_call 23; refine (itoaN_any t (Nat.le_trans hf.lt (by decide)) _ (Kq.tb (Hid.out (by assumption)))).mono ?_; rintro _ w' ⟨rfl, hb'⟩; have HK' := Lib.hid (Kq.step (Hid.out (by assumption)) hb'); clear hb')
      | (go_at_call 22; refine (put_any B b _ l [[105, 102, 32], rT a, [32], wordT op nar, [32], rT bb, [32, 103, 111, 116, 111, 32], Lib.itoa t] _ (Kq.bd (Kq.alloc (Hid.out (by assumption)) _)) (Kq.texts (Hid.out (by assumption)) [[105, 102, 32], rT a, [32], wordT op nar, [32], rT bb, [32, 103, 111, 116, 111, 32], Lib.itoa t]).1 (Kq.texts (Hid.out (by assumption)) []).2 HLN.out (Kq.hB (Kq.alloc (Hid.out (by assumption)) _)) (by simp)).mono ?_; rintro _ w' ⟨rfl, hw'⟩; have HKF := Lib.hid (Kq.write (Kq.alloc (Hid.out (by assumption)) _) hw'); clear hw'))
  go_wp2_with fail
  go_end0
  exact ⟨rfl, HFL.out ▸ HKF.out.bd, HKF.out.below, HKF.out.oth⟩
set_option maxHeartbeats 2000000 in
theorem line4 (B b : Nat) (l : List UInt8) (op : Nat) (nar : Bool) (d a bb u sz t : Nat) (hf : Ln op d a bb u sz t) (w : World) (ht : Tb B w) (h : Bd 54 B b l w) (hlen : l.length ≤ 10000000000) :
    Calls Tryd.prog 24 #[.pointer (some ⟨b, 0, none⟩), insA (mkI 4 op nar d a bb u sz t)] w fun e w' => e = .returned (.tuple #[]) ∧ (Bd 54 B b (l ++ lineT 4 op nar d a bb u sz t) w' ∧ Below B w w' ∧ Oth b w w') := by
  obtain ⟨w0, e0, HK⟩ := Kq.box (mkI 4 op nar d a bb u sz t) ht h
  have hcs := HK.out.cs
  simp only [mkI] at hcs
  obtain ⟨c0, c1, c2, c3, c4, c5, c6, c7, c8⟩ := hcs
  have HFL := Lib.hid (show ([rT d, eqT] ++ [cellT [112, 97, 99, 107, 101, 116] a u sz]).flatten = lineT 4 op nar d a bb u sz t by simp [lineT, lineP])
  have HLN := Lib.hid (show l.length + ([cellT [112, 97, 99, 107, 101, 116] a u sz]).flatten.length ≤ 100000000000 by
    have hh := lineT_len 4 op nar d a bb u sz t hf
    rw [← HFL.out] at hh
    simp only [List.flatten_append, List.flatten_cons, List.flatten_nil, List.length_append, List.length_nil] at hh ⊢
    omega)
  have HK0 := Lib.hid HK.out.drew
  clear ht h hlen
  simp only [mkI, insV] at e0
  go_enter Tryd.func24, Tryd.ntmps24
  unfold insA insV mkI
  go_wp2_with fail
  clear e0
  go_region_held3 (fun w' => w'.cell? ⟨w.heap.size, 0, none⟩ = some (.int .u8 4) ∧ w'.cell? ⟨w.heap.size, 1, none⟩ = some (.int .u8 (op : Int)) ∧ w'.cell? ⟨w.heap.size, 2, none⟩ = some (.bool nar) ∧ w'.cell? ⟨w.heap.size, 3, none⟩ = some (.int .i64 (d : Int)) ∧ w'.cell? ⟨w.heap.size, 4, none⟩ = some (.int .i64 (a : Int)) ∧ w'.cell? ⟨w.heap.size, 5, none⟩ = some (.int .i64 (bb : Int)) ∧ w'.cell? ⟨w.heap.size, 6, none⟩ = some (.int .u64 (u : Int)) ∧ w'.cell? ⟨w.heap.size, 7, none⟩ = some (.int .i64 (sz : Int)) ∧ w'.cell? ⟨w.heap.size, 8, none⟩ = some (.int .i64 (t : Int))) (first | exact Kq.cs (Hid.out (by assumption)) | exact Kq.cs (Kq.alloc (Hid.out (by assumption)) _))
    (first
      | (go_at_call 47; refine (cell_any [112, 97, 99, 107, 101, 116] (by decide) 4 op nar d a bb u sz t hf _ (Kq.tb (Hid.out (by assumption))) (Kq.hB (Hid.out (by assumption)))).mono ?_; rintro _ w' ⟨rfl, hb'⟩; have HK' := Lib.hid (Kq.step (Hid.out (by assumption)) hb'); clear hb')
      | (go_at_call 43; refine (told_any B b _ l [cellT [112, 97, 99, 107, 101, 116] a u sz] 4 op nar d a bb u sz t hf _ (Kq.tb (Kq.alloc (Hid.out (by assumption)) _)) (Kq.bd (Kq.alloc (Hid.out (by assumption)) _)) (Kq.texts (Hid.out (by assumption)) [cellT [112, 97, 99, 107, 101, 116] a u sz]).1 (Kq.texts (Hid.out (by assumption)) []).2 HLN.out (by simp)).mono ?_; rintro _ w' ⟨rfl, hw'⟩; have HKF := Lib.hid (Kq.write (Kq.alloc (Hid.out (by assumption)) _) hw'); clear hw'))
  go_wp2_with fail
  go_end0
  exact ⟨rfl, HFL.out ▸ HKF.out.bd, HKF.out.below, HKF.out.oth⟩
set_option maxHeartbeats 2000000 in
theorem line5 (B b : Nat) (l : List UInt8) (op : Nat) (nar : Bool) (d a bb u sz t : Nat) (hf : Ln op d a bb u sz t) (w : World) (ht : Tb B w) (h : Bd 54 B b l w) (hlen : l.length ≤ 10000000000) :
    Calls Tryd.prog 24 #[.pointer (some ⟨b, 0, none⟩), insA (mkI 5 op nar d a bb u sz t)] w fun e w' => e = .returned (.tuple #[]) ∧ (Bd 54 B b (l ++ lineT 5 op nar d a bb u sz t) w' ∧ Below B w w' ∧ Oth b w w') := by
  obtain ⟨w0, e0, HK⟩ := Kq.box (mkI 5 op nar d a bb u sz t) ht h
  have hcs := HK.out.cs
  simp only [mkI] at hcs
  obtain ⟨c0, c1, c2, c3, c4, c5, c6, c7, c8⟩ := hcs
  have HFL := Lib.hid (show ([rT d, eqT] ++ [cellT [115, 116, 97, 99, 107] a u sz]).flatten = lineT 5 op nar d a bb u sz t by simp [lineT, lineP])
  have HLN := Lib.hid (show l.length + ([cellT [115, 116, 97, 99, 107] a u sz]).flatten.length ≤ 100000000000 by
    have hh := lineT_len 5 op nar d a bb u sz t hf
    rw [← HFL.out] at hh
    simp only [List.flatten_append, List.flatten_cons, List.flatten_nil, List.length_append, List.length_nil] at hh ⊢
    omega)
  have HK0 := Lib.hid HK.out.drew
  clear ht h hlen
  simp only [mkI, insV] at e0
  go_enter Tryd.func24, Tryd.ntmps24
  unfold insA insV mkI
  go_wp2_with fail
  clear e0
  go_region_held3 (fun w' => w'.cell? ⟨w.heap.size, 0, none⟩ = some (.int .u8 5) ∧ w'.cell? ⟨w.heap.size, 1, none⟩ = some (.int .u8 (op : Int)) ∧ w'.cell? ⟨w.heap.size, 2, none⟩ = some (.bool nar) ∧ w'.cell? ⟨w.heap.size, 3, none⟩ = some (.int .i64 (d : Int)) ∧ w'.cell? ⟨w.heap.size, 4, none⟩ = some (.int .i64 (a : Int)) ∧ w'.cell? ⟨w.heap.size, 5, none⟩ = some (.int .i64 (bb : Int)) ∧ w'.cell? ⟨w.heap.size, 6, none⟩ = some (.int .u64 (u : Int)) ∧ w'.cell? ⟨w.heap.size, 7, none⟩ = some (.int .i64 (sz : Int)) ∧ w'.cell? ⟨w.heap.size, 8, none⟩ = some (.int .i64 (t : Int))) (first | exact Kq.cs (Hid.out (by assumption)) | exact Kq.cs (Kq.alloc (Hid.out (by assumption)) _))
    (first
      | (go_at_call 47; refine (cell_any [115, 116, 97, 99, 107] (by decide) 5 op nar d a bb u sz t hf _ (Kq.tb (Hid.out (by assumption))) (Kq.hB (Hid.out (by assumption)))).mono ?_; rintro _ w' ⟨rfl, hb'⟩; have HK' := Lib.hid (Kq.step (Hid.out (by assumption)) hb'); clear hb')
      | (go_at_call 43; refine (told_any B b _ l [cellT [115, 116, 97, 99, 107] a u sz] 5 op nar d a bb u sz t hf _ (Kq.tb (Kq.alloc (Hid.out (by assumption)) _)) (Kq.bd (Kq.alloc (Hid.out (by assumption)) _)) (Kq.texts (Hid.out (by assumption)) [cellT [115, 116, 97, 99, 107] a u sz]).1 (Kq.texts (Hid.out (by assumption)) []).2 HLN.out (by simp)).mono ?_; rintro _ w' ⟨rfl, hw'⟩; have HKF := Lib.hid (Kq.write (Kq.alloc (Hid.out (by assumption)) _) hw'); clear hw'))
  go_wp2_with fail
  go_end0
  exact ⟨rfl, HFL.out ▸ HKF.out.bd, HKF.out.below, HKF.out.oth⟩
set_option maxHeartbeats 2000000 in
theorem line6 (B b : Nat) (l : List UInt8) (op : Nat) (nar : Bool) (d a bb u sz t : Nat) (hf : Ln op d a bb u sz t) (w : World) (ht : Tb B w) (h : Bd 54 B b l w) (hlen : l.length ≤ 10000000000) :
    Calls Tryd.prog 24 #[.pointer (some ⟨b, 0, none⟩), insA (mkI 6 op nar d a bb u sz t)] w fun e w' => e = .returned (.tuple #[]) ∧ (Bd 54 B b (l ++ lineT 6 op nar d a bb u sz t) w' ∧ Below B w w' ∧ Oth b w w') := by
  obtain ⟨w0, e0, HK⟩ := Kq.box (mkI 6 op nar d a bb u sz t) ht h
  have hcs := HK.out.cs
  simp only [mkI] at hcs
  obtain ⟨c0, c1, c2, c3, c4, c5, c6, c7, c8⟩ := hcs
  have HFL := Lib.hid (show ([cellT [115, 116, 97, 99, 107] a u sz, eqT, rT bb]).flatten = lineT 6 op nar d a bb u sz t by simp [lineT, lineP])
  have HLN := Lib.hid (show l.length + ([cellT [115, 116, 97, 99, 107] a u sz, eqT, rT bb]).flatten.length ≤ 1000000000000 by
    have hh := lineT_len 6 op nar d a bb u sz t hf
    rw [← HFL.out] at hh
    simp only [List.flatten_cons, List.flatten_nil, List.length_append, List.length_nil] at hh ⊢
    omega)
  have HK0 := Lib.hid HK.out.drew
  clear ht h hlen
  simp only [mkI, insV] at e0
  go_enter Tryd.func24, Tryd.ntmps24
  unfold insA insV mkI
  go_wp2_with fail
  clear e0
  go_region_held3 (fun w' => w'.cell? ⟨w.heap.size, 0, none⟩ = some (.int .u8 6) ∧ w'.cell? ⟨w.heap.size, 1, none⟩ = some (.int .u8 (op : Int)) ∧ w'.cell? ⟨w.heap.size, 2, none⟩ = some (.bool nar) ∧ w'.cell? ⟨w.heap.size, 3, none⟩ = some (.int .i64 (d : Int)) ∧ w'.cell? ⟨w.heap.size, 4, none⟩ = some (.int .i64 (a : Int)) ∧ w'.cell? ⟨w.heap.size, 5, none⟩ = some (.int .i64 (bb : Int)) ∧ w'.cell? ⟨w.heap.size, 6, none⟩ = some (.int .u64 (u : Int)) ∧ w'.cell? ⟨w.heap.size, 7, none⟩ = some (.int .i64 (sz : Int)) ∧ w'.cell? ⟨w.heap.size, 8, none⟩ = some (.int .i64 (t : Int))) (first | exact Kq.cs (Hid.out (by assumption)) | exact Kq.cs (Kq.alloc (Hid.out (by assumption)) _))
    (first
      | (go_at_call 47; refine (cell_any [115, 116, 97, 99, 107] (by decide) 6 op nar d a bb u sz t hf _ (Kq.tb (Hid.out (by assumption))) (Kq.hB (Hid.out (by assumption)))).mono ?_; rintro _ w' ⟨rfl, hb'⟩; have HK' := Lib.hid (Kq.step (Hid.out (by assumption)) hb'); clear hb')
      | (go_at_call 45; refine (rN_any bb hf.lb _ (Kq.tb (Hid.out (by assumption)))).mono ?_; rintro _ w' ⟨rfl, hb'⟩; have HK' := Lib.hid (Kq.step (Hid.out (by assumption)) hb'); clear hb')
      | (go_at_call 22; refine (put_any B b _ l [cellT [115, 116, 97, 99, 107] a u sz, eqT, rT bb] _ (Kq.bd (Kq.alloc (Hid.out (by assumption)) _)) (Kq.texts (Hid.out (by assumption)) [cellT [115, 116, 97, 99, 107] a u sz, eqT, rT bb]).1 (Kq.texts (Hid.out (by assumption)) []).2 HLN.out (Kq.hB (Kq.alloc (Hid.out (by assumption)) _)) (by simp)).mono ?_; rintro _ w' ⟨rfl, hw'⟩; have HKF := Lib.hid (Kq.write (Kq.alloc (Hid.out (by assumption)) _) hw'); clear hw'))
  go_wp2_with fail
  go_end0
  exact ⟨rfl, HFL.out ▸ HKF.out.bd, HKF.out.below, HKF.out.oth⟩
set_option maxHeartbeats 2000000 in
theorem line7 (B b : Nat) (l : List UInt8) (op : Nat) (nar : Bool) (d a bb u sz t : Nat) (hf : Ln op d a bb u sz t) (w : World) (ht : Tb B w) (h : Bd 54 B b l w) (hlen : l.length ≤ 10000000000) :
    Calls Tryd.prog 24 #[.pointer (some ⟨b, 0, none⟩), insA (mkI 7 op nar d a bb u sz t)] w fun e w' => e = .returned (.tuple #[]) ∧ (Bd 54 B b (l ++ lineT 7 op nar d a bb u sz t) w' ∧ Below B w w' ∧ Oth b w w') := by
  obtain ⟨w0, e0, HK⟩ := Kq.box (mkI 7 op nar d a bb u sz t) ht h
  have hcs := HK.out.cs
  simp only [mkI] at hcs
  obtain ⟨c0, c1, c2, c3, c4, c5, c6, c7, c8⟩ := hcs
  have HFL := Lib.hid (show ([[103, 111, 116, 111, 32], Lib.itoa t]).flatten = lineT 7 op nar d a bb u sz t by simp [lineT, lineP])
  have HLN := Lib.hid (show l.length + ([[103, 111, 116, 111, 32], Lib.itoa t]).flatten.length ≤ 1000000000000 by
    have hh := lineT_len 7 op nar d a bb u sz t hf
    rw [← HFL.out] at hh
    simp only [List.flatten_cons, List.flatten_nil, List.length_append, List.length_nil] at hh ⊢
    omega)
  have HK0 := Lib.hid HK.out.drew
  clear ht h hlen
  simp only [mkI, insV] at e0
  go_enter Tryd.func24, Tryd.ntmps24
  unfold insA insV mkI
  go_wp2_with fail
  clear e0
  go_at_call 23; refine (itoaN_any t (Nat.le_trans hf.lt (by decide)) _ (Kq.tb (Hid.out (by assumption)))).mono ?_; rintro _ w' ⟨rfl, hb'⟩; have HK' := Lib.hid (Kq.step (Hid.out (by assumption)) hb'); clear hb'
  go_wp2_with fail
  go_at_call 22; refine (put_any B b _ l [[103, 111, 116, 111, 32], Lib.itoa t] _ (Kq.bd (Kq.alloc (Hid.out (by assumption)) _)) (Kq.texts (Hid.out (by assumption)) [[103, 111, 116, 111, 32], Lib.itoa t]).1 (Kq.texts (Hid.out (by assumption)) []).2 HLN.out (Kq.hB (Kq.alloc (Hid.out (by assumption)) _)) (by simp)).mono ?_; rintro _ w' ⟨rfl, hw'⟩; have HKF := Lib.hid (Kq.write (Kq.alloc (Hid.out (by assumption)) _) hw'); clear hw'
  go_wp2_with fail
  go_end0
  exact ⟨rfl, HFL.out ▸ HKF.out.bd, HKF.out.below, HKF.out.oth⟩
set_option maxHeartbeats 2000000 in
theorem line9 (B b : Nat) (l : List UInt8) (op : Nat) (nar : Bool) (d a bb u sz t : Nat) (hf : Ln op d a bb u sz t) (w : World) (ht : Tb B w) (h : Bd 54 B b l w) (hlen : l.length ≤ 10000000000) :
    Calls Tryd.prog 24 #[.pointer (some ⟨b, 0, none⟩), insA (mkI 9 op nar d a bb u sz t)] w fun e w' => e = .returned (.tuple #[]) ∧ (Bd 54 B b (l ++ lineT 9 op nar d a bb u sz t) w' ∧ Below B w w' ∧ Oth b w w') := by
  obtain ⟨w0, e0, HK⟩ := Kq.box (mkI 9 op nar d a bb u sz t) ht h
  have hcs := HK.out.cs
  simp only [mkI] at hcs
  obtain ⟨c0, c1, c2, c3, c4, c5, c6, c7, c8⟩ := hcs
  have HFL := Lib.hid (show ([[101, 110, 100, 32], rT a]).flatten = lineT 9 op nar d a bb u sz t by simp [lineT, lineP])
  have HLN := Lib.hid (show l.length + ([[101, 110, 100, 32], rT a]).flatten.length ≤ 1000000000000 by
    have hh := lineT_len 9 op nar d a bb u sz t hf
    rw [← HFL.out] at hh
    simp only [List.flatten_cons, List.flatten_nil, List.length_append, List.length_nil] at hh ⊢
    omega)
  have HK0 := Lib.hid HK.out.drew
  clear ht h hlen
  simp only [mkI, insV] at e0
  go_enter Tryd.func24, Tryd.ntmps24
  unfold insA insV mkI
  go_wp2_with fail
  clear e0
  go_at_call 45; refine (rN_any a hf.la _ (Kq.tb (Hid.out (by assumption)))).mono ?_; rintro _ w' ⟨rfl, hb'⟩; have HK' := Lib.hid (Kq.step (Hid.out (by assumption)) hb'); clear hb'
  go_wp2_with fail
  go_at_call 22; refine (put_any B b _ l [[101, 110, 100, 32], rT a] _ (Kq.bd (Kq.alloc (Hid.out (by assumption)) _)) (Kq.texts (Hid.out (by assumption)) [[101, 110, 100, 32], rT a]).1 (Kq.texts (Hid.out (by assumption)) []).2 HLN.out (Kq.hB (Kq.alloc (Hid.out (by assumption)) _)) (by simp)).mono ?_; rintro _ w' ⟨rfl, hw'⟩; have HKF := Lib.hid (Kq.write (Kq.alloc (Hid.out (by assumption)) _) hw'); clear hw'
  go_wp2_with fail
  go_end0
  exact ⟨rfl, HFL.out ▸ HKF.out.bd, HKF.out.below, HKF.out.oth⟩
end Go.Proofs.YtdhfdlelnkoomaaDoor
