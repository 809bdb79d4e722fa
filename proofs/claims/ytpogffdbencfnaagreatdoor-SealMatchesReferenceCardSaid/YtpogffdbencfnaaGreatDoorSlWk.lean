import Derived.Test.YtpogffdbencfnaaGreatDoorSlPl
import Derived.Test.YtpogffdbencfnaaGreatDoorTrApp
import Derived.Test.YtpogffdbencfnaaGreatDoorTrTextsO
import Derived.Test.YtpogffdbencfnaaGreatDoorDgChain
import Derived.BigQuiet
import Derived.Test.YtpogffdbencfnaaGreatDoorTrRoot
import Derived.Laws.Rows
set_option linter.unusedVariables false
namespace Go.Proofs.YtpogffdbencfnaaGreatDoor
open Go Go.RowKit

theorem of_calls (v : Value) (ls : List ByteArray) (w : World) (hv : IsStrC w v ls) (hJ : (joinB ls).length ≤ 140737488355328) (hT : Tabs w) :
    Calls Tryz.prog 40 #[v] w fun e w' => e = .returned (.string (dg ls)) ∧ Below w.heap.size w w' := by
  have HC := Lib.hid (list_calls v ls w hv.strs hJ hT)
  obtain ⟨ao, cap, rfl, _, _, _⟩ := hv
  go_enter Tryz.func40, Tryz.ntmps40
  go_wp2_with fail
  refine (HC.out).mono ?_
  rintro e w1 ⟨rfl, h1⟩
  go_wp2
  go_ret
  exact ⟨rfl, h1⟩
theorem oflit3_calls (a b c : ByteArray) (w : World) (ha : a.size ≤ 1099511627776) (hb2 : b.size ≤ 1099511627776) (hc : c.size ≤ 1099511627776) (hT : Tabs w) :
    Calls Tryz.prog 40 #[.slice (some ⟨w.heap.size, 0, none⟩) 3 3] (w.alloc (.cells #[.string a, .string b, .string c] 9)) fun e w' => e = .returned (.string (dg [a, b, c])) ∧ Below w.heap.size w w' := by
  have hb := (Below.refl w.heap.size w).alloc (Nat.le_refl _) (.cells #[.string a, .string b, .string c] 9)
  refine (of_calls _ [a, b, c] _ (strc_lit w [a, b, c] (show 3 ≤ maxLen by decide)) ?_ (hT.on hb)).mono ?_
  · have := join_le 1099511627776 [a, b, c] (by simp; exact ⟨ha, hb2, hc⟩) (Nat.le_refl _); simp at this; omega
  · rintro e w' ⟨rfl, h⟩
    exact ⟨rfl, hb.trans (h.mono hb.size)⟩
theorem decS_size (n : Nat) (h : n ≤ 9223372036854775807) : (decS n).size ≤ 1099511627776 := by
  have : (decS n).size ≤ 21 := itoaS_le n h
  omega
theorem start_calls (secret : ByteArray) (i k : Nat) (w : World) (hs : secret.size ≤ 1099511627776) (hi : i ≤ 1000000) (hk : k ≤ 1000000) (hT : Tabs w) :
    Calls Tryz.prog 27 #[.string secret, .int .i64 (i : Int), .int .i64 (k : Int)] w fun e w' => e = .returned (.string (startT secret i k)) ∧ Below w.heap.size w w' := by
  have HT := Lib.hid hT
  clear hT
  go_enter Tryz.func27, Tryz.ntmps27
  go_wp2_with fail
  refine (itoa_calls i (by omega) w HT.out).mono ?_
  rintro e w1 ⟨rfl, h1⟩
  have H1 := Lib.hid h1
  clear h1
  go_wp2_with fail
  refine (itoa_calls k (by omega) w1 (HT.out.on H1.out)).mono ?_
  rintro e w2 ⟨rfl, h2⟩
  have H2 := Lib.hid (H1.out.trans (h2.mono H1.out.size))
  clear h2
  go_wp2_with fail
  refine (oflit3_calls secret (itoaS i) (itoaS k) w2 hs (decS_size i (by omega)) (decS_size k (by omega)) (HT.out.on H2.out)).mono ?_
  rintro e w3 ⟨rfl, h3⟩
  have H3 := Lib.hid (H2.out.trans (h3.mono H2.out.size))
  clear h3
  go_wp2
  go_ret
  exact ⟨rfl, H3.out⟩
theorem startT_size (secret : ByteArray) (i k : Nat) : (startT secret i k).size = 16 := sumS_size _
theorem range_take (n k : Nat) (f : Nat → ByteArray) (h : k < n) : ((List.range n).map f).take (k + 1) = ((List.range n).map f).take k ++ [f k] := by
  rw [List.take_succ_eq_append_getElem (by simpa using h)]
  simp
theorem endsT_size (secret : ByteArray) (i : Nat) : ∀ s ∈ endsT secret i, s.size = 16 := by
  intro s hs
  unfold endsT at hs
  obtain ⟨k, _, rfl⟩ := List.mem_map.1 hs
  exact sumS_size _
set_option maxHeartbeats 1000000 in
theorem key_calls (secret : ByteArray) (i : Nat) (w : World) (hs : secret.size ≤ 1099511627776) (hi : i ≤ 1000000) (hT : Tabs w) :
    Calls Tryz.prog 52 #[.string secret, .int .i64 (i : Int)] w fun e w' => e = .returned (.string (keyT secret i)) ∧ Below w.heap.size w w' := by
  have HT := Lib.hid hT
  have HJ : Hid ((joinB (endsT secret i)).length ≤ 140737488355328) := Lib.hid (by
    have := join_le 16 (endsT secret i) (fun s h => by rw [endsT_size secret i s h]; omega) (by decide)
    simp [endsT] at this
    simp [endsT]
    omega)
  clear hT
  go_enter Tryz.func52, Tryz.ntmps52
  go_wp2_with fail
  go_loopw [5, 7] (fun v5 v7 W => ∃ k : Nat, v7 = .int .i64 (k : Int) ∧ k ≤ 18 ∧ Hid (Own w.heap.size W v5 ((endsT secret i).take k) ∧ Below w.heap.size w W)) (fun _ v7 _ => 18 - (RowKit.intOf v7).toNat)
  case atStart => exact ⟨0, rfl, by omega, Own.nil _ _, Below.refl _ _⟩
  case round =>
    obtain ⟨k, rfl, hk, HI⟩ := hrel
    by_cases hlt : k < 18
    · have HTK : Hid ((endsT secret i).take (k + 1) = (endsT secret i).take k ++ [chainS (startT secret i k) 15]) := Lib.hid (range_take 18 k _ hlt)
      have hacc : ((endsT secret i).take k).length ≤ 18 := by rw [List.length_take]; omega
      have hss := startT_size secret i k
      go_wp2_with fail
      refine (start_calls secret i k wr hs hi (by omega) (HT.out.on HI.out.2)).mono ?_
      rintro e w1 ⟨rfl, h1⟩
      have HI1 : Hid (Own w.heap.size w1 u5 ((endsT secret i).take k) ∧ Below w.heap.size w w1) := Lib.hid ⟨HI.out.1.on h1, HI.out.2.trans (h1.mono HI.out.2.size)⟩
      clear h1 HI
      go_wp2_with fail
      refine (chain_calls (startT secret i k) (by omega) 15 w1 (HT.out.on HI1.out.2)).mono ?_
      rintro e w2 ⟨rfl, h2⟩
      have HI2 : Hid (Own w.heap.size w2 u5 ((endsT secret i).take k) ∧ Below w.heap.size w w2) := Lib.hid ⟨HI1.out.1.on h2, HI1.out.2.trans (h2.mono HI1.out.2.size)⟩
      clear h2 HI1
      rw [show chainN 15 = 15 from rfl]
      generalize chainS (startT secret i k) 15 = c at *
      generalize (endsT secret i).take k = acc at *
      go_wp2_with (at_builtin; refine app1 rfl (.tmp 10) (.tmp 16) rfl (r := c) rfl HI2.out.1 HI2.out.2 (Nat.le_refl _) (by omega) rfl ?_)
      intro v' w3 ho3 h3
      have HI3 : Hid (Own w.heap.size w3 v' ((endsT secret i).take (k + 1)) ∧ Below w.heap.size w w3) := by rw [HTK.out]; exact Lib.hid ⟨ho3, h3⟩
      clear ho3 h3 HI2 HTK
      go_wp2
      go_round
      case rel => exact ⟨k + 1, by go_num, by omega, HI3⟩
      case measure => simp only [RowKit.intOf]; omega
    · have HO : Hid (Own w.heap.size wr u5 (endsT secret i) ∧ Below w.heap.size w wr) := Lib.hid ⟨by have := HI.out.1; rwa [List.take_of_length_le (by simp [endsT]; omega)] at this, HI.out.2⟩
      clear HI
      go_wp2_with fail
      refine (of_calls u5 (endsT secret i) wr HO.out.1.strc HJ.out (HT.out.on HO.out.2)).mono ?_
      rintro e w1 ⟨rfl, h1⟩
      have H1 := Lib.hid (HO.out.2.trans (h1.mono HO.out.2.size))
      clear h1
      go_wp2
      go_ret
      exact ⟨rfl, H1.out⟩
end Go.Proofs.YtpogffdbencfnaaGreatDoor

namespace Go.Proofs.YtpogffdbencfnaaGreatDoor
open Go Go.RowKit

theorem own_store {B : Nat} {w : World} {g n cap : Nat} {l : List ByteArray} (h : Own B w (.slice (some ⟨g, 0, none⟩) n cap) l) (i : Nat) (s : ByteArray) (hi : i < l.length) :
    Own B (w.setCell ⟨g, i, none⟩ (.string s)) (.slice (some ⟨g, 0, none⟩) n cap) (l.set i s) := by
  have h : w.ownsRow B 9 1 (.slice (some ⟨g, 0, none⟩) n cap) l.length (l.map Value.string) := h
  obtain ⟨h1, ⟨e, _⟩ | ⟨g', cap', cur, e, hB, hg, h2, h3, h4, h5⟩⟩ := h
  · cases e
  · cases e
    refine ⟨by simp, .inr ⟨g, cap, cur.setIfInBounds i (.string s), by rw [List.length_set], hB, heap_setCell_same w g i cur _ _ hg, by rw [List.length_set]; exact h2, h3, by simpa using h4, ?_⟩⟩
    rw [Array.toList_setIfInBounds, List.take_set, List.length_set, h5, List.map_set]
theorem own_cell {B : Nat} {w : World} {g n cap : Nat} {l : List ByteArray} (h : Own B w (.slice (some ⟨g, 0, none⟩) n cap) l) (i : Nat) (hi : i < l.length) :
    w.cell? ⟨g, i, none⟩ = some (.string (l.getD i ByteArray.empty)) ∧ w.frozen? ⟨g, i, none⟩ = false := by
  have hn : n = l.length := by
    obtain ⟨_, ⟨e, _⟩ | ⟨g', cap', cur, e, _⟩⟩ := h
    · cases e
    · cases e; rfl
  subst hn
  refine ⟨?_, World.ownsRow.frozenAt h i⟩
  have := World.ownsRow.cells h rfl i (.string (l.getD i ByteArray.empty)) (by simp [List.getD, hi])
  rwa [Lib.add_plain, Nat.zero_add] at this
theorem wrap_pow (h : Nat) (hh : h ≤ 20) : wrap64 ((2 : Int) ^ h) = ((2 ^ h : Nat) : Int) := by
  have e : ((2 ^ h : Nat) : Int) = (2 : Int) ^ h := by simp
  have := Nat.pow_le_pow_right (n := 2) (by decide) hh
  rw [← e]
  generalize 2 ^ h = p at *
  exact IntWalk.wrap64_in _ (by omega)
theorem keyT_size (secret : ByteArray) (i : Nat) : (keyT secret i).size = 16 := sumS_size _
theorem set_step (l : List ByteArray) (n i : Nat) (hl : l.length = n) (hi : i < n) : (l.take i ++ List.replicate (n - i) ByteArray.empty).set i (l.getD i ByteArray.empty) = l.take (i + 1) ++ List.replicate (n - (i + 1)) ByteArray.empty := by
  have h1 : (l.take i).length = i := by rw [List.length_take]; omega
  rw [List.set_append_right _ _ (by omega), h1, Nat.sub_self, show n - i = (n - (i + 1)) + 1 by omega, List.replicate_succ, List.set_cons_zero, List.take_succ_eq_append_getElem (by omega), List.append_assoc]
  simp [List.getD, hl, hi]
set_option maxRecDepth 100000 in
set_option maxHeartbeats 1000000 in
theorem keys_calls (secret : ByteArray) (h : Nat) (w : World) (hs : secret.size ≤ 1099511627776) (hh : h ≤ 10) (hT : Tabs w) :
    Calls Tryz.prog 22 #[.string secret, .int .i64 (h : Int)] w fun e w' => ∃ v', e = .returned v' ∧ Own w.heap.size w' v' (keysT secret h) ∧ Below w.heap.size w w' := by
  have HT := Lib.hid hT
  obtain ⟨it, hti, hz0, hz1, hz2⟩ : ∃ i, Tryz.prog.info? 9 = some i ∧ i.zero = some (.string ByteArray.empty) ∧ i.size = 1 ∧ i.bytes = 16 := info_parts (by kernel_rfl)
  have Hi := Lib.hid hti
  have Hz0 := Lib.hid hz0
  have Hz1 := Lib.hid hz1
  have Hz2 := Lib.hid hz2
  clear hT hti hz0 hz1 hz2
  have hw2 := wrap_pow h (by omega)
  have hnle : 2 ^ h ≤ 1024 := Nat.pow_le_pow_right (n := 2) (by decide) hh
  obtain ⟨n, hn⟩ : ∃ n, n = 2 ^ h := ⟨_, rfl⟩
  rw [← hn] at hw2 hnle
  have HK : Hid ((keysT secret h).length = n) := Lib.hid (by rw [keysT_len, hn])
  have HKA : Hid (∀ i, i < n → (keysT secret h).getD i ByteArray.empty = keyT secret i) := Lib.hid (fun i hi => keysT_at secret h i (by omega))
  clear hn
  go_enter Tryz.func22, Tryz.ntmps22
  go_wp2_with (at_make; refine wpList_make_full _ rfl _ _ 22 rfl w.heap.size 9 it (.string ByteArray.empty) 1 Tryz.underlying22 Hi.out Hz0.out Hz1.out .i64 .i64 _ _ n rfl rfl (by first | exact hw2 | rfl) (by first | exact hw2 | rfl) (by rw [Hz2.out]; omega) (by unfold maxLen; omega) (Nat.le_refl _) ?_)
  intro w1 hown hgr
  have HI1 : Hid (Own w.heap.size w1 (.slice (some ⟨w.heap.size, 0, none⟩) n n) (List.replicate n ByteArray.empty) ∧ Below w.heap.size w w1) := by
    refine Lib.hid ⟨?_, (Below.refl w.heap.size w).grown hgr (Nat.le_refl _) (fun k hk => by cases hk)⟩
    unfold Own
    rw [List.length_replicate, List.map_replicate]
    rw [← toList_madeCells_one]
    simpa using hown
  clear hown hgr hw2
  go_wp2_with fail
  go_loopw [12] (fun v12 W => ∃ i : Nat, v12 = .int .i64 (i : Int) ∧ i ≤ n ∧ Hid (Own w.heap.size W (.slice (some ⟨w.heap.size, 0, none⟩) n n) ((keysT secret h).take i ++ List.replicate (n - i) ByteArray.empty) ∧ Below w.heap.size w W)) (fun v12 _ => n - (RowKit.intOf v12).toNat)
  case atStart => exact ⟨0, rfl, by omega, by simpa using HI1.out.1, HI1.out.2⟩
  case round =>
    obtain ⟨i, rfl, hi, HI⟩ := hrel
    clear HI1
    by_cases hlt : i < n
    · have hll : ((keysT secret h).take i ++ List.replicate (n - i) ByteArray.empty).length = n := by
        rw [List.length_append, List.length_take, List.length_replicate, HK.out]; omega
      have HLL := Lib.hid hll
      have HST : Hid (((keysT secret h).take i ++ List.replicate (n - i) ByteArray.empty).set i (keyT secret i) = (keysT secret h).take (i + 1) ++ List.replicate (n - (i + 1)) ByteArray.empty) := Lib.hid (by
        have := set_step (keysT secret h) n i HK.out hlt
        rw [HKA.out i hlt] at this
        exact this)
      clear hll
      go_wp2_with fail
      refine (key_calls secret i wr hs (by omega) (HT.out.on HI.out.2)).mono ?_
      rintro e w2 ⟨rfl, h2⟩
      have HI2 : Hid (Own w.heap.size w2 (.slice (some ⟨w.heap.size, 0, none⟩) n n) ((keysT secret h).take i ++ List.replicate (n - i) ByteArray.empty) ∧ Below w.heap.size w w2) := Lib.hid ⟨HI.out.1.on h2, HI.out.2.trans (h2.mono HI.out.2.size)⟩
      clear h2 HI
      obtain ⟨hc1, hc2⟩ := own_cell HI2.out.1 i (by rw [HLL.out]; exact hlt)
      generalize (((keysT secret h).take i ++ List.replicate (n - i) ByteArray.empty).getD i ByteArray.empty) = s0 at *
      have HI3 : Hid (Own w.heap.size (w2.setCell ⟨w.heap.size, i, none⟩ (.string (keyT secret i))) (.slice (some ⟨w.heap.size, 0, none⟩) n n) ((keysT secret h).take (i + 1) ++ List.replicate (n - (i + 1)) ByteArray.empty) ∧ Below w.heap.size w (w2.setCell ⟨w.heap.size, i, none⟩ (.string (keyT secret i)))) := by
        rw [← HST.out]
        exact Lib.hid ⟨own_store HI2.out.1 i _ (by rw [HLL.out]; exact hlt), HI2.out.2.setCell (p := ⟨w.heap.size, i, none⟩) (Nat.le_refl _) _⟩
      generalize keyT secret i = ky at *
      have hlt' : (i : Int) < (n : Int) := by omega
      clear HI2 HST HLL
      go_wp2
      go_round
      case rel => exact ⟨i + 1, by go_num, by omega, HI3⟩
      case measure => simp only [RowKit.intOf]; omega
    · have HO : Hid (Own w.heap.size wr (.slice (some ⟨w.heap.size, 0, none⟩) n n) (keysT secret h) ∧ Below w.heap.size w wr) := Lib.hid ⟨by
        have := HI.out.1
        rw [List.take_of_length_le (by rw [HK.out]; omega), show n - i = 0 by omega, List.replicate_zero, List.append_nil] at this
        exact this, HI.out.2⟩
      clear HI
      go_wp2
      go_ret
      exact ⟨_, rfl, HO.out.1, HO.out.2⟩
theorem public_calls (secret : ByteArray) (h : Nat) (w : World) (hs : secret.size ≤ 1099511627776) (hh : h ≤ 8) (hT : Tabs w) :
    Calls Tryz.prog 10 #[.string secret, .int .i64 (h : Int)] w fun e w' => e = .returned (.tuple #[.string (pubT secret h), .int .i64 0]) ∧ Below w.heap.size w w' := by
  have HT := Lib.hid hT
  clear hT
  have hd1 : decide ((h : Int) < 0) = false := decide_eq_false (by omega)
  have hd2 : decide ((8 : Int) < (h : Int)) = false := decide_eq_false (by omega)
  have HL := Lib.hid (keysT_len secret h)
  have HSZ : Hid (∀ s ∈ keysT secret h, s.size ≤ 1099511627776) := Lib.hid (fun s hs => by
    unfold keysT at hs
    obtain ⟨i, _, rfl⟩ := List.mem_map.1 hs
    rw [keyT_size]; omega)
  have HP : Hid (2 ^ h ≤ 256) := Lib.hid (Nat.pow_le_pow_right (n := 2) (by decide) hh)
  go_enter Tryz.func10, Tryz.ntmps10
  go_wp2_with fail
  refine (keys_calls secret h w hs (by omega) HT.out).mono ?_
  rintro e w1 ⟨vk, rfl, ho, h1⟩
  have HO := Lib.hid ho
  have H1 := Lib.hid h1
  clear ho h1
  go_wp2_with fail
  refine (root_calls _ (keysT secret h) vk w1 rfl HO.out.strc HSZ.out (by have := HL.out; have := HP.out; omega) (HT.out.on H1.out)).mono ?_
  rintro e w2 ⟨rfl, h2⟩
  have H2 := Lib.hid (H1.out.trans (h2.mono H1.out.size))
  clear h2
  go_wp2
  go_ret2
  exact ⟨rfl, H2.out⟩
theorem public_bad (secret : ByteArray) (h : Int) (w : World) (hh : ¬ (0 ≤ h ∧ h ≤ 8)) :
    Calls Tryz.prog 10 #[.string secret, .int .i64 h] w fun e w' => e = .returned (.tuple #[.string ByteArray.empty, .int .i64 1]) ∧ w' = w := by
  by_cases h1 : h < 0
  · clear hh
    go_enter Tryz.func10, Tryz.ntmps10
    go_wp2
    go_ret2
    exact ⟨rfl, rfl⟩
  · have h2 : 8 < h := by omega
    clear hh
    go_enter Tryz.func10, Tryz.ntmps10
    go_wp2
    go_ret2
    exact ⟨rfl, rfl⟩
end Go.Proofs.YtpogffdbencfnaaGreatDoor

