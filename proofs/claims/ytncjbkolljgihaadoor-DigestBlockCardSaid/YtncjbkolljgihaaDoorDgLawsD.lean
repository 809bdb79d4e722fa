import Derived.Test.YtncjbkolljgihaaDoorDgLawsC
import Derived.Deep.RegionWith
set_option linter.unusedVariables false
namespace Go.Proofs.YtncjbkolljgihaaDoor
open Go Go.RowKit

theorem app_list (a b : ByteArray) : (a ++ b).data.toList = a.data.toList ++ b.data.toList := by simp
theorem block_ne (pre a b rest : ByteArray) (p : Nat) (hp : pre.size = 8 * p) (hl : a.size = b.size) (h8 : a.size ≤ 8) (hne : a.data.toList ≠ b.data.toList) :
    ((sumS (pre ++ a ++ rest)).toList == (sumS (pre ++ b ++ rest)).toList) = false := by
  rw [eqS]
  refine decide_eq_false fun e => hne ?_
  have e : sumL (pre ++ a ++ rest).data.toList = sumL (pre ++ b ++ rest).data.toList := by simpa [sumS] using e
  rw [app_list, app_list, app_list, app_list] at e
  rw [Lib.size_eq] at hp h8
  rw [Lib.size_eq, Lib.size_eq] at hl
  have := block_inj (by simp [hl]) p (fun i hi => by
    unfold byteAt
    rw [List.append_assoc, List.append_assoc]
    by_cases h1 : i < pre.data.toList.length
    · rw [List.getElem?_append_left h1, List.getElem?_append_left h1]
    · rw [List.getElem?_append_right (by omega), List.getElem?_append_right (by omega)]
      by_cases h2 : i - pre.data.toList.length < a.data.toList.length
      · exfalso; omega
      · rw [List.getElem?_append_right (by omega), List.getElem?_append_right (by omega), hl]) e
  rw [List.append_assoc, List.append_assoc] at this
  exact List.append_inj_left (List.append_cancel_left this) hl

theorem sl_to (t : ByteArray) (n : Nat) (h : n ≤ t.size) : (t.extract 0 n).size = n := by rw [ByteArray.size_extract]; omega
set_option maxHeartbeats 1000000 in
theorem block_law (t : ByteArray) (p : Int) (a b : ByteArray) (w : World) (ht : t.size ≤ 9223372036854775807) (h1 : 0 ≤ p) (h2 : p ≤ 255) (ha : a.size ≤ 9223372036854775807) (hb : b.size ≤ 9223372036854775807) (hT : Tabs w) :
    Calls Tryd.prog 7 #[.string t, .int .u8 p, .string a, .string b] w fun e w' => e = .returned (.bool true) ∧ Below w.heap.size w w' := by
  have HT := Lib.hid hT
  clear hT
  obtain ⟨n, hn⟩ : ∃ n : Nat, n = min (min a.size b.size) 8 := ⟨_, rfl⟩
  have hm3 : ∀ W, (Builtin.min_ #[3, 3, 3] 3 #[.int .i64 (a.size : Int), .int .i64 (b.size : Int), .int .i64 8]).run Tryd.prog W = .ok (.int .i64 (n : Int)) W := fun W => by
    simp only [Builtin.min_, Builtin.min2, List.foldlM_cons, List.foldlM_nil, pure_bind]
    rw [show (if 8 < (if (b.size : Int) < (a.size : Int) then (b.size : Int) else a.size) then 8 else (if (b.size : Int) < (a.size : Int) then (b.size : Int) else a.size)) = (n : Int) by split <;> split <;> omega]
    rfl
  have hna : n ≤ a.size := by omega
  have hnb : n ≤ b.size := by omega
  have hn8 : n ≤ 8 := by omega
  clear hn
  have hea := sl_to a n hna
  have heb := sl_to b n hnb
  obtain ⟨q, rfl⟩ : ∃ q : Nat, p = (q : Int) := ⟨p.toNat, by omega⟩
  by_cases hl : 2000 < t.size
  · go_enter Tryd.func7, Tryd.ntmps7
    go_wp2_with fail
    refine (head01_calls w HT.out).mono ?_
    rintro e w1 ⟨rfl, h1⟩
    go_wp2
    go_ret
    exact ⟨rfl, h1⟩
  · by_cases hp : (t.size : Int) < 8 * q
    · go_enter Tryd.func7, Tryd.ntmps7
      go_wp2_with fail
      refine (head01_calls w HT.out).mono ?_
      rintro e w1 ⟨rfl, h1⟩
      go_wp2
      go_ret
      exact ⟨rfl, h1⟩
    · have hpre : (t.extract 0 (8 * q)).size = 8 * q := sl_to t _ (by omega)
      go_enter Tryd.func7, Tryd.ntmps7
      go_wp2_with fail
      refine (head01_calls w HT.out).mono ?_
      rintro e w1 ⟨rfl, h1⟩
      have H1 := Lib.hid h1
      clear h1
      go_wp2_with fail
      have hrs : (t.extract (min (8 * (q : Int) + n) t.size).toNat t.size).size ≤ 2000 := by rw [ByteArray.size_extract]; omega
      generalize t.extract (min (8 * (q : Int) + n) t.size).toNat t.size = rest at *
      generalize a.extract 0 n = x at *
      generalize b.extract 0 n = y at *
      clear hna hnb hm3
      have hsl : ∀ W, (Instr.slice 9 (.string t) none (some (.int .i64 (8 * (q : Int)))) none).run Tryd.prog W = .ok (.string (t.extract 0 (8 * q))) W := fun W => by
        simp [Instr.slice, go_sem]
        rw [if_pos (by omega)]
        rfl
      generalize hpre2 : t.extract 0 (8 * q) = pre at *
      have hs1 : (pre ++ x ++ rest).size ≤ 4611686018427387904 := by simp only [ByteArray.size_append]; omega
      have hs2 : (pre ++ y ++ rest).size ≤ 4611686018427387904 := by simp only [ByteArray.size_append]; omega
      have hs3 : pre.size + x.size ≤ 9223372036854775807 := by omega
      have hs4 : pre.size + y.size ≤ 9223372036854775807 := by omega
      have hs5 : pre.size + x.size + rest.size ≤ 9223372036854775807 := by omega
      have hs6 : pre.size + y.size + rest.size ≤ 9223372036854775807 := by omega
      have HX : Hid (x.data.toList ≠ y.data.toList → ((sumS (pre ++ x ++ rest)).toList == (sumS (pre ++ y ++ rest)).toList) = false) := Lib.hid fun hne => block_ne pre x y rest q hpre (by rw [hea, heb]) (by rw [hea]; exact hn8) hne
      clear hpre ha hb hn8 hea heb hrs
      refine wp_region_any (by kernel_rfl) ?_
      change wpAny _ _ _ _ _ _ _ (World.drew _)
      refine wpAny_take (i := 0) (v := .bool true) rfl (by kernel_rfl) (by kernel_rfl) (by kernel_rfl) (fun _ _ _ h => h) (Or.inl ⟨by kernel_rfl, fun W => by go_simp⟩) ?_
      refine wpAny_take (i := 1) (v := .bool true) rfl (by kernel_rfl) (by kernel_rfl) (by kernel_rfl) (fun _ _ _ h => h) (Or.inl ⟨by kernel_rfl, fun W => by go_simp⟩) ?_
      refine wpAny_take (i := 2) (v := .string t) rfl (by kernel_rfl) (by kernel_rfl) (by kernel_rfl) (fun _ _ _ h => h) (Or.inl ⟨by kernel_rfl, fun W => by go_simp⟩) ?_
      refine wpAny_take (i := 3) (v := .int .i64 (8 * (q : Int))) rfl (by kernel_rfl) (by kernel_rfl) (by kernel_rfl) (fun _ _ _ h => h) (Or.inl ⟨by kernel_rfl, fun W => by go_simp⟩) ?_
      refine wpAny_take (i := 4) (v := .string pre) rfl (by kernel_rfl) (by kernel_rfl) (by kernel_rfl) (fun _ _ _ h => h) (Or.inl ⟨by kernel_rfl, fun W => by go_simp⟩) ?_
      refine wpAny_take (i := 5) (v := .string x) rfl (by kernel_rfl) (by kernel_rfl) (by kernel_rfl) (fun _ _ _ h => h) (Or.inl ⟨by kernel_rfl, fun W => by go_simp⟩) ?_
      refine wpAny_take (i := 6) (v := .string (pre ++ x)) rfl (by kernel_rfl) (by kernel_rfl) (by kernel_rfl) (fun _ _ _ h => h) (Or.inl ⟨by kernel_rfl, fun W => by go_simp⟩) ?_
      refine wpAny_take (i := 7) (v := .string rest) rfl (by kernel_rfl) (by kernel_rfl) (by kernel_rfl) (fun _ _ _ h => h) (Or.inl ⟨by kernel_rfl, fun W => by go_simp⟩) ?_
      refine wpAny_take (i := 8) (v := .string (pre ++ x ++ rest)) rfl (by kernel_rfl) (by kernel_rfl) (by kernel_rfl) (fun _ _ _ h => h) (Or.inl ⟨by kernel_rfl, fun W => by go_simp⟩) ?_
      refine wpAny_take (i := 10) (v := .string t) rfl (by kernel_rfl) (by kernel_rfl) (by kernel_rfl) (fun _ _ _ h => h) (Or.inl ⟨by kernel_rfl, fun W => by go_simp⟩) ?_
      refine wpAny_take (i := 11) (v := .int .i64 (8 * (q : Int))) rfl (by kernel_rfl) (by kernel_rfl) (by kernel_rfl) (fun _ _ _ h => h) (Or.inl ⟨by kernel_rfl, fun W => by go_simp⟩) ?_
      refine wpAny_take (i := 12) (v := .string pre) rfl (by kernel_rfl) (by kernel_rfl) (by kernel_rfl) (fun _ _ _ h => h) (Or.inl ⟨by kernel_rfl, fun W => by go_simp⟩) ?_
      refine wpAny_take (i := 13) (v := .string y) rfl (by kernel_rfl) (by kernel_rfl) (by kernel_rfl) (fun _ _ _ h => h) (Or.inl ⟨by kernel_rfl, fun W => by go_simp⟩) ?_
      refine wpAny_take (i := 14) (v := .string (pre ++ y)) rfl (by kernel_rfl) (by kernel_rfl) (by kernel_rfl) (fun _ _ _ h => h) (Or.inl ⟨by kernel_rfl, fun W => by go_simp⟩) ?_
      refine wpAny_take (i := 15) (v := .string rest) rfl (by kernel_rfl) (by kernel_rfl) (by kernel_rfl) (fun _ _ _ h => h) (Or.inl ⟨by kernel_rfl, fun W => by go_simp⟩) ?_
      refine wpAny_take (i := 16) (v := .string (pre ++ y ++ rest)) rfl (by kernel_rfl) (by kernel_rfl) (by kernel_rfl) (fun _ _ _ h => h) (Or.inl ⟨by kernel_rfl, fun W => by go_simp⟩) ?_
      refine wpAny_take (i := 19) (v := .string x) rfl (by kernel_rfl) (by kernel_rfl) (by kernel_rfl) (fun _ _ _ h => h) (Or.inl ⟨by kernel_rfl, fun W => by go_simp⟩) ?_
      refine wpAny_take (i := 20) (v := .string y) rfl (by kernel_rfl) (by kernel_rfl) (by kernel_rfl) (fun _ _ _ h => h) (Or.inl ⟨by kernel_rfl, fun W => by go_simp⟩) ?_
      refine wpAny_take (i := 21) (v := .bool (x.toList == y.toList)) rfl (by kernel_rfl) (by kernel_rfl) (by kernel_rfl) (fun _ _ _ h => h) (Or.inl ⟨by kernel_rfl, fun W => by go_simp⟩) ?_
      refine wpAny_ready (rs := [9]) (by kernel_rfl) (by simp) ?_
      refine AllReady.cons rfl (fun K hK => ?_) AllReady.nil
      go_simp
      refine (sum_calls _ hs1 _ (HT.out.on H1.out.drew)).mono ?_
      rintro e w2 ⟨rfl, h2⟩
      have H2 : Hid (Below w.heap.size w w2) := Lib.hid (H1.out.drew.trans (h2.mono H1.out.drew.size))
      clear h2
      refine hK _ _ ?_
      clear hK K
      refine wpAny_ready (rs := [17]) (by kernel_rfl) (by simp) ?_
      refine AllReady.cons rfl (fun K hK => ?_) AllReady.nil
      go_simp
      refine (sum_calls _ hs2 _ (HT.out.on H2.out)).mono ?_
      rintro e w3 ⟨rfl, h3⟩
      have H3 : Hid (Below w.heap.size w w3) := Lib.hid (H2.out.trans (h3.mono H2.out.size))
      clear h3
      refine hK _ _ ?_
      clear hK K
      obtain ⟨c1, hc1⟩ : ∃ c1, c1 = ((sumS (pre ++ x ++ rest)).toList == (sumS (pre ++ y ++ rest)).toList) := ⟨_, rfl⟩
      obtain ⟨c2, hc2⟩ : ∃ c2, c2 = (x.toList == y.toList) := ⟨_, rfl⟩
      have HC : Hid (c1 = c2) := by
        rw [hc1, hc2, eqS x y]
        by_cases he : x.data.toList = y.data.toList
        · have : x = y := ByteArray.ext (Array.toList_inj.1 he)
          subst this
          exact Lib.hid (by simp)
        · rw [HX.out he, decide_eq_false he]; exact Lib.hid rfl
      generalize sumS (pre ++ x ++ rest) = s1 at *
      generalize sumS (pre ++ y ++ rest) = s2 at *
      rw [← hc2]
      refine wpAny_take (i := 18) (v := .bool (s1.toList == s2.toList)) rfl (by kernel_rfl) (by kernel_rfl) (by kernel_rfl) (fun _ _ _ h => h) (Or.inl ⟨by kernel_rfl, fun W => by go_simp⟩) ?_
      rw [← hc1, HC.out]
      clear hc1 hc2 HC HX
      refine wpAny_take (i := 22) (v := .bool true) rfl (by kernel_rfl) (by kernel_rfl) (by kernel_rfl) (fun _ _ _ h => h) (Or.inl ⟨by kernel_rfl, fun W => by go_simp⟩) ?_
      refine wpAny_take (i := 23) (v := .bool true) rfl (by kernel_rfl) (by kernel_rfl) (by kernel_rfl) (fun _ _ _ h => h) (Or.inl ⟨by kernel_rfl, fun W => by go_simp⟩) ?_
      refine wpAny_take (i := 24) (v := .bool true) rfl (by kernel_rfl) (by kernel_rfl) (by kernel_rfl) (fun _ _ _ h => h) (Or.inl ⟨by kernel_rfl, fun W => by go_simp⟩) ?_
      refine wpAny_done (by kernel_rfl) ?_ _
      go_wp2
      go_ret
      exact ⟨rfl, H3.out⟩
end Go.Proofs.YtncjbkolljgihaaDoor
namespace Go.Proofs.YtncjbkolljgihaaDoor.digestBlock
open Go Go.RowKit
theorem walk {w : World} (hT : Tabs w) (t : ByteArray) (wt : t.size ≤ maxLen) (p : Int) (wp : (Lit.int .u8 p).wf = true) (a : ByteArray) (wa : a.size ≤ maxLen) (b : ByteArray) (wb : b.size ≤ maxLen) :
    Calls Tryd.prog 7 #[.string t, .int .u8 p, .string a, .string b] w fun e w' => e = .returned (.bool true) ∧ Below w.heap.size w w' := by
  have h : 0 ≤ p ∧ p ≤ 255 := by simpa [Lit.wf, IntKind.min, IntKind.max, IntKind.signed, IntKind.bits] using wp
  exact block_law t p a b w wt h.1 h.2 wa wb hT
end Go.Proofs.YtncjbkolljgihaaDoor.digestBlock
