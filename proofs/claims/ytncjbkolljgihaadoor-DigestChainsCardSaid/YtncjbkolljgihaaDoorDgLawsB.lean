import Derived.Test.YtncjbkolljgihaaDoorDgHeadB
set_option linter.unusedVariables false
namespace Go.Proofs.YtncjbkolljgihaaDoor
open Go Go.RowKit

theorem long_law (t : ByteArray) (n : Int) (w : World) (ht : t.size ≤ 9223372036854775807) (h1 : -9223372036854775808 ≤ n) (h2 : n ≤ 9223372036854775807) (hT : Tabs w) :
    Calls Tryd.prog 4 #[.string t, .int .i64 n] w fun e w' => e = .returned (.bool true) ∧ Below w.heap.size w w' := by
  have HT := Lib.hid hT
  clear hT
  by_cases hl : 200 < t.size
  · go_enter Tryd.func4, Tryd.ntmps4
    go_wp2_with fail
    refine (head01_calls w HT.out).mono ?_
    rintro e w1 ⟨rfl, h1⟩
    go_wp2
    go_ret
    exact ⟨rfl, h1⟩
  · by_cases hn : n ≤ 1000
    · go_enter Tryd.func4, Tryd.ntmps4
      go_wp2_with fail
      refine (head01_calls w HT.out).mono ?_
      rintro e w1 ⟨rfl, h1⟩
      go_wp2
      go_ret
      exact ⟨rfl, h1⟩
    · have hN : chainN n = 1000 := by unfold chainN; rw [if_neg (by omega), if_pos (by omega)]
      have hN2 : chainN 1000 = 1000 := by decide
      go_enter Tryd.func4, Tryd.ntmps4
      go_wp2_with fail
      refine (head01_calls w HT.out).mono ?_
      rintro e w1 ⟨rfl, h1⟩
      have H1 := Lib.hid h1
      clear h1
      go_wp2_with fail
      refine (chain_calls t (by omega) n w1 (HT.out.on H1.out)).mono ?_
      rintro e w2 ⟨rfl, h2⟩
      have H2 := Lib.hid (H1.out.trans (h2.mono H1.out.size))
      clear h2
      rw [hN]
      go_wp2_with fail
      refine (rchain_calls t (by omega) 1000 w2).mono ?_
      rintro e w3 ⟨rfl, rfl⟩
      rw [hN2]
      generalize chainS t 1000 = c
      go_wp2
      go_ret
      exact ⟨rfl, H2.out⟩

theorem chains_law (t : ByteArray) (a b : Int) (w : World) (ht : t.size ≤ 9223372036854775807) (ha0 : 0 ≤ a) (ha : a ≤ 255) (hb0 : 0 ≤ b) (hb : b ≤ 255) (hT : Tabs w) :
    Calls Tryd.prog 8 #[.string t, .int .u8 a, .int .u8 b] w fun e w' => e = .returned (.bool true) ∧ Below w.heap.size w w' := by
  have HT := Lib.hid hT
  clear hT
  by_cases hl : 2000 < t.size
  · go_enter Tryd.func8, Tryd.ntmps8
    go_wp2_with fail
    refine (head01_calls w HT.out).mono ?_
    rintro e w1 ⟨rfl, h1⟩
    go_wp2
    go_ret
    exact ⟨rfl, h1⟩
  · obtain ⟨p, hp⟩ : ∃ p : Int, p = a % 51 := ⟨_, rfl⟩
    obtain ⟨q, hq⟩ : ∃ q : Int, q = b % 51 := ⟨_, rfl⟩
    have hN : ∀ x : Int, 0 ≤ x → x ≤ 1000 → chainN x = x.toNat := fun x h0 h1 => by unfold chainN; rw [if_neg (by omega), if_neg (by omega)]
    have hpq : Hid (chainS (chainS t (chainN p)) (chainN q) = chainS t (chainN (p + q))) := by
      rw [hN p (by omega) (by omega), hN q (by omega) (by omega), hN (p + q) (by omega) (by omega), chainS_bS, chainS_bS t, chainS_bS t, bS_list, chainL_add]
      rw [show p.toNat + q.toNat = (p + q).toNat by omega]
      exact Lib.hid rfl
    have hp' : a % 51 = p := hp.symm
    have hq' : b % 51 = q := hq.symm
    have hpb : 0 ≤ p ∧ p ≤ 50 := by omega
    have hqb : 0 ≤ q ∧ q ≤ 50 := by omega
    have hsz := chainS_size t (chainN p) (by omega)
    obtain ⟨hpb1, hpb2⟩ := hpb
    obtain ⟨hqb1, hqb2⟩ := hqb
    clear hp hq hN
    go_enter Tryd.func8, Tryd.ntmps8
    go_wp2_with fail
    refine (head01_calls w HT.out).mono ?_
    rintro e w1 ⟨rfl, h1⟩
    have H1 := Lib.hid h1
    clear h1
    go_wp2_with fail
    refine (chain_calls t (by omega) p w1 (HT.out.on H1.out)).mono ?_
    rintro e w2 ⟨rfl, h2⟩
    have H2 := Lib.hid (H1.out.trans (h2.mono H1.out.size))
    clear h2
    go_wp2_with fail
    refine (chain_calls _ hsz q w2 (HT.out.on H2.out)).mono ?_
    rintro e w3 ⟨rfl, h3⟩
    have H3 := Lib.hid (H2.out.trans (h3.mono H2.out.size))
    clear h3
    rw [hpq.out]
    go_wp2_with fail
    refine (chain_calls t (by omega) (p + q) w3 (HT.out.on H3.out)).mono ?_
    rintro e w4 ⟨rfl, h4⟩
    have H4 := Lib.hid (H3.out.trans (h4.mono H3.out.size))
    clear h4 hsz
    generalize chainS t (chainN (p + q)) = c
    go_wp2
    go_ret
    exact ⟨rfl, H4.out⟩
end Go.Proofs.YtncjbkolljgihaaDoor
namespace Go.Proofs.YtncjbkolljgihaaDoor.digestLong
open Go Go.RowKit
theorem walk {w : World} (hT : Tabs w) (t : ByteArray) (wt : t.size ≤ maxLen) (n : Int) (wn : (Lit.int .i64 n).wf = true) :
    Calls Tryd.prog 4 #[.string t, .int .i64 n] w fun e w' => e = .returned (.bool true) ∧ Below w.heap.size w w' := by
  have h : -9223372036854775808 ≤ n ∧ n ≤ 9223372036854775807 := by simpa [Lit.wf, IntKind.min, IntKind.max, IntKind.signed, IntKind.bits] using wn
  exact long_law t n w wt h.1 h.2 hT
end Go.Proofs.YtncjbkolljgihaaDoor.digestLong
namespace Go.Proofs.YtncjbkolljgihaaDoor.digestChains
open Go Go.RowKit
theorem walk {w : World} (hT : Tabs w) (t : ByteArray) (wt : t.size ≤ maxLen) (a : Int) (wa : (Lit.int .u8 a).wf = true) (b : Int) (wb : (Lit.int .u8 b).wf = true) :
    Calls Tryd.prog 8 #[.string t, .int .u8 a, .int .u8 b] w fun e w' => e = .returned (.bool true) ∧ Below w.heap.size w w' := by
  have h1 : 0 ≤ a ∧ a ≤ 255 := by simpa [Lit.wf, IntKind.min, IntKind.max, IntKind.signed, IntKind.bits] using wa
  have h2 : 0 ≤ b ∧ b ≤ 255 := by simpa [Lit.wf, IntKind.min, IntKind.max, IntKind.signed, IntKind.bits] using wb
  exact chains_law t a b w wt h1.1 h1.2 h2.1 h2.2 hT
end Go.Proofs.YtncjbkolljgihaaDoor.digestChains
