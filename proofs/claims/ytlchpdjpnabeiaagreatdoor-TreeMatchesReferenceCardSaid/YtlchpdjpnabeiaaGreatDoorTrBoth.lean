import Derived.Test.YtlchpdjpnabeiaaGreatDoorTrCheck
set_option linter.unusedVariables false
namespace Go.Proofs.YtlchpdjpnabeiaaGreatDoor
open Go Go.RowKit

theorem bothT_end (n : Nat) (wh : Bool) (old : ByteArray) (p : List ByteArray) : bothT n n wh old p = if wh then (old, old) else (popV p, popV p) := by rw [bothT, dif_pos (Or.inr rfl)]
theorem bothT_many {n m : Nat} (h0 : 0 < m) (h : m < n) (wh : Bool) (old : ByteArray) (p : List ByteArray) : bothT n m wh old p = if m ≤ half n then
    ((bothT (half n) m wh old p.dropLast).1, dg [sNode, (bothT (half n) m wh old p.dropLast).2, popV p])
  else (dg [sNode, popV p, (bothT (n - half n) (m - half n) false old p.dropLast).1], dg [sNode, popV p, (bothT (n - half n) (m - half n) false old p.dropLast).2]) := by
  rw [bothT, dif_neg (by omega)]
theorem longT_end (n : Nat) (wh : Bool) : longT n n wh = if wh then 0 else 1 := by rw [longT, dif_pos (Or.inr rfl)]
theorem longT_many {n m : Nat} (h0 : 0 < m) (h : m < n) (wh : Bool) : longT n m wh = if m ≤ half n then 1 + longT (half n) m wh else 1 + longT (n - half n) (m - half n) false := by
  rw [longT, dif_neg (by omega)]
theorem popV_le {p : List ByteArray} (h : ∀ s ∈ p, s.size ≤ 16) : (popV p).size ≤ 16 := by
  unfold popV
  cases hl : p.getLast? with
  | none => exact Nat.zero_le _
  | some a => exact h a (List.mem_of_getLast? hl)
theorem bothT_size (n : Nat) : ∀ (m : Nat) (wh : Bool) (old : ByteArray) (p : List ByteArray), old.size ≤ 1099511627776 → (∀ s ∈ p, s.size ≤ 16) → (bothT n m wh old p).1.size ≤ 1099511627776 ∧ (bothT n m wh old p).2.size ≤ 1099511627776 := by
  induction n using Nat.strongRecOn with
  | _ n ih =>
  intro m wh old p ho hp
  have hq := popV_le hp
  have hp2 : ∀ s ∈ p.dropLast, s.size ≤ 16 := fun s hs => hp s (List.dropLast_subset p hs)
  rw [bothT]
  split
  · split
    · exact ⟨ho, ho⟩
    · simp only; omega
  · rename_i h
    have h2 := half_lt (n := n) (by omega)
    have h3 := half_pos (n := n) (by omega)
    split
    · have := ih (half n) h2 m wh old p.dropLast ho hp2
      refine ⟨this.1, ?_⟩
      simp only [dg_size]; omega
    · simp only [dg_size]; omega

set_option maxRecDepth 100000 in
set_option maxHeartbeats 2000000 in
theorem both_calls {w W0 : World} {lb pb vb ub xb cap : Nat} {ao : Option Addr} {p0 : List ByteArray} {x : ByteArray} (hx : x.size ≤ 1099511627776)
    (h0 : Up0 w W0 lb pb vb ub xb ao cap p0 x (.func (Fn.func 36) #[] #[.pointer (some ⟨xb, 0, none⟩), .pointer (some ⟨vb, 0, none⟩), .pointer (some ⟨ub, 0, none⟩)])) (n : Nat) :
    ∀ (m j : Nat) (wh s : Bool) (W : World), 1 ≤ m → n ≤ 1000000 → m ≤ n → j ≤ p0.length → Rd W0 lb pb ao cap j s W →
    Calls Tryz.prog 36 #[.int .i64 (n : Int), .int .i64 (m : Int), .bool wh, .pointer (some ⟨xb, 0, none⟩), .pointer (some ⟨vb, 0, none⟩), .pointer (some ⟨ub, 0, none⟩)] W fun e W' =>
      e = .returned (.tuple #[.string (bothT n m wh x (p0.take j)).1, .string (bothT n m wh x (p0.take j)).2]) ∧ Rd W0 lb pb ao cap (j - longT n m wh) (s || decide (j < longT n m wh)) W' := by
  have H0 := Lib.hid h0
  clear h0
  induction n using Nat.strongRecOn with
  | _ n ih =>
  intro m j wh s W hm1 hn hmn hj h
  have H := Lib.hid h
  clear h
  by_cases h1 : m = n
  · subst h1
    have HL := Lib.hid (longT_end m wh)
    have HU := Lib.hid (bothT_end m wh x (p0.take j))
    clear ih
    cases wh with
    | true =>
      have hxc := H0.out.xc H.out
      go_enter Tryz.func36, Tryz.ntmps36
      go_wp2_with fail
      go_quiet (fail)
      go_wp2
      go_ret2
      refine ⟨by rw [HU.out]; rfl, ?_⟩
      rw [HL.out]
      simpa using H.out.below (below_drewN (Below.refl _ _) _)
    | false =>
      have hvc := H0.out.vc H.out
      go_enter Tryz.func36, Tryz.ntmps36
      go_wp2_with fail
      refine (next_calls H0.out.rd H.out hj).mono ?_
      rintro e w1 ⟨rfl, h1⟩
      have H1 := Lib.hid h1
      clear h1
      go_wp2
      go_ret2
      refine ⟨by rw [HU.out]; rfl, ?_⟩
      rw [HL.out]
      have e1 : decide (j < 1) = decide (j = 0) := decide_eq_decide.2 (by omega)
      simp only [Bool.false_eq_true, if_false, e1]
      exact H1.out
  · have h2 : 2 ≤ n := by omega
    have hk1 := half_lt h2
    have hk0 := half_pos h2
    have hh := fun W => half_calls n h2 (by omega) W
    have HM := Lib.hid (bothT_many hm1 (by omega : m < n) wh x (p0.take j))
    have HL := Lib.hid (longT_many hm1 (by omega : m < n) wh)
    have hvc := H0.out.vc H.out
    have hd0 : ((m : Int) == (n : Int)) = false := by rw [beq_eq_false_iff_ne]; omega
    rw [take_dropLast p0 j hj] at HM
    have hds := popV_size H0.out.rd.sz j
    have HIH := Lib.hid ih
    clear ih
    obtain ⟨k, hk⟩ : ∃ k, k = half n := ⟨_, rfl⟩
    rw [← hk] at hk1 hk0 hh HM HL
    clear hk
    have hj1 : j - 1 ≤ p0.length := by omega
    have hps : ∀ s ∈ p0.take (j - 1), s.size ≤ 16 := fun s hs => by have := H0.out.rd.sz s (List.mem_of_mem_take hs); omega
    by_cases hik : m ≤ k
    · have hik' : (m : Int) ≤ (k : Int) := by omega
      rw [if_pos hik] at HM HL
      have hbs := bothT_size k m wh x (p0.take (j - 1)) hx hps
      go_enter Tryz.func36, Tryz.ntmps36
      go_upto_region 6 with fail
      go_cut [12, 13] from 14 (fun v8 v9 wx => v8 = .int .i64 (k : Int) ∧ v9 = .string (popV (p0.take j)) ∧ Hid (Rd W0 lb pb ao cap (j - 1) (s || decide (j = 0)) wx))
      case first =>
        go_region_with (first
          | (go_at_call 19; refine (hh _).mono ?_; rintro e w1 ⟨rfl, rfl⟩)
          | (go_at_call 31; refine (next_calls H0.out.rd H.out.drew hj).mono ?_; rintro e w1 ⟨rfl, h1⟩; have H1 := Lib.hid h1; clear h1))
        all_goals (go_wp2_with fail; go_meet; exact ⟨rfl, rfl, H1⟩)
      case rest =>
        obtain ⟨rfl, rfl, H1⟩ := hcut
        have huc := H0.out.uc H1.out
        have HC := Lib.hid (HIH.out k hk1 m (j - 1) wh (s || decide (j = 0)) wc hm1 (by omega) hik hj1 H1.out)
        clear HIH hh hvc
        go_wp2_with fail
        refine HC.out.mono ?_
        rintro e w2 ⟨rfl, h2⟩
        have H2 := Lib.hid h2
        have HT := Lib.hid (H0.out.tabs.on (H0.out.below h2))
        clear h2 HC
        go_wp2_with fail
        refine (node_calls _ _ w2 hbs.2 (by omega) HT.out).mono ?_
        rintro e w3 ⟨rfl, h3⟩
        have H3 := Lib.hid (H2.out.below h3)
        clear h3
        go_wp2
        go_ret2
        refine ⟨by rw [HM.out]; rfl, ?_⟩
        rw [HL.out, ← or_short, show j - (1 + longT k m wh) = j - 1 - longT k m wh by omega]
        exact H3.out
    · have hik' : ¬ (m : Int) ≤ (k : Int) := by omega
      rw [if_neg hik] at HM HL
      have hbs := bothT_size (n - k) (m - k) false x (p0.take (j - 1)) hx hps
      go_enter Tryz.func36, Tryz.ntmps36
      go_upto_region 6 with fail
      go_cut [12, 13] from 14 (fun v8 v9 wx => v8 = .int .i64 (k : Int) ∧ v9 = .string (popV (p0.take j)) ∧ Hid (Rd W0 lb pb ao cap (j - 1) (s || decide (j = 0)) wx))
      case first =>
        go_region_with (first
          | (go_at_call 19; refine (hh _).mono ?_; rintro e w1 ⟨rfl, rfl⟩)
          | (go_at_call 31; refine (next_calls H0.out.rd H.out.drew hj).mono ?_; rintro e w1 ⟨rfl, h1⟩; have H1 := Lib.hid h1; clear h1))
        all_goals (go_wp2_with fail; go_meet; exact ⟨rfl, rfl, H1⟩)
      case rest =>
        obtain ⟨rfl, rfl, H1⟩ := hcut
        have huc := H0.out.uc H1.out
        have hc := HIH.out (n - k) (by omega) (m - k) (j - 1) false (s || decide (j = 0)) wc (by omega) (by omega) (by omega) hj1 H1.out
        rw [show ((n - k : Nat) : Int) = (n : Int) - (k : Int) by omega, show ((m - k : Nat) : Int) = (m : Int) - (k : Int) by omega] at hc
        have HC := Lib.hid hc
        clear HIH hh hvc hc
        go_wp2_with fail
        refine HC.out.mono ?_
        rintro e w2 ⟨rfl, h2⟩
        have H2 := Lib.hid h2
        have HT := Lib.hid (H0.out.tabs.on (H0.out.below h2))
        clear h2 HC
        go_wp2_with fail
        refine (node_calls _ _ w2 (by omega) hbs.1 HT.out).mono ?_
        rintro e w3 ⟨rfl, h3⟩
        have H3 := Lib.hid (H2.out.below h3)
        have HT3 := Lib.hid (H0.out.tabs.on (H0.out.below H3.out))
        clear h3
        go_wp2_with fail
        refine (node_calls _ _ w3 (by omega) hbs.2 HT3.out).mono ?_
        rintro e w4 ⟨rfl, h4⟩
        have H4 := Lib.hid (H3.out.below h4)
        clear h4
        go_wp2
        go_ret2
        refine ⟨by rw [HM.out]; rfl, ?_⟩
        rw [HL.out, ← or_short, show j - (1 + longT (n - k) (m - k) false) = j - 1 - longT (n - k) (m - k) false by omega]
        exact H4.out
end Go.Proofs.YtlchpdjpnabeiaaGreatDoor
