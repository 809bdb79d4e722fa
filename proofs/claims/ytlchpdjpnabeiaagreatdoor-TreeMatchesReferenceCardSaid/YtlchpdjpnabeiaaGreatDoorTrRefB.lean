import Derived.Test.YtlchpdjpnabeiaaGreatDoorTrRefA
import Derived.Test.YtlchpdjpnabeiaaGreatDoorTrBoth
set_option linter.unusedVariables false
namespace Go.Proofs.YtlchpdjpnabeiaaGreatDoor
open Go Go.RowKit

theorem one_of {w : World} {v : Value} {p : List ByteArray} (h : IsStrC w v p) (hp : p.length = 1) : ∃ b o cap, v = .slice (some ⟨b, o, none⟩) 1 cap ∧ w.cell? ⟨b, o, none⟩ = some (.string (popV p)) := by
  obtain ⟨ao, cap, rfl, h1, h2, h3⟩ := h
  obtain ⟨b, o, rfl, hlt, hc⟩ := h3 0 (by omega)
  refine ⟨b, o, cap, by rw [hp], ?_⟩
  match p, hp with
  | [s], _ => exact hc
theorem longT_pos {n m : Nat} (h0 : 0 < m) (h : m < n) (wh : Bool) : 0 < longT n m wh := by
  rw [longT_many h0 h]; split <;> omega
set_option maxRecDepth 100000 in
set_option maxHeartbeats 2000000 in
theorem rboth_calls (n : Nat) : ∀ (m : Nat) (wh : Bool) (old : ByteArray) (p : List ByteArray) (v : Value) (w : World), 1 ≤ m → m ≤ n → n ≤ 1000000 → old.size ≤ 1099511627776 → IsStrC w v p → (∀ s ∈ p, s.size ≤ 16) → p.length = longT n m wh →
    Calls Tryz.prog 38 #[.int .i64 (n : Int), .int .i64 (m : Int), .bool wh, .string old, v] w fun e w' => e = .returned (.tuple #[.string (bothT n m wh old p).1, .string (bothT n m wh old p).2]) ∧ Below w.heap.size w w' := by
  induction n using Nat.strongRecOn with
  | _ n ih =>
  intro m wh old p v w hm1 hmn hn hos hv hs hp
  by_cases h1 : m = n
  · subst h1
    have HU := Lib.hid (bothT_end m wh old p)
    have hlen := longT_end m wh
    rw [hlen] at hp
    clear ih hs hlen
    cases wh with
    | true =>
      go_enter Tryz.func38, Tryz.ntmps38
      go_wp2
      go_ret2
      exact ⟨by rw [HU.out]; rfl, Below.refl _ _⟩
    | false =>
      obtain ⟨b, o, cap, rfl, hc⟩ := one_of hv hp
      clear hv
      go_enter Tryz.func38, Tryz.ntmps38
      go_wp2_with fail
      go_quiet (fail)
      go_wp2
      go_ret2
      exact ⟨by rw [HU.out]; rfl, below_drewN (Below.refl _ _) _⟩
  · have h2 : 2 ≤ n := by omega
    have hk1 := half_lt h2
    have hk0 := half_pos h2
    have hh := fun W => rhalf_calls n h2 (by omega) W
    have HM := Lib.hid (bothT_many hm1 (by omega : m < n) wh old p)
    have HL := Lib.hid (longT_many hm1 (by omega : m < n) wh)
    have hp0 : 0 < p.length := by rw [hp]; exact longT_pos hm1 (by omega) wh
    obtain ⟨b, o, cap, rfl, hlc, hcm, hc, hvd, hdl⟩ := last_of hv hp0
    have HV := Lib.hid hvd
    have hps := popV_le hs
    have hs2 : ∀ s ∈ p.dropLast, s.size ≤ 16 := fun s hx => hs s (List.dropLast_subset p hx)
    have HIH := Lib.hid ih
    have HS2 := Lib.hid hs2
    clear ih hv hs hvd hs2
    obtain ⟨k, hk⟩ : ∃ k, k = half n := ⟨_, rfl⟩
    rw [← hk] at hk1 hk0 hh HM HL
    clear hk
    have hnn : ((m : Int) == (n : Int)) = false := by rw [beq_eq_false_iff_ne]; omega
    obtain ⟨q, hq⟩ : ∃ q, q + 1 = p.length := ⟨p.length - 1, by omega⟩
    have hq1 : p.length - 1 = q := by omega
    rw [hq1] at hc HV hdl
    rw [← hq] at hlc hp ⊢
    clear hq hp0 hq1
    have hsl := run_slice_to (b := b) (o := o) (n := q + 1) (cap := cap) (k := q) (by omega)
    by_cases hik : m ≤ k
    · have hik' : (m : Int) ≤ (k : Int) := by omega
      rw [if_pos hik] at HM HL
      have hlen : p.dropLast.length = longT k m wh := by rw [hdl]; have := HL.out; omega
      have hbs := bothT_size k m wh old p.dropLast hos HS2.out
      have HC := Lib.hid (fun W hb => HIH.out k hk1 m wh old p.dropLast _ W hm1 hik (by omega) hos (HV.out.on hb) HS2.out hlen)
      clear HIH HL hlen hp
      go_enter Tryz.func38, Tryz.ntmps38
      go_wp2_with fail
      refine (hh _).mono ?_
      rintro e w1 ⟨rfl, rfl⟩
      clear hh
      go_wp2_with fail
      refine (HC.out _ (Below.refl _ _)).mono ?_
      rintro e w2 ⟨rfl, h2⟩
      have H2 := Lib.hid h2
      clear h2
      go_wp2_with fail
      refine (rnode_calls _ _ w2 hbs.2 (by omega)).mono ?_
      rintro e w3 ⟨rfl, h3⟩
      have H3 := Lib.hid (H2.out.trans (h3.mono H2.out.size))
      clear h3
      go_wp2
      go_ret2
      exact ⟨by rw [HM.out]; rfl, H3.out⟩
    · have hik' : ¬ (m : Int) ≤ (k : Int) := by omega
      rw [if_neg hik] at HM HL
      have hlen : p.dropLast.length = longT (n - k) (m - k) false := by rw [hdl]; have := HL.out; omega
      have hbs := bothT_size (n - k) (m - k) false old p.dropLast hos HS2.out
      have hC := (fun W hb => HIH.out (n - k) (by omega) (m - k) false old p.dropLast _ W (by omega) (by omega) (by omega) hos (HV.out.on hb) HS2.out hlen)
      rw [show ((n - k : Nat) : Int) = (n : Int) - (k : Int) by omega, show ((m - k : Nat) : Int) = (m : Int) - (k : Int) by omega] at hC
      have HC := Lib.hid hC
      clear HIH HL hlen hp hC
      go_enter Tryz.func38, Tryz.ntmps38
      go_wp2_with fail
      refine (hh _).mono ?_
      rintro e w1 ⟨rfl, rfl⟩
      clear hh
      go_wp2_with fail
      refine (HC.out _ (Below.refl _ _)).mono ?_
      rintro e w2 ⟨rfl, h2⟩
      have H2 := Lib.hid h2
      clear h2
      go_wp2_with fail
      refine (rnode_calls _ _ w2 (by omega) hbs.1).mono ?_
      rintro e w3 ⟨rfl, h3⟩
      have H3 := Lib.hid (H2.out.trans (h3.mono H2.out.size))
      clear h3
      go_wp2_with fail
      refine (rnode_calls _ _ w3 (by omega) hbs.2).mono ?_
      rintro e w4 ⟨rfl, h4⟩
      have H4 := Lib.hid (H3.out.trans (h4.mono H3.out.size))
      clear h4
      go_wp2
      go_ret2
      exact ⟨by rw [HM.out]; rfl, H4.out⟩
end Go.Proofs.YtlchpdjpnabeiaaGreatDoor
