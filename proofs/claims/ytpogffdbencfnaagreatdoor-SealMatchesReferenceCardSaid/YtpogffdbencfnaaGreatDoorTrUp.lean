import Derived.Test.YtpogffdbencfnaaGreatDoorTrState
import Derived.Deep.RegionWith
import Derived.Deep.Cut
set_option linter.unusedVariables false
namespace Go.Proofs.YtpogffdbencfnaaGreatDoor
open Go Go.RowKit

/-- what the closures capture -/
structure Up0 (w W0 : World) (lb pb vb ub xb : Nat) (ao : Option Addr) (cap : Nat) (p0 : List ByteArray) (x : ByteArray) (fn : Value) : Prop where
  rd : Rd0 W0 lb pb ao cap p0
  base : Below w.heap.size w W0
  l0 : w.heap.size ≤ lb
  p0 : w.heap.size ≤ pb
  v : vb < W0.heap.size ∧ vb ≠ lb ∧ vb ≠ pb ∧ W0.cell? ⟨vb, 0, none⟩ = some (.pointer (some ⟨pb, 0, none⟩))
  u : ub < W0.heap.size ∧ ub ≠ lb ∧ ub ≠ pb ∧ W0.cell? ⟨ub, 0, none⟩ = some fn
  x : xb < W0.heap.size ∧ xb ≠ lb ∧ xb ≠ pb ∧ W0.cell? ⟨xb, 0, none⟩ = some (.string x)
  tabs : Tabs w
theorem Up0.vc {w W0 W : World} {lb pb vb ub xb cap j : Nat} {ao : Option Addr} {p0 : List ByteArray} {x : ByteArray} {fn : Value} {s : Bool} (h0 : Up0 w W0 lb pb vb ub xb ao cap p0 x fn) (h : Rd W0 lb pb ao cap j s W) : W.cell? ⟨vb, 0, none⟩ = some (.pointer (some ⟨pb, 0, none⟩)) := by
  rw [h.chg.cell h0.v.1 (by simp [h0.v.2.1, h0.v.2.2.1])]; exact h0.v.2.2.2
theorem Up0.uc {w W0 W : World} {lb pb vb ub xb cap j : Nat} {ao : Option Addr} {p0 : List ByteArray} {x : ByteArray} {fn : Value} {s : Bool} (h0 : Up0 w W0 lb pb vb ub xb ao cap p0 x fn) (h : Rd W0 lb pb ao cap j s W) : W.cell? ⟨ub, 0, none⟩ = some fn := by
  rw [h.chg.cell h0.u.1 (by simp [h0.u.2.1, h0.u.2.2.1])]; exact h0.u.2.2.2
theorem Up0.xc {w W0 W : World} {lb pb vb ub xb cap j : Nat} {ao : Option Addr} {p0 : List ByteArray} {x : ByteArray} {fn : Value} {s : Bool} (h0 : Up0 w W0 lb pb vb ub xb ao cap p0 x fn) (h : Rd W0 lb pb ao cap j s W) : W.cell? ⟨xb, 0, none⟩ = some (.string x) := by
  rw [h.chg.cell h0.x.1 (by simp [h0.x.2.1, h0.x.2.2.1])]; exact h0.x.2.2.2
theorem Up0.below {w W0 W : World} {lb pb vb ub xb cap j : Nat} {ao : Option Addr} {p0 : List ByteArray} {x : ByteArray} {fn : Value} {s : Bool} (h0 : Up0 w W0 lb pb vb ub xb ao cap p0 x fn) (h : Rd W0 lb pb ao cap j s W) : Below w.heap.size w W := by
  refine ⟨h.chg.os.trans h0.base.os, h.chg.tape.trans h0.base.tape, h.chg.output.trans h0.base.output, Nat.le_trans h0.base.size h.chg.size, fun k hk => ?_⟩
  have h1 := h0.l0
  have h2 := h0.p0
  rw [h.chg.block k (Nat.lt_of_lt_of_le hk h0.base.size) (by simp; omega)]
  exact h0.base.block k hk
theorem take_dropLast (p : List ByteArray) (j : Nat) (hj : j ≤ p.length) : (p.take j).dropLast = p.take (j - 1) := by
  cases j with
  | zero => simp
  | succ i =>
    rw [List.take_add_one, List.getElem?_eq_getElem (by omega)]
    simp only [Option.toList, List.dropLast_concat, Nat.add_sub_cancel]
theorem or_short (s : Bool) (j L : Nat) : ((s || decide (j = 0)) || decide (j - 1 < L)) = (s || decide (j < 1 + L)) := by
  rw [Bool.or_assoc]
  congr 1
  by_cases h : j = 0
  · subst h; simp; omega
  · rw [decide_eq_false h, Bool.false_or]
    exact decide_eq_decide.2 (by omega)
theorem upT_one (i : Nat) (d : ByteArray) (p : List ByteArray) : upT 1 i d p = d := by rw [upT, dif_pos (Nat.le_refl 1)]
theorem upT_many {n : Nat} (h : 2 ≤ n) (i : Nat) (d : ByteArray) (p : List ByteArray) : upT n i d p = if i < half n then dg [sNode, upT (half n) i d p.dropLast, popV p] else dg [sNode, popV p, upT (n - half n) (i - half n) d p.dropLast] := by
  rw [upT, dif_neg (by omega)]
theorem lenT_many {n : Nat} (h : 2 ≤ n) (i : Nat) : lenT n i = if i < half n then 1 + lenT (half n) i else 1 + lenT (n - half n) (i - half n) := by
  rw [lenT, dif_neg (by omega)]
theorem upT_size (n i : Nat) (d : ByteArray) (p : List ByteArray) (hd : d.size = 16) : (upT n i d p).size = 16 := by
  rw [upT]
  split
  · exact hd
  · split <;> exact dg_size _
theorem popV_size {p : List ByteArray} (h : ∀ s ∈ p, s.size = 16) (j : Nat) : (popV (p.take j)).size ≤ 16 := by
  unfold popV
  cases hl : (p.take j).getLast? with
  | none => exact Nat.zero_le _
  | some a =>
    have := h a (List.mem_of_mem_take (List.mem_of_getLast? hl))
    show a.size ≤ 16
    omega

set_option maxRecDepth 100000 in
set_option maxHeartbeats 1000000 in
theorem up_calls {w W0 : World} {lb pb vb ub xb cap : Nat} {ao : Option Addr} {p0 : List ByteArray} {x : ByteArray} (hx : x.size ≤ 1099511627776)
    (h0 : Up0 w W0 lb pb vb ub xb ao cap p0 x (.func (Fn.func 69) #[] #[.pointer (some ⟨xb, 0, none⟩), .pointer (some ⟨vb, 0, none⟩), .pointer (some ⟨ub, 0, none⟩)])) (n : Nat) :
    ∀ (i j : Nat) (s : Bool) (W : World), 1 ≤ n → n ≤ 1000000 → i < n → j ≤ p0.length → Rd W0 lb pb ao cap j s W →
    Calls Tryz.prog 69 #[.int .i64 (n : Int), .int .i64 (i : Int), .pointer (some ⟨xb, 0, none⟩), .pointer (some ⟨vb, 0, none⟩), .pointer (some ⟨ub, 0, none⟩)] W fun e W' =>
      e = .returned (.string (upT n i (dg [sLeaf, x]) (p0.take j))) ∧ Rd W0 lb pb ao cap (j - lenT n i) (s || decide (j < lenT n i)) W' := by
  have H0 := Lib.hid h0
  clear h0
  induction n using Nat.strongRecOn with
  | _ n ih =>
  intro i j s W hn1 hn hi hj h
  have H := Lib.hid h
  clear h
  by_cases h1 : n = 1
  · subst h1
    have hxc := H0.out.xc H.out
    have hb := H0.out.below H.out
    have HT := Lib.hid (H0.out.tabs.on hb)
    have HU := Lib.hid (upT_one i (dg [sLeaf, x]) (p0.take j))
    have HL := Lib.hid (len_one i)
    clear ih hb
    go_enter Tryz.func69, Tryz.ntmps69
    go_wp2_with fail
    refine (lit2_calls sLeaf x W (by decide) hx HT.out).mono ?_
    rintro e w1 ⟨rfl, h1⟩
    have HR := Lib.hid (H.out.below h1)
    clear h1
    go_wp2
    go_ret
    refine ⟨by rw [HU.out]; rfl, ?_⟩
    rw [HL.out]
    simpa using HR.out
  · have h2 : 2 ≤ n := by omega
    have hk1 := half_lt h2
    have hk0 := half_pos h2
    have hh := fun W => half_calls n h2 (by omega) W
    have HM := Lib.hid (upT_many h2 i (dg [sLeaf, x]) (p0.take j))
    have HL := Lib.hid (lenT_many h2 i)
    have hvc := H0.out.vc H.out
    have hn1' : ¬ (n : Int) = 1 := by omega
    have hn2' : ((n : Int) == 1) = false := by rw [beq_eq_false_iff_ne]; omega
    rw [take_dropLast p0 j hj] at HM
    have hds := popV_size H0.out.rd.sz j
    have HIH := Lib.hid ih
    clear ih
    obtain ⟨k, hk⟩ : ∃ k, k = half n := ⟨_, rfl⟩
    rw [← hk] at hk1 hk0 hh HM HL
    clear hk
    have hj1 : j - 1 ≤ p0.length := by omega
    by_cases hik : i < k
    · have hik' : (i : Int) < (k : Int) := by omega
      rw [if_pos hik] at HM HL
      go_enter Tryz.func69, Tryz.ntmps69
      go_upto_region 3 with fail
      go_cut [8, 9] from 10 (fun v8 v9 wx => v8 = .int .i64 (k : Int) ∧ v9 = .string (popV (p0.take j)) ∧ Hid (Rd W0 lb pb ao cap (j - 1) (s || decide (j = 0)) wx))
      case first =>
        go_region_with (first
          | (go_at_call 50; refine (hh _).mono ?_; rintro e w1 ⟨rfl, rfl⟩)
          | (go_at_call 70; refine (next_calls H0.out.rd H.out.drew hj).mono ?_; rintro e w1 ⟨rfl, h1⟩; have H1 := Lib.hid h1; clear h1))
        all_goals (go_wp2_with fail; go_meet; exact ⟨rfl, rfl, H1⟩)
      case rest =>
        obtain ⟨rfl, rfl, H1⟩ := hcut
        have huc := H0.out.uc H1.out
        have hus := upT_size k i (dg [sLeaf, x]) (p0.take (j - 1)) (dg_size _)
        have HC := Lib.hid (HIH.out k hk1 i (j - 1) (s || decide (j = 0)) wc (by omega) (by omega) hik hj1 H1.out)
        clear HIH hh hvc
        go_wp2_with fail
        refine HC.out.mono ?_
        rintro e w2 ⟨rfl, h2⟩
        have H2 := Lib.hid h2
        have HT := Lib.hid (H0.out.tabs.on (H0.out.below h2))
        clear h2 HC
        go_wp2_with fail
        refine (node_calls _ _ w2 (by omega) (by omega) HT.out).mono ?_
        rintro e w3 ⟨rfl, h3⟩
        have H3 := Lib.hid (H2.out.below h3)
        clear h3
        go_wp2
        go_ret
        refine ⟨by rw [HM.out]; rfl, ?_⟩
        rw [HL.out, ← or_short, show j - (1 + lenT k i) = j - 1 - lenT k i by omega]
        exact H3.out
    · have hik' : ¬ (i : Int) < (k : Int) := by omega
      rw [if_neg hik] at HM HL
      go_enter Tryz.func69, Tryz.ntmps69
      go_upto_region 3 with fail
      go_cut [8, 9] from 10 (fun v8 v9 wx => v8 = .int .i64 (k : Int) ∧ v9 = .string (popV (p0.take j)) ∧ Hid (Rd W0 lb pb ao cap (j - 1) (s || decide (j = 0)) wx))
      case first =>
        go_region_with (first
          | (go_at_call 50; refine (hh _).mono ?_; rintro e w1 ⟨rfl, rfl⟩)
          | (go_at_call 70; refine (next_calls H0.out.rd H.out.drew hj).mono ?_; rintro e w1 ⟨rfl, h1⟩; have H1 := Lib.hid h1; clear h1))
        all_goals (go_wp2_with fail; go_meet; exact ⟨rfl, rfl, H1⟩)
      case rest =>
        obtain ⟨rfl, rfl, H1⟩ := hcut
        have huc := H0.out.uc H1.out
        have hus := upT_size (n - k) (i - k) (dg [sLeaf, x]) (p0.take (j - 1)) (dg_size _)
        have hc := HIH.out (n - k) (by omega) (i - k) (j - 1) (s || decide (j = 0)) wc (by omega) (by omega) (by omega) hj1 H1.out
        rw [show ((n - k : Nat) : Int) = (n : Int) - (k : Int) by omega, show ((i - k : Nat) : Int) = (i : Int) - (k : Int) by omega] at hc
        have HC := Lib.hid hc
        clear HIH hh hvc hc
        go_wp2_with fail
        refine HC.out.mono ?_
        rintro e w2 ⟨rfl, h2⟩
        have H2 := Lib.hid h2
        have HT := Lib.hid (H0.out.tabs.on (H0.out.below h2))
        clear h2 HC
        go_wp2_with fail
        refine (node_calls _ _ w2 (by omega) (by omega) HT.out).mono ?_
        rintro e w3 ⟨rfl, h3⟩
        have H3 := Lib.hid (H2.out.below h3)
        clear h3
        go_wp2
        go_ret
        refine ⟨by rw [HM.out]; rfl, ?_⟩
        rw [HL.out, ← or_short, show j - (1 + lenT (n - k) (i - k)) = j - 1 - lenT (n - k) (i - k) by omega]
        exact H3.out
end Go.Proofs.YtpogffdbencfnaaGreatDoor
