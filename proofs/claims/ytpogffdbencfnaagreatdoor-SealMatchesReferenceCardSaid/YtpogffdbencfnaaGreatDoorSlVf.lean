import Derived.Test.YtpogffdbencfnaaGreatDoorTrProper
import Derived.Test.YtpogffdbencfnaaGreatDoorSlSg
import Derived.Laws.EntriesVeiled
import Derived.Test.YtpogffdbencfnaaGreatDoorTrCheck
set_option linter.unusedVariables false
namespace Go.Proofs.YtpogffdbencfnaaGreatDoor
open Go Go.RowKit

theorem sodd1_calls (s : ByteArray) (hs : s.size ≤ 4611686018427387904) (w : World) :
    Calls Tryz.prog 37 #[.string s] w fun e w' => e = .returned (.bool (!isS s)) ∧ Below w.heap.size w w' := by
  go_enter Tryz.func37, Tryz.ntmps37
  go_wp2_with fail
  refine (is_calls s hs w).mono ?_
  rintro e w1 ⟨rfl, h1⟩
  go_wp2
  go_ret
  exact ⟨rfl, h1⟩
theorem sindex_calls (v : Value) (l : List ByteArray) (w : World) (hv : IsStrC w v l) (hs : ∀ s ∈ l, s.size ≤ 1099511627776) :
    Calls Tryz.prog 65 #[v, .func (Fn.func 37) #[] #[]] w fun e w' => ∃ r : Int, e = .returned (.int .i64 r) ∧ decide (0 ≤ r) = !(l.all isS) ∧ Below w.heap.size w w' := by
  obtain ⟨ao, cap, rfl, hlc, hmax, hcells⟩ := hv
  have HC := Lib.hid hcells
  have HS := Lib.hid hs
  clear hcells hs
  have hmx : l.length ≤ 9223372036854775807 := by have : cap ≤ 9223372036854775807 := hmax; omega
  clear hmax hlc
  go_enter Tryz.func65, Tryz.ntmps65
  go_wp2_with fail
  go_loopw [8] (fun vi W => ∃ i : Nat, vi = .int .i64 (i : Int) ∧ i ≤ l.length ∧ Hid (Below w.heap.size w W ∧ (l.take i).all isS = true)) (fun vi _ => l.length - (RowKit.intOf vi).toNat)
  case atStart => exact ⟨0, rfl, by omega, Below.refl _ _, rfl⟩
  case round =>
    obtain ⟨i, rfl, hi, HI⟩ := hrel
    by_cases hlt : i < l.length
    · obtain ⟨b, o, rfl, hbl, hc⟩ := HC.out i hlt
      have hcw : wr.cell? ⟨b, o + i, none⟩ = some (.string (l.getD i ByteArray.empty)) := by rw [HI.out.1.cell (p := ⟨b, o + i, none⟩) hbl]; exact hc
      have HA := Lib.hid (all_take_succ l i hlt)
      have hss : (l.getD i ByteArray.empty).size ≤ 1099511627776 := HS.out _ (by simp [List.getD, hlt])
      generalize l.getD i ByteArray.empty = s at *
      clear hc
      cases hq : isS s with
      | true =>
        go_wp2_with fail
        refine (sodd1_calls s (by omega) wr).mono ?_
        rintro e w1 ⟨rfl, h1⟩
        have HB1 := Lib.hid (HI.out.1.trans (h1.mono HI.out.1.size))
        have HA1 : Hid ((l.take (i + 1)).all isS = true) := by rw [HA.out, HI.out.2, hq]; exact Lib.hid rfl
        clear h1 hcw HA HI
        rw [hq]
        go_wp2
        go_round
        case rel => exact ⟨i + 1, rfl, by omega, HB1.out, HA1.out⟩
        case measure => simp only [RowKit.intOf]; omega
      | false =>
        go_wp2_with fail
        refine (sodd1_calls s (by omega) wr).mono ?_
        rintro e w1 ⟨rfl, h1⟩
        have HB1 := Lib.hid (HI.out.1.trans (h1.mono HI.out.1.size))
        have HA1 : Hid (l.all isS = false) := by exact Lib.hid (all_of_take l (i + 1) (by rw [HA.out, hq, Bool.and_false]))
        clear h1 hcw HA HI
        rw [hq]
        go_wp2
        go_ret
        exact ⟨_, rfl, by rw [HA1.out]; simp, HB1.out⟩
    · have e : i = l.length := by omega
      subst e
      have HA1 : Hid (l.all isS = true) := by have := HI.out.2; rw [List.take_length] at this; exact Lib.hid this
      have HB1 := Lib.hid HI.out.1
      clear HI
      go_wp2
      go_ret
      exact ⟨_, rfl, by rw [HA1.out]; rfl, HB1.out⟩
theorem scontains_calls (v : Value) (l : List ByteArray) (w : World) (hv : IsStrC w v l) (hs : ∀ s ∈ l, s.size ≤ 1099511627776) :
    Calls Tryz.prog 36 #[v, .func (Fn.func 37) #[] #[]] w fun e w' => e = .returned (.bool (!(l.all isS))) ∧ Below w.heap.size w w' := by
  go_enter Tryz.func36, Tryz.ntmps36
  go_wp2_with fail
  refine (sindex_calls v l w hv hs).mono ?_
  rintro e w1 ⟨r, rfl, hr, h1⟩
  have HR := Lib.hid hr
  clear hr
  go_wp2
  go_ret
  exact ⟨by rw [← HR.out]; rfl, h1⟩
theorem sodd_calls (v : Value) (l : List ByteArray) (w : World) (hv : IsStrC w v l) (hs : ∀ s ∈ l, s.size ≤ 1099511627776) :
    Calls Tryz.prog 35 #[v] w fun e w' => e = .returned (.bool (!(l.all isS))) ∧ Below w.heap.size w w' := by
  have HV := Lib.hid hv
  clear hv
  go_enter Tryz.func35, Tryz.ntmps35
  go_wp2_with fail
  refine (scontains_calls v l w HV.out hs).mono ?_
  rintro e w1 ⟨rfl, h1⟩
  go_wp2
  go_ret
  exact ⟨rfl, h1⟩
end Go.Proofs.YtpogffdbencfnaaGreatDoor

namespace Go.Proofs.YtpogffdbencfnaaGreatDoor
open Go Go.RowKit Go.Shelf
attribute [local go_sem] Oper.semAt_some

theorem ver_no {pub m : ByteArray} {idx : Int} {sig path : List ByteArray} (h : ¬ (sig.length = 18 ∧ path.length ≤ 8 ∧ sig.all isS = true ∧ path.all isS = true ∧ 0 ≤ idx ∧ idx < ((2 ^ path.length : Nat) : Int))) : verT pub m idx sig path = false := by
  cases hv : verT pub m idx sig path with
  | false => rfl
  | true =>
    unfold verT at hv
    simp only [Bool.and_eq_true, decide_eq_true_eq] at hv
    obtain ⟨⟨⟨⟨⟨⟨h1, h2⟩, h3⟩, h4⟩, h5⟩, h6⟩, _⟩ := hv
    exact absurd ⟨h1, h2, h3, h4, h5, h6⟩ h
theorem ver_yes {pub m : ByteArray} {idx : Int} {sig path : List ByteArray} (h1 : sig.length = 18) (h2 : path.length ≤ 8) (h3 : sig.all isS = true) (h4 : path.all isS = true) (h5 : 0 ≤ idx) (h6 : idx < ((2 ^ path.length : Nat) : Int)) :
    verT pub m idx sig path = checkT pub ((2 ^ path.length : Nat) : Int) idx (dg (sealEnds m sig)) path := by
  unfold verT
  rw [decide_eq_true h1, decide_eq_true h2, h3, h4, decide_eq_true h5, decide_eq_true h6]
  simp
theorem wrap_powI (h : Nat) (hh : h ≤ 20) : IntKind.i64.wrap ((2 : Int) ^ h) = (2 : Int) ^ h := by
  have e : ((2 ^ h : Nat) : Int) = (2 : Int) ^ h := by simp
  have := Nat.pow_le_pow_right (n := 2) (by decide) hh
  rw [← e]
  generalize 2 ^ h = p at *
  exact IntWalk.i64_in _ (by omega)
theorem box_one (w : World) (cs : Array Value) (T : TypeId) : (w.alloc (.cells cs T)).heap[w.heap.size]? = some (.cells cs T (0, 0)) ∧ Below w.heap.size w (w.alloc (.cells cs T)) ∧ (w.alloc (.cells cs T)).heap.size = w.heap.size + 1 :=
  ⟨by rw [World.alloc_heap_new], (Below.refl _ w).alloc (Nat.le_refl _) _, by rw [World.size_alloc]⟩
set_option maxRecDepth 100000 in
set_option maxHeartbeats 2000000 in
theorem ver_no1 (pub m : ByteArray) (idx : Int) (vs vp : Value) (sig path : List ByteArray) (w : World) (hpub : pub.size ≤ 1099511627776) (hm : m.size ≤ 1099511627776) (hs : IsStrC w vs sig) (hp : IsStrC w vp path) (hss : ∀ s ∈ sig, s.size ≤ 1099511627776) (hps : ∀ s ∈ path, s.size ≤ 1099511627776) (hT : Tabs w) (hA : ¬ sig.length = 18) :
    Calls Tryz.prog 15 #[.string pub, .string m, .agg #[.int .i64 idx, vs, vp]] w fun e w' => e = .returned (.bool (false)) ∧ Below w.heap.size w w' := by
  have HT := Lib.hid hT
  have HSS := Lib.hid hss
  have HSP := Lib.hid hps
  obtain ⟨aos, cs, rfl⟩ := strc_form hs
  obtain ⟨aop, cp, rfl⟩ := strc_form hp
  have HSG := Lib.hid hs
  have HPT := Lib.hid hp
  clear hT hss hps hs hp
  have hlm : sig.length ≤ 9223372036854775807 := by obtain ⟨ao, c, e, h1, h2, _⟩ := HSG.out; have : c ≤ 9223372036854775807 := h2; omega
  have HLS : Hid (sig.length = sig.length) := Lib.hid rfl
  generalize hls : sig.length = ls at *
  have hdA : ((ls : Int) != 18) = true := by simp; omega
  clear hls hA
  have hpm : path.length ≤ 9223372036854775807 := by obtain ⟨ao, c, e, h1, h2, _⟩ := HPT.out; have : c ≤ 9223372036854775807 := h2; omega
  obtain ⟨lp, hlp⟩ : ∃ lp, lp = path.length := ⟨_, rfl⟩
  rw [← hlp] at hpm
  rw [← hlp] at HPT
  rw [← hlp]
  have HLP := Lib.hid hlp
  clear hlp
  obtain ⟨hbx, hB1, hz⟩ := box_one w #[.int .i64 idx, .slice aos ls cs, .slice aop lp cp] 24
  have C0 : Hid ((w.alloc (.cells #[.int .i64 idx, .slice aos ls cs, .slice aop lp cp] 24)).cell? ⟨w.heap.size, 0, none⟩ = some (.int .i64 idx)) := Lib.hid (by rw [cell_of_row _ _ 0 _ _ _ hbx]; rfl)
  have C1 : Hid ((w.alloc (.cells #[.int .i64 idx, .slice aos ls cs, .slice aop lp cp] 24)).cell? ⟨w.heap.size, 1, none⟩ = some (.slice aos ls cs)) := Lib.hid (by rw [cell_of_row _ _ 1 _ _ _ hbx]; rfl)
  have C2 : Hid ((w.alloc (.cells #[.int .i64 idx, .slice aos ls cs, .slice aop lp cp] 24)).cell? ⟨w.heap.size, 2, none⟩ = some (.slice aop lp cp)) := Lib.hid (by rw [cell_of_row _ _ 2 _ _ _ hbx]; rfl)
  have HB1 := Lib.hid hB1
  have HSG1 := Lib.hid (HSG.out.on hB1)
  have HPT1 := Lib.hid (HPT.out.on hB1)
  have hz1 : w.heap.size < (w.alloc (.cells #[.int .i64 idx, .slice aos ls cs, .slice aop lp cp] 24)).heap.size := by omega
  clear hbx hB1 hz
  go_enter Tryz.func15, Tryz.ntmps15
  go_wp2_with fail
  generalize hgw : w.alloc (.cells #[.int .i64 idx, .slice aos ls cs, .slice aop lp cp] 24) = w1 at *
  clear hgw
  refine wp_region_res 32 (w1.heap.size) (fun ii u => [valF (.pointer (some ⟨w.heap.size, 1, none⟩)), valF (.slice aos ls cs), valF (.int .i64 (ls : Int)), valF (.bool true), valF (.bool true), valF undef, valF undef, valF (.bool true), valF (.bool true), valF undef, valF undef, valF undef, valF undef, valF (.bool true), valF (.bool true), valF undef, valF undef, valF undef, valF undef, valF (.bool true), valF (.bool true), valF undef, valF undef, valF undef, valF (.bool true), valF (.bool true), valF undef, valF undef, valF undef, valF undef, valF undef, valF (.bool true)].getD ii anyF) (fun jj ii => false) (fun jj bb => False) (by kernel_rfl) (by kernel_rfl) (by kernel_rfl) (by kernel_rfl) (by kernel_rfl) (Nat.le_refl _) ?_ ?_ ?_ ?_ ?_
  · intro ii u hii
    refine AllKStable.at ?_ ii
    exact ⟨.inl (valF_stable _ _), .inl (valF_stable _ _), .inl (valF_stable _ _), .inl (valF_stable _ _), .inl (valF_stable _ _), .inl (valF_stable _ _), .inl (valF_stable _ _), .inl (valF_stable _ _), .inl (valF_stable _ _), .inl (valF_stable _ _), .inl (valF_stable _ _), .inl (valF_stable _ _), .inl (valF_stable _ _), .inl (valF_stable _ _), .inl (valF_stable _ _), .inl (valF_stable _ _), .inl (valF_stable _ _), .inl (valF_stable _ _), .inl (valF_stable _ _), .inl (valF_stable _ _), .inl (valF_stable _ _), .inl (valF_stable _ _), .inl (valF_stable _ _), .inl (valF_stable _ _), .inl (valF_stable _ _), .inl (valF_stable _ _), .inl (valF_stable _ _), .inl (valF_stable _ _), .inl (valF_stable _ _), .inl (valF_stable _ _), .inl (valF_stable _ _), .inl (valF_stable _ _), trivial⟩
  · exact fun _ _ _ _ _ => rfl
  · exact ⟨fun _ _ _ h => h.elim, fun _ _ _ _ _ h => h.elim⟩
  · refine And.intro (fun u W A hW hBW hd hv hr => ?_) ?_
    · have t5 : A.eval (.tmp 5) = .pointer (some ⟨w.heap.size, 0, none⟩) := (hv 5 (by kernel_rfl)).trans (by kernel_rfl)
      clear hd hv
      have s5 := evalT t5
      clear t5
      refine fk_run ?_
      go_simp
    refine And.intro (fun u W A hW hBW hd hv hr => ?_) ?_
    · have e0 : u 0 = .pointer (some ⟨w.heap.size, 1, none⟩) := hd 0 (by decide) (by kernel_rfl)
      have t15 : A.eval (.tmp 15) = .pointer (some ⟨w.heap.size, 1, none⟩) := (hv 15 (by kernel_rfl)).trans ((by kernel_rfl : slotV _ _ _ u 15 = u 0).trans e0)
      have hW1 := below_undrew hW
      have hcl : W.cell? ⟨w.heap.size, 1, none⟩ = some (.slice aos ls cs) := by rw [hW1.cell (p := ⟨w.heap.size, 1, none⟩) (by show w.heap.size < w1.heap.size; omega)]; exact C1.out
      clear hd hv
      have s15 := evalT t15
      clear t15
      refine fk_run ?_
      go_simp
    refine And.intro (fun u W A hW hBW hd hv hr => ?_) ?_
    · have e1 : u 1 = .slice aos ls cs := hd 1 (by decide) (by kernel_rfl)
      have t16 : A.eval (.tmp 16) = .slice aos ls cs := (hv 16 (by kernel_rfl)).trans ((by kernel_rfl : slotV _ _ _ u 16 = u 1).trans e1)
      clear hd hv
      have s16 := evalT t16
      clear t16
      refine fk_run ?_
      go_simp
    refine And.intro (fun u W A hW hBW hd hv hr => ?_) ?_
    · have e2 : u 2 = .int .i64 (ls : Int) := hd 2 (by decide) (by kernel_rfl)
      have t17 : A.eval (.tmp 17) = .int .i64 (ls : Int) := (hv 17 (by kernel_rfl)).trans ((by kernel_rfl : slotV _ _ _ u 17 = u 2).trans e2)
      clear hd hv
      have s17 := evalT t17
      clear t17
      refine fk_run ?_
      go_simp
    refine And.intro (fun u W A hW hBW hd hv hr => ?_) ?_
    · have e3 : u 3 = .bool true := hd 3 (by decide) (by kernel_rfl)
      have t18 : A.eval (.tmp 18) = .bool true := (hv 18 (by kernel_rfl)).trans ((by kernel_rfl : slotV _ _ _ u 18 = u 3).trans e3)
      clear hd hv
      have s18 := evalT t18
      clear t18
      refine fk_run ?_
      go_simp
    refine And.intro (fun u W A hW hBW hd hv hr => ?_) ?_
    · have e4 : u 4 = .bool true := hd 4 (by decide) (by kernel_rfl)
      exact Or.inr ⟨e4, rfl, fun _ h => h⟩
    refine And.intro (fun u W A hW hBW hd hv hr => ?_) ?_
    · have e4 : u 4 = .bool true := hd 4 (by decide) (by kernel_rfl)
      have e5 : u 5 = undef := hd 5 (by decide) (by kernel_rfl)
      exact Or.inr ⟨e4, rfl, fun _ h => h⟩
    refine And.intro (fun u W A hW hBW hd hv hr => ?_) ?_
    · have e4 : u 4 = .bool true := hd 4 (by decide) (by kernel_rfl)
      have e6 : u 6 = undef := hd 6 (by decide) (by kernel_rfl)
      have t19 : A.eval (.tmp 19) = .bool true := (hv 19 (by kernel_rfl)).trans ((by kernel_rfl : slotV _ _ _ u 19 = u 4).trans e4)
      have t21 : A.eval (.tmp 21) = undef := (hv 21 (by kernel_rfl)).trans ((by kernel_rfl : slotV _ _ _ u 21 = u 6).trans e6)
      clear hd hv
      have s19 := evalT t19
      have s21 := evalT t21
      clear t19 t21
      refine fk_run ?_
      go_simp
    refine And.intro (fun u W A hW hBW hd hv hr => ?_) ?_
    · have e7 : u 7 = .bool true := hd 7 (by decide) (by kernel_rfl)
      have t22 : A.eval (.tmp 22) = .bool true := (hv 22 (by kernel_rfl)).trans ((by kernel_rfl : slotV _ _ _ u 22 = u 7).trans e7)
      clear hd hv
      have s22 := evalT t22
      clear t22
      refine fk_run ?_
      go_simp
    refine And.intro (fun u W A hW hBW hd hv hr => ?_) ?_
    · have e8 : u 8 = .bool true := hd 8 (by decide) (by kernel_rfl)
      exact Or.inr ⟨e8, rfl, fun _ h => h⟩
    refine And.intro (fun u W A hW hBW hd hv hr => ?_) ?_
    · have e8 : u 8 = .bool true := hd 8 (by decide) (by kernel_rfl)
      exact Or.inr ⟨e8, rfl, fun _ h => h⟩
    refine And.intro (fun u W A hW hBW hd hv hr => ?_) ?_
    · have e8 : u 8 = .bool true := hd 8 (by decide) (by kernel_rfl)
      have e10 : u 10 = undef := hd 10 (by decide) (by kernel_rfl)
      exact Or.inr ⟨e8, rfl, fun _ h => h⟩
    refine And.intro (fun u W A hW hBW hd hv hr => ?_) ?_
    · have e8 : u 8 = .bool true := hd 8 (by decide) (by kernel_rfl)
      have e9 : u 9 = undef := hd 9 (by decide) (by kernel_rfl)
      have e11 : u 11 = undef := hd 11 (by decide) (by kernel_rfl)
      exact Or.inr ⟨e8, rfl, fun _ h => h⟩
    refine And.intro (fun u W A hW hBW hd hv hr => ?_) ?_
    · have e8 : u 8 = .bool true := hd 8 (by decide) (by kernel_rfl)
      have e12 : u 12 = undef := hd 12 (by decide) (by kernel_rfl)
      have t23 : A.eval (.tmp 23) = .bool true := (hv 23 (by kernel_rfl)).trans ((by kernel_rfl : slotV _ _ _ u 23 = u 8).trans e8)
      have t27 : A.eval (.tmp 27) = undef := (hv 27 (by kernel_rfl)).trans ((by kernel_rfl : slotV _ _ _ u 27 = u 12).trans e12)
      clear hd hv
      have s23 := evalT t23
      have s27 := evalT t27
      clear t23 t27
      refine fk_run ?_
      go_simp
    refine And.intro (fun u W A hW hBW hd hv hr => ?_) ?_
    · have e13 : u 13 = .bool true := hd 13 (by decide) (by kernel_rfl)
      have t28 : A.eval (.tmp 28) = .bool true := (hv 28 (by kernel_rfl)).trans ((by kernel_rfl : slotV _ _ _ u 28 = u 13).trans e13)
      clear hd hv
      have s28 := evalT t28
      clear t28
      refine fk_run ?_
      go_simp
    refine And.intro (fun u W A hW hBW hd hv hr => ?_) ?_
    · have e14 : u 14 = .bool true := hd 14 (by decide) (by kernel_rfl)
      exact Or.inr ⟨e14, rfl, fun _ h => h⟩
    refine And.intro (fun u W A hW hBW hd hv hr => ?_) ?_
    · have e14 : u 14 = .bool true := hd 14 (by decide) (by kernel_rfl)
      exact Or.inr ⟨e14, rfl, fun _ h => h⟩
    refine And.intro (fun u W A hW hBW hd hv hr => ?_) ?_
    · have e14 : u 14 = .bool true := hd 14 (by decide) (by kernel_rfl)
      have e16 : u 16 = undef := hd 16 (by decide) (by kernel_rfl)
      exact Or.inr ⟨e14, rfl, fun _ h => h⟩
    refine And.intro (fun u W A hW hBW hd hv hr => ?_) ?_
    · have e14 : u 14 = .bool true := hd 14 (by decide) (by kernel_rfl)
      have e15 : u 15 = undef := hd 15 (by decide) (by kernel_rfl)
      have e17 : u 17 = undef := hd 17 (by decide) (by kernel_rfl)
      exact Or.inr ⟨e14, rfl, fun _ h => h⟩
    refine And.intro (fun u W A hW hBW hd hv hr => ?_) ?_
    · have e14 : u 14 = .bool true := hd 14 (by decide) (by kernel_rfl)
      have e18 : u 18 = undef := hd 18 (by decide) (by kernel_rfl)
      have t29 : A.eval (.tmp 29) = .bool true := (hv 29 (by kernel_rfl)).trans ((by kernel_rfl : slotV _ _ _ u 29 = u 14).trans e14)
      have t33 : A.eval (.tmp 33) = undef := (hv 33 (by kernel_rfl)).trans ((by kernel_rfl : slotV _ _ _ u 33 = u 18).trans e18)
      clear hd hv
      have s29 := evalT t29
      have s33 := evalT t33
      clear t29 t33
      refine fk_run ?_
      go_simp
    refine And.intro (fun u W A hW hBW hd hv hr => ?_) ?_
    · have e19 : u 19 = .bool true := hd 19 (by decide) (by kernel_rfl)
      have t34 : A.eval (.tmp 34) = .bool true := (hv 34 (by kernel_rfl)).trans ((by kernel_rfl : slotV _ _ _ u 34 = u 19).trans e19)
      clear hd hv
      have s34 := evalT t34
      clear t34
      refine fk_run ?_
      go_simp
    refine And.intro (fun u W A hW hBW hd hv hr => ?_) ?_
    · have e20 : u 20 = .bool true := hd 20 (by decide) (by kernel_rfl)
      exact Or.inr ⟨e20, rfl, fun _ h => h⟩
    refine And.intro (fun u W A hW hBW hd hv hr => ?_) ?_
    · have e20 : u 20 = .bool true := hd 20 (by decide) (by kernel_rfl)
      have e21 : u 21 = undef := hd 21 (by decide) (by kernel_rfl)
      exact Or.inr ⟨e20, rfl, fun _ h => h⟩
    refine And.intro (fun u W A hW hBW hd hv hr => ?_) ?_
    · have e20 : u 20 = .bool true := hd 20 (by decide) (by kernel_rfl)
      have e22 : u 22 = undef := hd 22 (by decide) (by kernel_rfl)
      exact Or.inr ⟨e20, rfl, fun _ h => h⟩
    refine And.intro (fun u W A hW hBW hd hv hr => ?_) ?_
    · have e20 : u 20 = .bool true := hd 20 (by decide) (by kernel_rfl)
      have e23 : u 23 = undef := hd 23 (by decide) (by kernel_rfl)
      have t35 : A.eval (.tmp 35) = .bool true := (hv 35 (by kernel_rfl)).trans ((by kernel_rfl : slotV _ _ _ u 35 = u 20).trans e20)
      have t38 : A.eval (.tmp 38) = undef := (hv 38 (by kernel_rfl)).trans ((by kernel_rfl : slotV _ _ _ u 38 = u 23).trans e23)
      clear hd hv
      have s35 := evalT t35
      have s38 := evalT t38
      clear t35 t38
      refine fk_run ?_
      go_simp
    refine And.intro (fun u W A hW hBW hd hv hr => ?_) ?_
    · have e24 : u 24 = .bool true := hd 24 (by decide) (by kernel_rfl)
      have t39 : A.eval (.tmp 39) = .bool true := (hv 39 (by kernel_rfl)).trans ((by kernel_rfl : slotV _ _ _ u 39 = u 24).trans e24)
      clear hd hv
      have s39 := evalT t39
      clear t39
      refine fk_run ?_
      go_simp
    refine And.intro (fun u W A hW hBW hd hv hr => ?_) ?_
    · have e25 : u 25 = .bool true := hd 25 (by decide) (by kernel_rfl)
      exact Or.inr ⟨e25, rfl, fun _ h => h⟩
    refine And.intro (fun u W A hW hBW hd hv hr => ?_) ?_
    · have e25 : u 25 = .bool true := hd 25 (by decide) (by kernel_rfl)
      have e26 : u 26 = undef := hd 26 (by decide) (by kernel_rfl)
      exact Or.inr ⟨e25, rfl, fun _ h => h⟩
    refine And.intro (fun u W A hW hBW hd hv hr => ?_) ?_
    · have e25 : u 25 = .bool true := hd 25 (by decide) (by kernel_rfl)
      exact Or.inr ⟨e25, rfl, fun _ h => h⟩
    refine And.intro (fun u W A hW hBW hd hv hr => ?_) ?_
    · have e25 : u 25 = .bool true := hd 25 (by decide) (by kernel_rfl)
      have e28 : u 28 = undef := hd 28 (by decide) (by kernel_rfl)
      exact Or.inr ⟨e25, rfl, fun _ h => h⟩
    refine And.intro (fun u W A hW hBW hd hv hr => ?_) ?_
    · have e25 : u 25 = .bool true := hd 25 (by decide) (by kernel_rfl)
      have e27 : u 27 = undef := hd 27 (by decide) (by kernel_rfl)
      have e29 : u 29 = undef := hd 29 (by decide) (by kernel_rfl)
      exact Or.inr ⟨e25, rfl, fun _ h => h⟩
    refine And.intro (fun u W A hW hBW hd hv hr => ?_) ?_
    · have e25 : u 25 = .bool true := hd 25 (by decide) (by kernel_rfl)
      have e30 : u 30 = undef := hd 30 (by decide) (by kernel_rfl)
      have t40 : A.eval (.tmp 40) = .bool true := (hv 40 (by kernel_rfl)).trans ((by kernel_rfl : slotV _ _ _ u 40 = u 25).trans e25)
      have t45 : A.eval (.tmp 45) = undef := (hv 45 (by kernel_rfl)).trans ((by kernel_rfl : slotV _ _ _ u 45 = u 30).trans e30)
      clear hd hv
      have s40 := evalT t40
      have s45 := evalT t45
      clear t40 t45
      refine fk_run ?_
      go_simp
    exact trivial
  intro u w2 hb2 hk2 hf2
  have e31 : u 31 = .bool true := hf2 31 (by decide) (by decide)
  have H2 := Lib.hid (HB1.out.trans ((below_undrew hb2).mono HB1.out.size))
  clear hf2 hb2 hk2
  simp only [List.take, List.drop, wpList, lexPut, Nat.zero_add, Nat.reduceAdd, e31, Act.put, List.setIfInBounds_toArray, List.set_cons_succ, List.set_cons_zero]
  clear e31
  go_wp2
  go_ret
  exact ⟨rfl, H2.out⟩
set_option maxRecDepth 100000 in
set_option maxHeartbeats 2000000 in
theorem ver_no2 (pub m : ByteArray) (idx : Int) (vs vp : Value) (sig path : List ByteArray) (w : World) (hpub : pub.size ≤ 1099511627776) (hm : m.size ≤ 1099511627776) (hs : IsStrC w vs sig) (hp : IsStrC w vp path) (hss : ∀ s ∈ sig, s.size ≤ 1099511627776) (hps : ∀ s ∈ path, s.size ≤ 1099511627776) (hT : Tabs w) (hA : sig.length = 18) (hB : ¬ path.length ≤ 8) :
    Calls Tryz.prog 15 #[.string pub, .string m, .agg #[.int .i64 idx, vs, vp]] w fun e w' => e = .returned (.bool (false)) ∧ Below w.heap.size w w' := by
  have HT := Lib.hid hT
  have HSS := Lib.hid hss
  have HSP := Lib.hid hps
  obtain ⟨aos, cs, rfl⟩ := strc_form hs
  obtain ⟨aop, cp, rfl⟩ := strc_form hp
  have HSG := Lib.hid hs
  have HPT := Lib.hid hp
  clear hT hss hps hs hp
  rw [hA] at HSG
  rw [hA]
  have HLS := Lib.hid hA
  clear hA
  have hpm : path.length ≤ 9223372036854775807 := by obtain ⟨ao, c, e, h1, h2, _⟩ := HPT.out; have : c ≤ 9223372036854775807 := h2; omega
  obtain ⟨lp, hlp⟩ : ∃ lp, lp = path.length := ⟨_, rfl⟩
  rw [← hlp] at hpm hB
  rw [← hlp] at HPT
  rw [← hlp]
  have HLP := Lib.hid hlp
  clear hlp
  have hdB : decide ((8 : Int) < (lp : Int)) = true := decide_eq_true (by omega)
  clear hB
  obtain ⟨hbx, hB1, hz⟩ := box_one w #[.int .i64 idx, .slice aos 18 cs, .slice aop lp cp] 24
  have C0 : Hid ((w.alloc (.cells #[.int .i64 idx, .slice aos 18 cs, .slice aop lp cp] 24)).cell? ⟨w.heap.size, 0, none⟩ = some (.int .i64 idx)) := Lib.hid (by rw [cell_of_row _ _ 0 _ _ _ hbx]; rfl)
  have C1 : Hid ((w.alloc (.cells #[.int .i64 idx, .slice aos 18 cs, .slice aop lp cp] 24)).cell? ⟨w.heap.size, 1, none⟩ = some (.slice aos 18 cs)) := Lib.hid (by rw [cell_of_row _ _ 1 _ _ _ hbx]; rfl)
  have C2 : Hid ((w.alloc (.cells #[.int .i64 idx, .slice aos 18 cs, .slice aop lp cp] 24)).cell? ⟨w.heap.size, 2, none⟩ = some (.slice aop lp cp)) := Lib.hid (by rw [cell_of_row _ _ 2 _ _ _ hbx]; rfl)
  have HB1 := Lib.hid hB1
  have HSG1 := Lib.hid (HSG.out.on hB1)
  have HPT1 := Lib.hid (HPT.out.on hB1)
  have hz1 : w.heap.size < (w.alloc (.cells #[.int .i64 idx, .slice aos 18 cs, .slice aop lp cp] 24)).heap.size := by omega
  clear hbx hB1 hz
  go_enter Tryz.func15, Tryz.ntmps15
  go_wp2_with fail
  generalize hgw : w.alloc (.cells #[.int .i64 idx, .slice aos 18 cs, .slice aop lp cp] 24) = w1 at *
  clear hgw
  refine wp_region_res 32 (w1.heap.size) (fun ii u => [valF (.pointer (some ⟨w.heap.size, 1, none⟩)), valF (.slice aos 18 cs), valF (.int .i64 18), valF (.bool false), valF (.bool false), valF (.int .i64 (lp : Int)), valF (.bool true), valF (.bool true), valF (.bool true), valF undef, valF undef, valF undef, valF undef, valF (.bool true), valF (.bool true), valF undef, valF undef, valF undef, valF undef, valF (.bool true), valF (.bool true), valF undef, valF undef, valF undef, valF (.bool true), valF (.bool true), valF undef, valF undef, valF undef, valF undef, valF undef, valF (.bool true)].getD ii anyF) (fun jj ii => false) (fun jj bb => False) (by kernel_rfl) (by kernel_rfl) (by kernel_rfl) (by kernel_rfl) (by kernel_rfl) (Nat.le_refl _) ?_ ?_ ?_ ?_ ?_
  · intro ii u hii
    refine AllKStable.at ?_ ii
    exact ⟨.inl (valF_stable _ _), .inl (valF_stable _ _), .inl (valF_stable _ _), .inl (valF_stable _ _), .inl (valF_stable _ _), .inl (valF_stable _ _), .inl (valF_stable _ _), .inl (valF_stable _ _), .inl (valF_stable _ _), .inl (valF_stable _ _), .inl (valF_stable _ _), .inl (valF_stable _ _), .inl (valF_stable _ _), .inl (valF_stable _ _), .inl (valF_stable _ _), .inl (valF_stable _ _), .inl (valF_stable _ _), .inl (valF_stable _ _), .inl (valF_stable _ _), .inl (valF_stable _ _), .inl (valF_stable _ _), .inl (valF_stable _ _), .inl (valF_stable _ _), .inl (valF_stable _ _), .inl (valF_stable _ _), .inl (valF_stable _ _), .inl (valF_stable _ _), .inl (valF_stable _ _), .inl (valF_stable _ _), .inl (valF_stable _ _), .inl (valF_stable _ _), .inl (valF_stable _ _), trivial⟩
  · exact fun _ _ _ _ _ => rfl
  · exact ⟨fun _ _ _ h => h.elim, fun _ _ _ _ _ h => h.elim⟩
  · refine And.intro (fun u W A hW hBW hd hv hr => ?_) ?_
    · have t5 : A.eval (.tmp 5) = .pointer (some ⟨w.heap.size, 0, none⟩) := (hv 5 (by kernel_rfl)).trans (by kernel_rfl)
      clear hd hv
      have s5 := evalT t5
      clear t5
      refine fk_run ?_
      go_simp
    refine And.intro (fun u W A hW hBW hd hv hr => ?_) ?_
    · have e0 : u 0 = .pointer (some ⟨w.heap.size, 1, none⟩) := hd 0 (by decide) (by kernel_rfl)
      have t15 : A.eval (.tmp 15) = .pointer (some ⟨w.heap.size, 1, none⟩) := (hv 15 (by kernel_rfl)).trans ((by kernel_rfl : slotV _ _ _ u 15 = u 0).trans e0)
      have hW1 := below_undrew hW
      have hcl : W.cell? ⟨w.heap.size, 1, none⟩ = some (.slice aos 18 cs) := by rw [hW1.cell (p := ⟨w.heap.size, 1, none⟩) (by show w.heap.size < w1.heap.size; omega)]; exact C1.out
      clear hd hv
      have s15 := evalT t15
      clear t15
      refine fk_run ?_
      go_simp
    refine And.intro (fun u W A hW hBW hd hv hr => ?_) ?_
    · have e1 : u 1 = .slice aos 18 cs := hd 1 (by decide) (by kernel_rfl)
      have t16 : A.eval (.tmp 16) = .slice aos 18 cs := (hv 16 (by kernel_rfl)).trans ((by kernel_rfl : slotV _ _ _ u 16 = u 1).trans e1)
      clear hd hv
      have s16 := evalT t16
      clear t16
      refine fk_run ?_
      go_simp
    refine And.intro (fun u W A hW hBW hd hv hr => ?_) ?_
    · have e2 : u 2 = .int .i64 18 := hd 2 (by decide) (by kernel_rfl)
      have t17 : A.eval (.tmp 17) = .int .i64 18 := (hv 17 (by kernel_rfl)).trans ((by kernel_rfl : slotV _ _ _ u 17 = u 2).trans e2)
      clear hd hv
      have s17 := evalT t17
      clear t17
      refine fk_run ?_
      go_simp
    refine And.intro (fun u W A hW hBW hd hv hr => ?_) ?_
    · have e3 : u 3 = .bool false := hd 3 (by decide) (by kernel_rfl)
      have t18 : A.eval (.tmp 18) = .bool false := (hv 18 (by kernel_rfl)).trans ((by kernel_rfl : slotV _ _ _ u 18 = u 3).trans e3)
      clear hd hv
      have s18 := evalT t18
      clear t18
      refine fk_run ?_
      go_simp
    refine And.intro (fun u W A hW hBW hd hv hr => ?_) ?_
    · have e4 : u 4 = .bool false := hd 4 (by decide) (by kernel_rfl)
      have t7 : A.eval (.tmp 7) = .int .i64 (lp : Int) := (hv 7 (by kernel_rfl)).trans (by kernel_rfl)
      clear hd hv
      have s7 := evalT t7
      clear t7
      refine Or.inl ⟨e4, ?_⟩
      refine fk_run ?_
      go_simp
    refine And.intro (fun u W A hW hBW hd hv hr => ?_) ?_
    · have e4 : u 4 = .bool false := hd 4 (by decide) (by kernel_rfl)
      have e5 : u 5 = .int .i64 (lp : Int) := hd 5 (by decide) (by kernel_rfl)
      have t20 : A.eval (.tmp 20) = .int .i64 (lp : Int) := (hv 20 (by kernel_rfl)).trans ((by kernel_rfl : slotV _ _ _ u 20 = u 5).trans e5)
      clear hd hv
      have s20 := evalT t20
      clear t20
      refine Or.inl ⟨e4, ?_⟩
      refine fk_run ?_
      go_simp
    refine And.intro (fun u W A hW hBW hd hv hr => ?_) ?_
    · have e4 : u 4 = .bool false := hd 4 (by decide) (by kernel_rfl)
      have e6 : u 6 = .bool true := hd 6 (by decide) (by kernel_rfl)
      have t19 : A.eval (.tmp 19) = .bool false := (hv 19 (by kernel_rfl)).trans ((by kernel_rfl : slotV _ _ _ u 19 = u 4).trans e4)
      have t21 : A.eval (.tmp 21) = .bool true := (hv 21 (by kernel_rfl)).trans ((by kernel_rfl : slotV _ _ _ u 21 = u 6).trans e6)
      clear hd hv
      have s19 := evalT t19
      have s21 := evalT t21
      clear t19 t21
      refine fk_run ?_
      go_simp
    refine And.intro (fun u W A hW hBW hd hv hr => ?_) ?_
    · have e7 : u 7 = .bool true := hd 7 (by decide) (by kernel_rfl)
      have t22 : A.eval (.tmp 22) = .bool true := (hv 22 (by kernel_rfl)).trans ((by kernel_rfl : slotV _ _ _ u 22 = u 7).trans e7)
      clear hd hv
      have s22 := evalT t22
      clear t22
      refine fk_run ?_
      go_simp
    refine And.intro (fun u W A hW hBW hd hv hr => ?_) ?_
    · have e8 : u 8 = .bool true := hd 8 (by decide) (by kernel_rfl)
      exact Or.inr ⟨e8, rfl, fun _ h => h⟩
    refine And.intro (fun u W A hW hBW hd hv hr => ?_) ?_
    · have e8 : u 8 = .bool true := hd 8 (by decide) (by kernel_rfl)
      exact Or.inr ⟨e8, rfl, fun _ h => h⟩
    refine And.intro (fun u W A hW hBW hd hv hr => ?_) ?_
    · have e8 : u 8 = .bool true := hd 8 (by decide) (by kernel_rfl)
      have e10 : u 10 = undef := hd 10 (by decide) (by kernel_rfl)
      exact Or.inr ⟨e8, rfl, fun _ h => h⟩
    refine And.intro (fun u W A hW hBW hd hv hr => ?_) ?_
    · have e8 : u 8 = .bool true := hd 8 (by decide) (by kernel_rfl)
      have e9 : u 9 = undef := hd 9 (by decide) (by kernel_rfl)
      have e11 : u 11 = undef := hd 11 (by decide) (by kernel_rfl)
      exact Or.inr ⟨e8, rfl, fun _ h => h⟩
    refine And.intro (fun u W A hW hBW hd hv hr => ?_) ?_
    · have e8 : u 8 = .bool true := hd 8 (by decide) (by kernel_rfl)
      have e12 : u 12 = undef := hd 12 (by decide) (by kernel_rfl)
      have t23 : A.eval (.tmp 23) = .bool true := (hv 23 (by kernel_rfl)).trans ((by kernel_rfl : slotV _ _ _ u 23 = u 8).trans e8)
      have t27 : A.eval (.tmp 27) = undef := (hv 27 (by kernel_rfl)).trans ((by kernel_rfl : slotV _ _ _ u 27 = u 12).trans e12)
      clear hd hv
      have s23 := evalT t23
      have s27 := evalT t27
      clear t23 t27
      refine fk_run ?_
      go_simp
    refine And.intro (fun u W A hW hBW hd hv hr => ?_) ?_
    · have e13 : u 13 = .bool true := hd 13 (by decide) (by kernel_rfl)
      have t28 : A.eval (.tmp 28) = .bool true := (hv 28 (by kernel_rfl)).trans ((by kernel_rfl : slotV _ _ _ u 28 = u 13).trans e13)
      clear hd hv
      have s28 := evalT t28
      clear t28
      refine fk_run ?_
      go_simp
    refine And.intro (fun u W A hW hBW hd hv hr => ?_) ?_
    · have e14 : u 14 = .bool true := hd 14 (by decide) (by kernel_rfl)
      exact Or.inr ⟨e14, rfl, fun _ h => h⟩
    refine And.intro (fun u W A hW hBW hd hv hr => ?_) ?_
    · have e14 : u 14 = .bool true := hd 14 (by decide) (by kernel_rfl)
      exact Or.inr ⟨e14, rfl, fun _ h => h⟩
    refine And.intro (fun u W A hW hBW hd hv hr => ?_) ?_
    · have e14 : u 14 = .bool true := hd 14 (by decide) (by kernel_rfl)
      have e16 : u 16 = undef := hd 16 (by decide) (by kernel_rfl)
      exact Or.inr ⟨e14, rfl, fun _ h => h⟩
    refine And.intro (fun u W A hW hBW hd hv hr => ?_) ?_
    · have e14 : u 14 = .bool true := hd 14 (by decide) (by kernel_rfl)
      have e15 : u 15 = undef := hd 15 (by decide) (by kernel_rfl)
      have e17 : u 17 = undef := hd 17 (by decide) (by kernel_rfl)
      exact Or.inr ⟨e14, rfl, fun _ h => h⟩
    refine And.intro (fun u W A hW hBW hd hv hr => ?_) ?_
    · have e14 : u 14 = .bool true := hd 14 (by decide) (by kernel_rfl)
      have e18 : u 18 = undef := hd 18 (by decide) (by kernel_rfl)
      have t29 : A.eval (.tmp 29) = .bool true := (hv 29 (by kernel_rfl)).trans ((by kernel_rfl : slotV _ _ _ u 29 = u 14).trans e14)
      have t33 : A.eval (.tmp 33) = undef := (hv 33 (by kernel_rfl)).trans ((by kernel_rfl : slotV _ _ _ u 33 = u 18).trans e18)
      clear hd hv
      have s29 := evalT t29
      have s33 := evalT t33
      clear t29 t33
      refine fk_run ?_
      go_simp
    refine And.intro (fun u W A hW hBW hd hv hr => ?_) ?_
    · have e19 : u 19 = .bool true := hd 19 (by decide) (by kernel_rfl)
      have t34 : A.eval (.tmp 34) = .bool true := (hv 34 (by kernel_rfl)).trans ((by kernel_rfl : slotV _ _ _ u 34 = u 19).trans e19)
      clear hd hv
      have s34 := evalT t34
      clear t34
      refine fk_run ?_
      go_simp
    refine And.intro (fun u W A hW hBW hd hv hr => ?_) ?_
    · have e20 : u 20 = .bool true := hd 20 (by decide) (by kernel_rfl)
      exact Or.inr ⟨e20, rfl, fun _ h => h⟩
    refine And.intro (fun u W A hW hBW hd hv hr => ?_) ?_
    · have e20 : u 20 = .bool true := hd 20 (by decide) (by kernel_rfl)
      have e21 : u 21 = undef := hd 21 (by decide) (by kernel_rfl)
      exact Or.inr ⟨e20, rfl, fun _ h => h⟩
    refine And.intro (fun u W A hW hBW hd hv hr => ?_) ?_
    · have e20 : u 20 = .bool true := hd 20 (by decide) (by kernel_rfl)
      have e22 : u 22 = undef := hd 22 (by decide) (by kernel_rfl)
      exact Or.inr ⟨e20, rfl, fun _ h => h⟩
    refine And.intro (fun u W A hW hBW hd hv hr => ?_) ?_
    · have e20 : u 20 = .bool true := hd 20 (by decide) (by kernel_rfl)
      have e23 : u 23 = undef := hd 23 (by decide) (by kernel_rfl)
      have t35 : A.eval (.tmp 35) = .bool true := (hv 35 (by kernel_rfl)).trans ((by kernel_rfl : slotV _ _ _ u 35 = u 20).trans e20)
      have t38 : A.eval (.tmp 38) = undef := (hv 38 (by kernel_rfl)).trans ((by kernel_rfl : slotV _ _ _ u 38 = u 23).trans e23)
      clear hd hv
      have s35 := evalT t35
      have s38 := evalT t38
      clear t35 t38
      refine fk_run ?_
      go_simp
    refine And.intro (fun u W A hW hBW hd hv hr => ?_) ?_
    · have e24 : u 24 = .bool true := hd 24 (by decide) (by kernel_rfl)
      have t39 : A.eval (.tmp 39) = .bool true := (hv 39 (by kernel_rfl)).trans ((by kernel_rfl : slotV _ _ _ u 39 = u 24).trans e24)
      clear hd hv
      have s39 := evalT t39
      clear t39
      refine fk_run ?_
      go_simp
    refine And.intro (fun u W A hW hBW hd hv hr => ?_) ?_
    · have e25 : u 25 = .bool true := hd 25 (by decide) (by kernel_rfl)
      exact Or.inr ⟨e25, rfl, fun _ h => h⟩
    refine And.intro (fun u W A hW hBW hd hv hr => ?_) ?_
    · have e25 : u 25 = .bool true := hd 25 (by decide) (by kernel_rfl)
      have e26 : u 26 = undef := hd 26 (by decide) (by kernel_rfl)
      exact Or.inr ⟨e25, rfl, fun _ h => h⟩
    refine And.intro (fun u W A hW hBW hd hv hr => ?_) ?_
    · have e25 : u 25 = .bool true := hd 25 (by decide) (by kernel_rfl)
      exact Or.inr ⟨e25, rfl, fun _ h => h⟩
    refine And.intro (fun u W A hW hBW hd hv hr => ?_) ?_
    · have e25 : u 25 = .bool true := hd 25 (by decide) (by kernel_rfl)
      have e28 : u 28 = undef := hd 28 (by decide) (by kernel_rfl)
      exact Or.inr ⟨e25, rfl, fun _ h => h⟩
    refine And.intro (fun u W A hW hBW hd hv hr => ?_) ?_
    · have e25 : u 25 = .bool true := hd 25 (by decide) (by kernel_rfl)
      have e27 : u 27 = undef := hd 27 (by decide) (by kernel_rfl)
      have e29 : u 29 = undef := hd 29 (by decide) (by kernel_rfl)
      exact Or.inr ⟨e25, rfl, fun _ h => h⟩
    refine And.intro (fun u W A hW hBW hd hv hr => ?_) ?_
    · have e25 : u 25 = .bool true := hd 25 (by decide) (by kernel_rfl)
      have e30 : u 30 = undef := hd 30 (by decide) (by kernel_rfl)
      have t40 : A.eval (.tmp 40) = .bool true := (hv 40 (by kernel_rfl)).trans ((by kernel_rfl : slotV _ _ _ u 40 = u 25).trans e25)
      have t45 : A.eval (.tmp 45) = undef := (hv 45 (by kernel_rfl)).trans ((by kernel_rfl : slotV _ _ _ u 45 = u 30).trans e30)
      clear hd hv
      have s40 := evalT t40
      have s45 := evalT t45
      clear t40 t45
      refine fk_run ?_
      go_simp
    exact trivial
  intro u w2 hb2 hk2 hf2
  have e31 : u 31 = .bool true := hf2 31 (by decide) (by decide)
  have H2 := Lib.hid (HB1.out.trans ((below_undrew hb2).mono HB1.out.size))
  clear hf2 hb2 hk2
  simp only [List.take, List.drop, wpList, lexPut, Nat.zero_add, Nat.reduceAdd, e31, Act.put, List.setIfInBounds_toArray, List.set_cons_succ, List.set_cons_zero]
  clear e31
  go_wp2
  go_ret
  exact ⟨rfl, H2.out⟩
set_option maxRecDepth 100000 in
set_option maxHeartbeats 2000000 in
theorem ver_no3 (pub m : ByteArray) (idx : Int) (vs vp : Value) (sig path : List ByteArray) (w : World) (hpub : pub.size ≤ 1099511627776) (hm : m.size ≤ 1099511627776) (hs : IsStrC w vs sig) (hp : IsStrC w vp path) (hss : ∀ s ∈ sig, s.size ≤ 1099511627776) (hps : ∀ s ∈ path, s.size ≤ 1099511627776) (hT : Tabs w) (hA : sig.length = 18) (hB : path.length ≤ 8) (hC : sig.all isS = false) :
    Calls Tryz.prog 15 #[.string pub, .string m, .agg #[.int .i64 idx, vs, vp]] w fun e w' => e = .returned (.bool (false)) ∧ Below w.heap.size w w' := by
  have HT := Lib.hid hT
  have HSS := Lib.hid hss
  have HSP := Lib.hid hps
  obtain ⟨aos, cs, rfl⟩ := strc_form hs
  obtain ⟨aop, cp, rfl⟩ := strc_form hp
  have HSG := Lib.hid hs
  have HPT := Lib.hid hp
  clear hT hss hps hs hp
  rw [hA] at HSG
  rw [hA]
  have HLS := Lib.hid hA
  clear hA
  have hpm : path.length ≤ 9223372036854775807 := by obtain ⟨ao, c, e, h1, h2, _⟩ := HPT.out; have : c ≤ 9223372036854775807 := h2; omega
  obtain ⟨lp, hlp⟩ : ∃ lp, lp = path.length := ⟨_, rfl⟩
  rw [← hlp] at hpm hB
  rw [← hlp] at HPT
  rw [← hlp]
  have HLP := Lib.hid hlp
  clear hlp
  have hdB : decide ((8 : Int) < (lp : Int)) = false := decide_eq_false (by omega)
  have HC : Hid ((!(sig.all isS)) = true) := Lib.hid (by rw [hC]; rfl)
  clear hC
  obtain ⟨hbx, hB1, hz⟩ := box_one w #[.int .i64 idx, .slice aos 18 cs, .slice aop lp cp] 24
  have C0 : Hid ((w.alloc (.cells #[.int .i64 idx, .slice aos 18 cs, .slice aop lp cp] 24)).cell? ⟨w.heap.size, 0, none⟩ = some (.int .i64 idx)) := Lib.hid (by rw [cell_of_row _ _ 0 _ _ _ hbx]; rfl)
  have C1 : Hid ((w.alloc (.cells #[.int .i64 idx, .slice aos 18 cs, .slice aop lp cp] 24)).cell? ⟨w.heap.size, 1, none⟩ = some (.slice aos 18 cs)) := Lib.hid (by rw [cell_of_row _ _ 1 _ _ _ hbx]; rfl)
  have C2 : Hid ((w.alloc (.cells #[.int .i64 idx, .slice aos 18 cs, .slice aop lp cp] 24)).cell? ⟨w.heap.size, 2, none⟩ = some (.slice aop lp cp)) := Lib.hid (by rw [cell_of_row _ _ 2 _ _ _ hbx]; rfl)
  have HB1 := Lib.hid hB1
  have HSG1 := Lib.hid (HSG.out.on hB1)
  have HPT1 := Lib.hid (HPT.out.on hB1)
  have hz1 : w.heap.size < (w.alloc (.cells #[.int .i64 idx, .slice aos 18 cs, .slice aop lp cp] 24)).heap.size := by omega
  clear hbx hB1 hz
  go_enter Tryz.func15, Tryz.ntmps15
  go_wp2_with fail
  generalize hgw : w.alloc (.cells #[.int .i64 idx, .slice aos 18 cs, .slice aop lp cp] 24) = w1 at *
  clear hgw
  refine wp_region_res 32 (w1.heap.size) (fun ii u => [valF (.pointer (some ⟨w.heap.size, 1, none⟩)), valF (.slice aos 18 cs), valF (.int .i64 18), valF (.bool false), valF (.bool false), valF (.int .i64 (lp : Int)), valF (.bool false), valF (.bool false), valF (.bool false), valF (.func (.func 35) #[] #[]), valF (.pointer (some ⟨w.heap.size, 1, none⟩)), valF (.slice aos 18 cs), valF (.bool true), valF (.bool true), valF (.bool true), valF undef, valF undef, valF undef, valF undef, valF (.bool true), valF (.bool true), valF undef, valF undef, valF undef, valF (.bool true), valF (.bool true), valF undef, valF undef, valF undef, valF undef, valF undef, valF (.bool true)].getD ii anyF) (fun jj ii => false) (fun jj bb => False) (by kernel_rfl) (by kernel_rfl) (by kernel_rfl) (by kernel_rfl) (by kernel_rfl) (Nat.le_refl _) ?_ ?_ ?_ ?_ ?_
  · intro ii u hii
    refine AllKStable.at ?_ ii
    exact ⟨.inl (valF_stable _ _), .inl (valF_stable _ _), .inl (valF_stable _ _), .inl (valF_stable _ _), .inl (valF_stable _ _), .inl (valF_stable _ _), .inl (valF_stable _ _), .inl (valF_stable _ _), .inl (valF_stable _ _), .inl (valF_stable _ _), .inl (valF_stable _ _), .inl (valF_stable _ _), .inl (valF_stable _ _), .inl (valF_stable _ _), .inl (valF_stable _ _), .inl (valF_stable _ _), .inl (valF_stable _ _), .inl (valF_stable _ _), .inl (valF_stable _ _), .inl (valF_stable _ _), .inl (valF_stable _ _), .inl (valF_stable _ _), .inl (valF_stable _ _), .inl (valF_stable _ _), .inl (valF_stable _ _), .inl (valF_stable _ _), .inl (valF_stable _ _), .inl (valF_stable _ _), .inl (valF_stable _ _), .inl (valF_stable _ _), .inl (valF_stable _ _), .inl (valF_stable _ _), trivial⟩
  · exact fun _ _ _ _ _ => rfl
  · exact ⟨fun _ _ _ h => h.elim, fun _ _ _ _ _ h => h.elim⟩
  · refine And.intro (fun u W A hW hBW hd hv hr => ?_) ?_
    · have t5 : A.eval (.tmp 5) = .pointer (some ⟨w.heap.size, 0, none⟩) := (hv 5 (by kernel_rfl)).trans (by kernel_rfl)
      clear hd hv
      have s5 := evalT t5
      clear t5
      refine fk_run ?_
      go_simp
    refine And.intro (fun u W A hW hBW hd hv hr => ?_) ?_
    · have e0 : u 0 = .pointer (some ⟨w.heap.size, 1, none⟩) := hd 0 (by decide) (by kernel_rfl)
      have t15 : A.eval (.tmp 15) = .pointer (some ⟨w.heap.size, 1, none⟩) := (hv 15 (by kernel_rfl)).trans ((by kernel_rfl : slotV _ _ _ u 15 = u 0).trans e0)
      have hW1 := below_undrew hW
      have hcl : W.cell? ⟨w.heap.size, 1, none⟩ = some (.slice aos 18 cs) := by rw [hW1.cell (p := ⟨w.heap.size, 1, none⟩) (by show w.heap.size < w1.heap.size; omega)]; exact C1.out
      clear hd hv
      have s15 := evalT t15
      clear t15
      refine fk_run ?_
      go_simp
    refine And.intro (fun u W A hW hBW hd hv hr => ?_) ?_
    · have e1 : u 1 = .slice aos 18 cs := hd 1 (by decide) (by kernel_rfl)
      have t16 : A.eval (.tmp 16) = .slice aos 18 cs := (hv 16 (by kernel_rfl)).trans ((by kernel_rfl : slotV _ _ _ u 16 = u 1).trans e1)
      clear hd hv
      have s16 := evalT t16
      clear t16
      refine fk_run ?_
      go_simp
    refine And.intro (fun u W A hW hBW hd hv hr => ?_) ?_
    · have e2 : u 2 = .int .i64 18 := hd 2 (by decide) (by kernel_rfl)
      have t17 : A.eval (.tmp 17) = .int .i64 18 := (hv 17 (by kernel_rfl)).trans ((by kernel_rfl : slotV _ _ _ u 17 = u 2).trans e2)
      clear hd hv
      have s17 := evalT t17
      clear t17
      refine fk_run ?_
      go_simp
    refine And.intro (fun u W A hW hBW hd hv hr => ?_) ?_
    · have e3 : u 3 = .bool false := hd 3 (by decide) (by kernel_rfl)
      have t18 : A.eval (.tmp 18) = .bool false := (hv 18 (by kernel_rfl)).trans ((by kernel_rfl : slotV _ _ _ u 18 = u 3).trans e3)
      clear hd hv
      have s18 := evalT t18
      clear t18
      refine fk_run ?_
      go_simp
    refine And.intro (fun u W A hW hBW hd hv hr => ?_) ?_
    · have e4 : u 4 = .bool false := hd 4 (by decide) (by kernel_rfl)
      have t7 : A.eval (.tmp 7) = .int .i64 (lp : Int) := (hv 7 (by kernel_rfl)).trans (by kernel_rfl)
      clear hd hv
      have s7 := evalT t7
      clear t7
      refine Or.inl ⟨e4, ?_⟩
      refine fk_run ?_
      go_simp
    refine And.intro (fun u W A hW hBW hd hv hr => ?_) ?_
    · have e4 : u 4 = .bool false := hd 4 (by decide) (by kernel_rfl)
      have e5 : u 5 = .int .i64 (lp : Int) := hd 5 (by decide) (by kernel_rfl)
      have t20 : A.eval (.tmp 20) = .int .i64 (lp : Int) := (hv 20 (by kernel_rfl)).trans ((by kernel_rfl : slotV _ _ _ u 20 = u 5).trans e5)
      clear hd hv
      have s20 := evalT t20
      clear t20
      refine Or.inl ⟨e4, ?_⟩
      refine fk_run ?_
      go_simp
    refine And.intro (fun u W A hW hBW hd hv hr => ?_) ?_
    · have e4 : u 4 = .bool false := hd 4 (by decide) (by kernel_rfl)
      have e6 : u 6 = .bool false := hd 6 (by decide) (by kernel_rfl)
      have t19 : A.eval (.tmp 19) = .bool false := (hv 19 (by kernel_rfl)).trans ((by kernel_rfl : slotV _ _ _ u 19 = u 4).trans e4)
      have t21 : A.eval (.tmp 21) = .bool false := (hv 21 (by kernel_rfl)).trans ((by kernel_rfl : slotV _ _ _ u 21 = u 6).trans e6)
      clear hd hv
      have s19 := evalT t19
      have s21 := evalT t21
      clear t19 t21
      refine fk_run ?_
      go_simp
    refine And.intro (fun u W A hW hBW hd hv hr => ?_) ?_
    · have e7 : u 7 = .bool false := hd 7 (by decide) (by kernel_rfl)
      have t22 : A.eval (.tmp 22) = .bool false := (hv 22 (by kernel_rfl)).trans ((by kernel_rfl : slotV _ _ _ u 22 = u 7).trans e7)
      clear hd hv
      have s22 := evalT t22
      clear t22
      refine fk_run ?_
      go_simp
    refine And.intro (fun u W A hW hBW hd hv hr => ?_) ?_
    · have e8 : u 8 = .bool false := hd 8 (by decide) (by kernel_rfl)
      have t8 : A.eval (.tmp 8) = .func (.func 35) #[] #[] := (hv 8 (by kernel_rfl)).trans (by kernel_rfl)
      clear hd hv
      have s8 := evalT t8
      clear t8
      refine Or.inl ⟨e8, ?_⟩
      refine fk_run ?_
      go_simp
    refine And.intro (fun u W A hW hBW hd hv hr => ?_) ?_
    · have e8 : u 8 = .bool false := hd 8 (by decide) (by kernel_rfl)
      have t5 : A.eval (.tmp 5) = .pointer (some ⟨w.heap.size, 0, none⟩) := (hv 5 (by kernel_rfl)).trans (by kernel_rfl)
      clear hd hv
      have s5 := evalT t5
      clear t5
      refine Or.inl ⟨e8, ?_⟩
      refine fk_run ?_
      go_simp
    refine And.intro (fun u W A hW hBW hd hv hr => ?_) ?_
    · have e8 : u 8 = .bool false := hd 8 (by decide) (by kernel_rfl)
      have e10 : u 10 = .pointer (some ⟨w.heap.size, 1, none⟩) := hd 10 (by decide) (by kernel_rfl)
      have t25 : A.eval (.tmp 25) = .pointer (some ⟨w.heap.size, 1, none⟩) := (hv 25 (by kernel_rfl)).trans ((by kernel_rfl : slotV _ _ _ u 25 = u 10).trans e10)
      have hW1 := below_undrew hW
      have hcl : W.cell? ⟨w.heap.size, 1, none⟩ = some (.slice aos 18 cs) := by rw [hW1.cell (p := ⟨w.heap.size, 1, none⟩) (by show w.heap.size < w1.heap.size; omega)]; exact C1.out
      clear hd hv
      have s25 := evalT t25
      clear t25
      refine Or.inl ⟨e8, ?_⟩
      refine fk_run ?_
      go_simp
    refine And.intro (fun u W A hW hBW hd hv hr => ?_) ?_
    · have e8 : u 8 = .bool false := hd 8 (by decide) (by kernel_rfl)
      have e9 : u 9 = .func (.func 35) #[] #[] := hd 9 (by decide) (by kernel_rfl)
      have e11 : u 11 = .slice aos 18 cs := hd 11 (by decide) (by kernel_rfl)
      have t24 : A.eval (.tmp 24) = .func (.func 35) #[] #[] := (hv 24 (by kernel_rfl)).trans ((by kernel_rfl : slotV _ _ _ u 24 = u 9).trans e9)
      have t26 : A.eval (.tmp 26) = .slice aos 18 cs := (hv 26 (by kernel_rfl)).trans ((by kernel_rfl : slotV _ _ _ u 26 = u 11).trans e11)
      have hW1 := below_undrew hW
      clear hd hv
      have s24 := evalT t24
      have s26 := evalT t26
      clear t24 t26
      refine Or.inl ⟨e8, ?_⟩
      refine fk_enter (f := 35) (args := #[.slice aos 18 cs]) (by go_simp) (fk_val ?_)
      have hod := sodd_calls _ sig W (HSG1.out.on hW1) HSS.out
      rw [HC.out] at hod
      exact hod
    refine And.intro (fun u W A hW hBW hd hv hr => ?_) ?_
    · have e8 : u 8 = .bool false := hd 8 (by decide) (by kernel_rfl)
      have e12 : u 12 = .bool true := hd 12 (by decide) (by kernel_rfl)
      have t23 : A.eval (.tmp 23) = .bool false := (hv 23 (by kernel_rfl)).trans ((by kernel_rfl : slotV _ _ _ u 23 = u 8).trans e8)
      have t27 : A.eval (.tmp 27) = .bool true := (hv 27 (by kernel_rfl)).trans ((by kernel_rfl : slotV _ _ _ u 27 = u 12).trans e12)
      clear hd hv
      have s23 := evalT t23
      have s27 := evalT t27
      clear t23 t27
      refine fk_run ?_
      go_simp
    refine And.intro (fun u W A hW hBW hd hv hr => ?_) ?_
    · have e13 : u 13 = .bool true := hd 13 (by decide) (by kernel_rfl)
      have t28 : A.eval (.tmp 28) = .bool true := (hv 28 (by kernel_rfl)).trans ((by kernel_rfl : slotV _ _ _ u 28 = u 13).trans e13)
      clear hd hv
      have s28 := evalT t28
      clear t28
      refine fk_run ?_
      go_simp
    refine And.intro (fun u W A hW hBW hd hv hr => ?_) ?_
    · have e14 : u 14 = .bool true := hd 14 (by decide) (by kernel_rfl)
      exact Or.inr ⟨e14, rfl, fun _ h => h⟩
    refine And.intro (fun u W A hW hBW hd hv hr => ?_) ?_
    · have e14 : u 14 = .bool true := hd 14 (by decide) (by kernel_rfl)
      exact Or.inr ⟨e14, rfl, fun _ h => h⟩
    refine And.intro (fun u W A hW hBW hd hv hr => ?_) ?_
    · have e14 : u 14 = .bool true := hd 14 (by decide) (by kernel_rfl)
      have e16 : u 16 = undef := hd 16 (by decide) (by kernel_rfl)
      exact Or.inr ⟨e14, rfl, fun _ h => h⟩
    refine And.intro (fun u W A hW hBW hd hv hr => ?_) ?_
    · have e14 : u 14 = .bool true := hd 14 (by decide) (by kernel_rfl)
      have e15 : u 15 = undef := hd 15 (by decide) (by kernel_rfl)
      have e17 : u 17 = undef := hd 17 (by decide) (by kernel_rfl)
      exact Or.inr ⟨e14, rfl, fun _ h => h⟩
    refine And.intro (fun u W A hW hBW hd hv hr => ?_) ?_
    · have e14 : u 14 = .bool true := hd 14 (by decide) (by kernel_rfl)
      have e18 : u 18 = undef := hd 18 (by decide) (by kernel_rfl)
      have t29 : A.eval (.tmp 29) = .bool true := (hv 29 (by kernel_rfl)).trans ((by kernel_rfl : slotV _ _ _ u 29 = u 14).trans e14)
      have t33 : A.eval (.tmp 33) = undef := (hv 33 (by kernel_rfl)).trans ((by kernel_rfl : slotV _ _ _ u 33 = u 18).trans e18)
      clear hd hv
      have s29 := evalT t29
      have s33 := evalT t33
      clear t29 t33
      refine fk_run ?_
      go_simp
    refine And.intro (fun u W A hW hBW hd hv hr => ?_) ?_
    · have e19 : u 19 = .bool true := hd 19 (by decide) (by kernel_rfl)
      have t34 : A.eval (.tmp 34) = .bool true := (hv 34 (by kernel_rfl)).trans ((by kernel_rfl : slotV _ _ _ u 34 = u 19).trans e19)
      clear hd hv
      have s34 := evalT t34
      clear t34
      refine fk_run ?_
      go_simp
    refine And.intro (fun u W A hW hBW hd hv hr => ?_) ?_
    · have e20 : u 20 = .bool true := hd 20 (by decide) (by kernel_rfl)
      exact Or.inr ⟨e20, rfl, fun _ h => h⟩
    refine And.intro (fun u W A hW hBW hd hv hr => ?_) ?_
    · have e20 : u 20 = .bool true := hd 20 (by decide) (by kernel_rfl)
      have e21 : u 21 = undef := hd 21 (by decide) (by kernel_rfl)
      exact Or.inr ⟨e20, rfl, fun _ h => h⟩
    refine And.intro (fun u W A hW hBW hd hv hr => ?_) ?_
    · have e20 : u 20 = .bool true := hd 20 (by decide) (by kernel_rfl)
      have e22 : u 22 = undef := hd 22 (by decide) (by kernel_rfl)
      exact Or.inr ⟨e20, rfl, fun _ h => h⟩
    refine And.intro (fun u W A hW hBW hd hv hr => ?_) ?_
    · have e20 : u 20 = .bool true := hd 20 (by decide) (by kernel_rfl)
      have e23 : u 23 = undef := hd 23 (by decide) (by kernel_rfl)
      have t35 : A.eval (.tmp 35) = .bool true := (hv 35 (by kernel_rfl)).trans ((by kernel_rfl : slotV _ _ _ u 35 = u 20).trans e20)
      have t38 : A.eval (.tmp 38) = undef := (hv 38 (by kernel_rfl)).trans ((by kernel_rfl : slotV _ _ _ u 38 = u 23).trans e23)
      clear hd hv
      have s35 := evalT t35
      have s38 := evalT t38
      clear t35 t38
      refine fk_run ?_
      go_simp
    refine And.intro (fun u W A hW hBW hd hv hr => ?_) ?_
    · have e24 : u 24 = .bool true := hd 24 (by decide) (by kernel_rfl)
      have t39 : A.eval (.tmp 39) = .bool true := (hv 39 (by kernel_rfl)).trans ((by kernel_rfl : slotV _ _ _ u 39 = u 24).trans e24)
      clear hd hv
      have s39 := evalT t39
      clear t39
      refine fk_run ?_
      go_simp
    refine And.intro (fun u W A hW hBW hd hv hr => ?_) ?_
    · have e25 : u 25 = .bool true := hd 25 (by decide) (by kernel_rfl)
      exact Or.inr ⟨e25, rfl, fun _ h => h⟩
    refine And.intro (fun u W A hW hBW hd hv hr => ?_) ?_
    · have e25 : u 25 = .bool true := hd 25 (by decide) (by kernel_rfl)
      have e26 : u 26 = undef := hd 26 (by decide) (by kernel_rfl)
      exact Or.inr ⟨e25, rfl, fun _ h => h⟩
    refine And.intro (fun u W A hW hBW hd hv hr => ?_) ?_
    · have e25 : u 25 = .bool true := hd 25 (by decide) (by kernel_rfl)
      exact Or.inr ⟨e25, rfl, fun _ h => h⟩
    refine And.intro (fun u W A hW hBW hd hv hr => ?_) ?_
    · have e25 : u 25 = .bool true := hd 25 (by decide) (by kernel_rfl)
      have e28 : u 28 = undef := hd 28 (by decide) (by kernel_rfl)
      exact Or.inr ⟨e25, rfl, fun _ h => h⟩
    refine And.intro (fun u W A hW hBW hd hv hr => ?_) ?_
    · have e25 : u 25 = .bool true := hd 25 (by decide) (by kernel_rfl)
      have e27 : u 27 = undef := hd 27 (by decide) (by kernel_rfl)
      have e29 : u 29 = undef := hd 29 (by decide) (by kernel_rfl)
      exact Or.inr ⟨e25, rfl, fun _ h => h⟩
    refine And.intro (fun u W A hW hBW hd hv hr => ?_) ?_
    · have e25 : u 25 = .bool true := hd 25 (by decide) (by kernel_rfl)
      have e30 : u 30 = undef := hd 30 (by decide) (by kernel_rfl)
      have t40 : A.eval (.tmp 40) = .bool true := (hv 40 (by kernel_rfl)).trans ((by kernel_rfl : slotV _ _ _ u 40 = u 25).trans e25)
      have t45 : A.eval (.tmp 45) = undef := (hv 45 (by kernel_rfl)).trans ((by kernel_rfl : slotV _ _ _ u 45 = u 30).trans e30)
      clear hd hv
      have s40 := evalT t40
      have s45 := evalT t45
      clear t40 t45
      refine fk_run ?_
      go_simp
    exact trivial
  intro u w2 hb2 hk2 hf2
  have e31 : u 31 = .bool true := hf2 31 (by decide) (by decide)
  have H2 := Lib.hid (HB1.out.trans ((below_undrew hb2).mono HB1.out.size))
  clear hf2 hb2 hk2
  simp only [List.take, List.drop, wpList, lexPut, Nat.zero_add, Nat.reduceAdd, e31, Act.put, List.setIfInBounds_toArray, List.set_cons_succ, List.set_cons_zero]
  clear e31
  go_wp2
  go_ret
  exact ⟨rfl, H2.out⟩
set_option maxRecDepth 100000 in
set_option maxHeartbeats 2000000 in
theorem ver_no4 (pub m : ByteArray) (idx : Int) (vs vp : Value) (sig path : List ByteArray) (w : World) (hpub : pub.size ≤ 1099511627776) (hm : m.size ≤ 1099511627776) (hs : IsStrC w vs sig) (hp : IsStrC w vp path) (hss : ∀ s ∈ sig, s.size ≤ 1099511627776) (hps : ∀ s ∈ path, s.size ≤ 1099511627776) (hT : Tabs w) (hA : sig.length = 18) (hB : path.length ≤ 8) (hC : sig.all isS = true) (hD : path.all isS = false) :
    Calls Tryz.prog 15 #[.string pub, .string m, .agg #[.int .i64 idx, vs, vp]] w fun e w' => e = .returned (.bool (false)) ∧ Below w.heap.size w w' := by
  have HT := Lib.hid hT
  have HSS := Lib.hid hss
  have HSP := Lib.hid hps
  obtain ⟨aos, cs, rfl⟩ := strc_form hs
  obtain ⟨aop, cp, rfl⟩ := strc_form hp
  have HSG := Lib.hid hs
  have HPT := Lib.hid hp
  clear hT hss hps hs hp
  rw [hA] at HSG
  rw [hA]
  have HLS := Lib.hid hA
  clear hA
  have hpm : path.length ≤ 9223372036854775807 := by obtain ⟨ao, c, e, h1, h2, _⟩ := HPT.out; have : c ≤ 9223372036854775807 := h2; omega
  obtain ⟨lp, hlp⟩ : ∃ lp, lp = path.length := ⟨_, rfl⟩
  rw [← hlp] at hpm hB
  rw [← hlp] at HPT
  rw [← hlp]
  have HLP := Lib.hid hlp
  clear hlp
  have hdB : decide ((8 : Int) < (lp : Int)) = false := decide_eq_false (by omega)
  have HC : Hid ((!(sig.all isS)) = false) := Lib.hid (by rw [hC]; rfl)
  clear hC
  have HD : Hid ((!(path.all isS)) = true) := Lib.hid (by rw [hD]; rfl)
  clear hD
  obtain ⟨hbx, hB1, hz⟩ := box_one w #[.int .i64 idx, .slice aos 18 cs, .slice aop lp cp] 24
  have C0 : Hid ((w.alloc (.cells #[.int .i64 idx, .slice aos 18 cs, .slice aop lp cp] 24)).cell? ⟨w.heap.size, 0, none⟩ = some (.int .i64 idx)) := Lib.hid (by rw [cell_of_row _ _ 0 _ _ _ hbx]; rfl)
  have C1 : Hid ((w.alloc (.cells #[.int .i64 idx, .slice aos 18 cs, .slice aop lp cp] 24)).cell? ⟨w.heap.size, 1, none⟩ = some (.slice aos 18 cs)) := Lib.hid (by rw [cell_of_row _ _ 1 _ _ _ hbx]; rfl)
  have C2 : Hid ((w.alloc (.cells #[.int .i64 idx, .slice aos 18 cs, .slice aop lp cp] 24)).cell? ⟨w.heap.size, 2, none⟩ = some (.slice aop lp cp)) := Lib.hid (by rw [cell_of_row _ _ 2 _ _ _ hbx]; rfl)
  have HB1 := Lib.hid hB1
  have HSG1 := Lib.hid (HSG.out.on hB1)
  have HPT1 := Lib.hid (HPT.out.on hB1)
  have hz1 : w.heap.size < (w.alloc (.cells #[.int .i64 idx, .slice aos 18 cs, .slice aop lp cp] 24)).heap.size := by omega
  clear hbx hB1 hz
  go_enter Tryz.func15, Tryz.ntmps15
  go_wp2_with fail
  generalize hgw : w.alloc (.cells #[.int .i64 idx, .slice aos 18 cs, .slice aop lp cp] 24) = w1 at *
  clear hgw
  refine wp_region_res 32 (w1.heap.size) (fun ii u => [valF (.pointer (some ⟨w.heap.size, 1, none⟩)), valF (.slice aos 18 cs), valF (.int .i64 18), valF (.bool false), valF (.bool false), valF (.int .i64 (lp : Int)), valF (.bool false), valF (.bool false), valF (.bool false), valF (.func (.func 35) #[] #[]), valF (.pointer (some ⟨w.heap.size, 1, none⟩)), valF (.slice aos 18 cs), valF (.bool false), valF (.bool false), valF (.bool false), valF (.func (.func 35) #[] #[]), valF (.pointer (some ⟨w.heap.size, 2, none⟩)), valF (.slice aop lp cp), valF (.bool true), valF (.bool true), valF (.bool true), valF undef, valF undef, valF undef, valF (.bool true), valF (.bool true), valF undef, valF undef, valF undef, valF undef, valF undef, valF (.bool true)].getD ii anyF) (fun jj ii => false) (fun jj bb => False) (by kernel_rfl) (by kernel_rfl) (by kernel_rfl) (by kernel_rfl) (by kernel_rfl) (Nat.le_refl _) ?_ ?_ ?_ ?_ ?_
  · intro ii u hii
    refine AllKStable.at ?_ ii
    exact ⟨.inl (valF_stable _ _), .inl (valF_stable _ _), .inl (valF_stable _ _), .inl (valF_stable _ _), .inl (valF_stable _ _), .inl (valF_stable _ _), .inl (valF_stable _ _), .inl (valF_stable _ _), .inl (valF_stable _ _), .inl (valF_stable _ _), .inl (valF_stable _ _), .inl (valF_stable _ _), .inl (valF_stable _ _), .inl (valF_stable _ _), .inl (valF_stable _ _), .inl (valF_stable _ _), .inl (valF_stable _ _), .inl (valF_stable _ _), .inl (valF_stable _ _), .inl (valF_stable _ _), .inl (valF_stable _ _), .inl (valF_stable _ _), .inl (valF_stable _ _), .inl (valF_stable _ _), .inl (valF_stable _ _), .inl (valF_stable _ _), .inl (valF_stable _ _), .inl (valF_stable _ _), .inl (valF_stable _ _), .inl (valF_stable _ _), .inl (valF_stable _ _), .inl (valF_stable _ _), trivial⟩
  · exact fun _ _ _ _ _ => rfl
  · exact ⟨fun _ _ _ h => h.elim, fun _ _ _ _ _ h => h.elim⟩
  · refine And.intro (fun u W A hW hBW hd hv hr => ?_) ?_
    · have t5 : A.eval (.tmp 5) = .pointer (some ⟨w.heap.size, 0, none⟩) := (hv 5 (by kernel_rfl)).trans (by kernel_rfl)
      clear hd hv
      have s5 := evalT t5
      clear t5
      refine fk_run ?_
      go_simp
    refine And.intro (fun u W A hW hBW hd hv hr => ?_) ?_
    · have e0 : u 0 = .pointer (some ⟨w.heap.size, 1, none⟩) := hd 0 (by decide) (by kernel_rfl)
      have t15 : A.eval (.tmp 15) = .pointer (some ⟨w.heap.size, 1, none⟩) := (hv 15 (by kernel_rfl)).trans ((by kernel_rfl : slotV _ _ _ u 15 = u 0).trans e0)
      have hW1 := below_undrew hW
      have hcl : W.cell? ⟨w.heap.size, 1, none⟩ = some (.slice aos 18 cs) := by rw [hW1.cell (p := ⟨w.heap.size, 1, none⟩) (by show w.heap.size < w1.heap.size; omega)]; exact C1.out
      clear hd hv
      have s15 := evalT t15
      clear t15
      refine fk_run ?_
      go_simp
    refine And.intro (fun u W A hW hBW hd hv hr => ?_) ?_
    · have e1 : u 1 = .slice aos 18 cs := hd 1 (by decide) (by kernel_rfl)
      have t16 : A.eval (.tmp 16) = .slice aos 18 cs := (hv 16 (by kernel_rfl)).trans ((by kernel_rfl : slotV _ _ _ u 16 = u 1).trans e1)
      clear hd hv
      have s16 := evalT t16
      clear t16
      refine fk_run ?_
      go_simp
    refine And.intro (fun u W A hW hBW hd hv hr => ?_) ?_
    · have e2 : u 2 = .int .i64 18 := hd 2 (by decide) (by kernel_rfl)
      have t17 : A.eval (.tmp 17) = .int .i64 18 := (hv 17 (by kernel_rfl)).trans ((by kernel_rfl : slotV _ _ _ u 17 = u 2).trans e2)
      clear hd hv
      have s17 := evalT t17
      clear t17
      refine fk_run ?_
      go_simp
    refine And.intro (fun u W A hW hBW hd hv hr => ?_) ?_
    · have e3 : u 3 = .bool false := hd 3 (by decide) (by kernel_rfl)
      have t18 : A.eval (.tmp 18) = .bool false := (hv 18 (by kernel_rfl)).trans ((by kernel_rfl : slotV _ _ _ u 18 = u 3).trans e3)
      clear hd hv
      have s18 := evalT t18
      clear t18
      refine fk_run ?_
      go_simp
    refine And.intro (fun u W A hW hBW hd hv hr => ?_) ?_
    · have e4 : u 4 = .bool false := hd 4 (by decide) (by kernel_rfl)
      have t7 : A.eval (.tmp 7) = .int .i64 (lp : Int) := (hv 7 (by kernel_rfl)).trans (by kernel_rfl)
      clear hd hv
      have s7 := evalT t7
      clear t7
      refine Or.inl ⟨e4, ?_⟩
      refine fk_run ?_
      go_simp
    refine And.intro (fun u W A hW hBW hd hv hr => ?_) ?_
    · have e4 : u 4 = .bool false := hd 4 (by decide) (by kernel_rfl)
      have e5 : u 5 = .int .i64 (lp : Int) := hd 5 (by decide) (by kernel_rfl)
      have t20 : A.eval (.tmp 20) = .int .i64 (lp : Int) := (hv 20 (by kernel_rfl)).trans ((by kernel_rfl : slotV _ _ _ u 20 = u 5).trans e5)
      clear hd hv
      have s20 := evalT t20
      clear t20
      refine Or.inl ⟨e4, ?_⟩
      refine fk_run ?_
      go_simp
    refine And.intro (fun u W A hW hBW hd hv hr => ?_) ?_
    · have e4 : u 4 = .bool false := hd 4 (by decide) (by kernel_rfl)
      have e6 : u 6 = .bool false := hd 6 (by decide) (by kernel_rfl)
      have t19 : A.eval (.tmp 19) = .bool false := (hv 19 (by kernel_rfl)).trans ((by kernel_rfl : slotV _ _ _ u 19 = u 4).trans e4)
      have t21 : A.eval (.tmp 21) = .bool false := (hv 21 (by kernel_rfl)).trans ((by kernel_rfl : slotV _ _ _ u 21 = u 6).trans e6)
      clear hd hv
      have s19 := evalT t19
      have s21 := evalT t21
      clear t19 t21
      refine fk_run ?_
      go_simp
    refine And.intro (fun u W A hW hBW hd hv hr => ?_) ?_
    · have e7 : u 7 = .bool false := hd 7 (by decide) (by kernel_rfl)
      have t22 : A.eval (.tmp 22) = .bool false := (hv 22 (by kernel_rfl)).trans ((by kernel_rfl : slotV _ _ _ u 22 = u 7).trans e7)
      clear hd hv
      have s22 := evalT t22
      clear t22
      refine fk_run ?_
      go_simp
    refine And.intro (fun u W A hW hBW hd hv hr => ?_) ?_
    · have e8 : u 8 = .bool false := hd 8 (by decide) (by kernel_rfl)
      have t8 : A.eval (.tmp 8) = .func (.func 35) #[] #[] := (hv 8 (by kernel_rfl)).trans (by kernel_rfl)
      clear hd hv
      have s8 := evalT t8
      clear t8
      refine Or.inl ⟨e8, ?_⟩
      refine fk_run ?_
      go_simp
    refine And.intro (fun u W A hW hBW hd hv hr => ?_) ?_
    · have e8 : u 8 = .bool false := hd 8 (by decide) (by kernel_rfl)
      have t5 : A.eval (.tmp 5) = .pointer (some ⟨w.heap.size, 0, none⟩) := (hv 5 (by kernel_rfl)).trans (by kernel_rfl)
      clear hd hv
      have s5 := evalT t5
      clear t5
      refine Or.inl ⟨e8, ?_⟩
      refine fk_run ?_
      go_simp
    refine And.intro (fun u W A hW hBW hd hv hr => ?_) ?_
    · have e8 : u 8 = .bool false := hd 8 (by decide) (by kernel_rfl)
      have e10 : u 10 = .pointer (some ⟨w.heap.size, 1, none⟩) := hd 10 (by decide) (by kernel_rfl)
      have t25 : A.eval (.tmp 25) = .pointer (some ⟨w.heap.size, 1, none⟩) := (hv 25 (by kernel_rfl)).trans ((by kernel_rfl : slotV _ _ _ u 25 = u 10).trans e10)
      have hW1 := below_undrew hW
      have hcl : W.cell? ⟨w.heap.size, 1, none⟩ = some (.slice aos 18 cs) := by rw [hW1.cell (p := ⟨w.heap.size, 1, none⟩) (by show w.heap.size < w1.heap.size; omega)]; exact C1.out
      clear hd hv
      have s25 := evalT t25
      clear t25
      refine Or.inl ⟨e8, ?_⟩
      refine fk_run ?_
      go_simp
    refine And.intro (fun u W A hW hBW hd hv hr => ?_) ?_
    · have e8 : u 8 = .bool false := hd 8 (by decide) (by kernel_rfl)
      have e9 : u 9 = .func (.func 35) #[] #[] := hd 9 (by decide) (by kernel_rfl)
      have e11 : u 11 = .slice aos 18 cs := hd 11 (by decide) (by kernel_rfl)
      have t24 : A.eval (.tmp 24) = .func (.func 35) #[] #[] := (hv 24 (by kernel_rfl)).trans ((by kernel_rfl : slotV _ _ _ u 24 = u 9).trans e9)
      have t26 : A.eval (.tmp 26) = .slice aos 18 cs := (hv 26 (by kernel_rfl)).trans ((by kernel_rfl : slotV _ _ _ u 26 = u 11).trans e11)
      have hW1 := below_undrew hW
      clear hd hv
      have s24 := evalT t24
      have s26 := evalT t26
      clear t24 t26
      refine Or.inl ⟨e8, ?_⟩
      refine fk_enter (f := 35) (args := #[.slice aos 18 cs]) (by go_simp) (fk_val ?_)
      have hod := sodd_calls _ sig W (HSG1.out.on hW1) HSS.out
      rw [HC.out] at hod
      exact hod
    refine And.intro (fun u W A hW hBW hd hv hr => ?_) ?_
    · have e8 : u 8 = .bool false := hd 8 (by decide) (by kernel_rfl)
      have e12 : u 12 = .bool false := hd 12 (by decide) (by kernel_rfl)
      have t23 : A.eval (.tmp 23) = .bool false := (hv 23 (by kernel_rfl)).trans ((by kernel_rfl : slotV _ _ _ u 23 = u 8).trans e8)
      have t27 : A.eval (.tmp 27) = .bool false := (hv 27 (by kernel_rfl)).trans ((by kernel_rfl : slotV _ _ _ u 27 = u 12).trans e12)
      clear hd hv
      have s23 := evalT t23
      have s27 := evalT t27
      clear t23 t27
      refine fk_run ?_
      go_simp
    refine And.intro (fun u W A hW hBW hd hv hr => ?_) ?_
    · have e13 : u 13 = .bool false := hd 13 (by decide) (by kernel_rfl)
      have t28 : A.eval (.tmp 28) = .bool false := (hv 28 (by kernel_rfl)).trans ((by kernel_rfl : slotV _ _ _ u 28 = u 13).trans e13)
      clear hd hv
      have s28 := evalT t28
      clear t28
      refine fk_run ?_
      go_simp
    refine And.intro (fun u W A hW hBW hd hv hr => ?_) ?_
    · have e14 : u 14 = .bool false := hd 14 (by decide) (by kernel_rfl)
      have t8 : A.eval (.tmp 8) = .func (.func 35) #[] #[] := (hv 8 (by kernel_rfl)).trans (by kernel_rfl)
      clear hd hv
      have s8 := evalT t8
      clear t8
      refine Or.inl ⟨e14, ?_⟩
      refine fk_run ?_
      go_simp
    refine And.intro (fun u W A hW hBW hd hv hr => ?_) ?_
    · have e14 : u 14 = .bool false := hd 14 (by decide) (by kernel_rfl)
      have t5 : A.eval (.tmp 5) = .pointer (some ⟨w.heap.size, 0, none⟩) := (hv 5 (by kernel_rfl)).trans (by kernel_rfl)
      clear hd hv
      have s5 := evalT t5
      clear t5
      refine Or.inl ⟨e14, ?_⟩
      refine fk_run ?_
      go_simp
    refine And.intro (fun u W A hW hBW hd hv hr => ?_) ?_
    · have e14 : u 14 = .bool false := hd 14 (by decide) (by kernel_rfl)
      have e16 : u 16 = .pointer (some ⟨w.heap.size, 2, none⟩) := hd 16 (by decide) (by kernel_rfl)
      have t31 : A.eval (.tmp 31) = .pointer (some ⟨w.heap.size, 2, none⟩) := (hv 31 (by kernel_rfl)).trans ((by kernel_rfl : slotV _ _ _ u 31 = u 16).trans e16)
      have hW1 := below_undrew hW
      have hcl : W.cell? ⟨w.heap.size, 2, none⟩ = some (.slice aop lp cp) := by rw [hW1.cell (p := ⟨w.heap.size, 2, none⟩) (by show w.heap.size < w1.heap.size; omega)]; exact C2.out
      clear hd hv
      have s31 := evalT t31
      clear t31
      refine Or.inl ⟨e14, ?_⟩
      refine fk_run ?_
      go_simp
    refine And.intro (fun u W A hW hBW hd hv hr => ?_) ?_
    · have e14 : u 14 = .bool false := hd 14 (by decide) (by kernel_rfl)
      have e15 : u 15 = .func (.func 35) #[] #[] := hd 15 (by decide) (by kernel_rfl)
      have e17 : u 17 = .slice aop lp cp := hd 17 (by decide) (by kernel_rfl)
      have t30 : A.eval (.tmp 30) = .func (.func 35) #[] #[] := (hv 30 (by kernel_rfl)).trans ((by kernel_rfl : slotV _ _ _ u 30 = u 15).trans e15)
      have t32 : A.eval (.tmp 32) = .slice aop lp cp := (hv 32 (by kernel_rfl)).trans ((by kernel_rfl : slotV _ _ _ u 32 = u 17).trans e17)
      have hW1 := below_undrew hW
      clear hd hv
      have s30 := evalT t30
      have s32 := evalT t32
      clear t30 t32
      refine Or.inl ⟨e14, ?_⟩
      refine fk_enter (f := 35) (args := #[.slice aop lp cp]) (by go_simp) (fk_val ?_)
      have hod := sodd_calls _ path W (HPT1.out.on hW1) HSP.out
      rw [HD.out] at hod
      exact hod
    refine And.intro (fun u W A hW hBW hd hv hr => ?_) ?_
    · have e14 : u 14 = .bool false := hd 14 (by decide) (by kernel_rfl)
      have e18 : u 18 = .bool true := hd 18 (by decide) (by kernel_rfl)
      have t29 : A.eval (.tmp 29) = .bool false := (hv 29 (by kernel_rfl)).trans ((by kernel_rfl : slotV _ _ _ u 29 = u 14).trans e14)
      have t33 : A.eval (.tmp 33) = .bool true := (hv 33 (by kernel_rfl)).trans ((by kernel_rfl : slotV _ _ _ u 33 = u 18).trans e18)
      clear hd hv
      have s29 := evalT t29
      have s33 := evalT t33
      clear t29 t33
      refine fk_run ?_
      go_simp
    refine And.intro (fun u W A hW hBW hd hv hr => ?_) ?_
    · have e19 : u 19 = .bool true := hd 19 (by decide) (by kernel_rfl)
      have t34 : A.eval (.tmp 34) = .bool true := (hv 34 (by kernel_rfl)).trans ((by kernel_rfl : slotV _ _ _ u 34 = u 19).trans e19)
      clear hd hv
      have s34 := evalT t34
      clear t34
      refine fk_run ?_
      go_simp
    refine And.intro (fun u W A hW hBW hd hv hr => ?_) ?_
    · have e20 : u 20 = .bool true := hd 20 (by decide) (by kernel_rfl)
      exact Or.inr ⟨e20, rfl, fun _ h => h⟩
    refine And.intro (fun u W A hW hBW hd hv hr => ?_) ?_
    · have e20 : u 20 = .bool true := hd 20 (by decide) (by kernel_rfl)
      have e21 : u 21 = undef := hd 21 (by decide) (by kernel_rfl)
      exact Or.inr ⟨e20, rfl, fun _ h => h⟩
    refine And.intro (fun u W A hW hBW hd hv hr => ?_) ?_
    · have e20 : u 20 = .bool true := hd 20 (by decide) (by kernel_rfl)
      have e22 : u 22 = undef := hd 22 (by decide) (by kernel_rfl)
      exact Or.inr ⟨e20, rfl, fun _ h => h⟩
    refine And.intro (fun u W A hW hBW hd hv hr => ?_) ?_
    · have e20 : u 20 = .bool true := hd 20 (by decide) (by kernel_rfl)
      have e23 : u 23 = undef := hd 23 (by decide) (by kernel_rfl)
      have t35 : A.eval (.tmp 35) = .bool true := (hv 35 (by kernel_rfl)).trans ((by kernel_rfl : slotV _ _ _ u 35 = u 20).trans e20)
      have t38 : A.eval (.tmp 38) = undef := (hv 38 (by kernel_rfl)).trans ((by kernel_rfl : slotV _ _ _ u 38 = u 23).trans e23)
      clear hd hv
      have s35 := evalT t35
      have s38 := evalT t38
      clear t35 t38
      refine fk_run ?_
      go_simp
    refine And.intro (fun u W A hW hBW hd hv hr => ?_) ?_
    · have e24 : u 24 = .bool true := hd 24 (by decide) (by kernel_rfl)
      have t39 : A.eval (.tmp 39) = .bool true := (hv 39 (by kernel_rfl)).trans ((by kernel_rfl : slotV _ _ _ u 39 = u 24).trans e24)
      clear hd hv
      have s39 := evalT t39
      clear t39
      refine fk_run ?_
      go_simp
    refine And.intro (fun u W A hW hBW hd hv hr => ?_) ?_
    · have e25 : u 25 = .bool true := hd 25 (by decide) (by kernel_rfl)
      exact Or.inr ⟨e25, rfl, fun _ h => h⟩
    refine And.intro (fun u W A hW hBW hd hv hr => ?_) ?_
    · have e25 : u 25 = .bool true := hd 25 (by decide) (by kernel_rfl)
      have e26 : u 26 = undef := hd 26 (by decide) (by kernel_rfl)
      exact Or.inr ⟨e25, rfl, fun _ h => h⟩
    refine And.intro (fun u W A hW hBW hd hv hr => ?_) ?_
    · have e25 : u 25 = .bool true := hd 25 (by decide) (by kernel_rfl)
      exact Or.inr ⟨e25, rfl, fun _ h => h⟩
    refine And.intro (fun u W A hW hBW hd hv hr => ?_) ?_
    · have e25 : u 25 = .bool true := hd 25 (by decide) (by kernel_rfl)
      have e28 : u 28 = undef := hd 28 (by decide) (by kernel_rfl)
      exact Or.inr ⟨e25, rfl, fun _ h => h⟩
    refine And.intro (fun u W A hW hBW hd hv hr => ?_) ?_
    · have e25 : u 25 = .bool true := hd 25 (by decide) (by kernel_rfl)
      have e27 : u 27 = undef := hd 27 (by decide) (by kernel_rfl)
      have e29 : u 29 = undef := hd 29 (by decide) (by kernel_rfl)
      exact Or.inr ⟨e25, rfl, fun _ h => h⟩
    refine And.intro (fun u W A hW hBW hd hv hr => ?_) ?_
    · have e25 : u 25 = .bool true := hd 25 (by decide) (by kernel_rfl)
      have e30 : u 30 = undef := hd 30 (by decide) (by kernel_rfl)
      have t40 : A.eval (.tmp 40) = .bool true := (hv 40 (by kernel_rfl)).trans ((by kernel_rfl : slotV _ _ _ u 40 = u 25).trans e25)
      have t45 : A.eval (.tmp 45) = undef := (hv 45 (by kernel_rfl)).trans ((by kernel_rfl : slotV _ _ _ u 45 = u 30).trans e30)
      clear hd hv
      have s40 := evalT t40
      have s45 := evalT t45
      clear t40 t45
      refine fk_run ?_
      go_simp
    exact trivial
  intro u w2 hb2 hk2 hf2
  have e31 : u 31 = .bool true := hf2 31 (by decide) (by decide)
  have H2 := Lib.hid (HB1.out.trans ((below_undrew hb2).mono HB1.out.size))
  clear hf2 hb2 hk2
  simp only [List.take, List.drop, wpList, lexPut, Nat.zero_add, Nat.reduceAdd, e31, Act.put, List.setIfInBounds_toArray, List.set_cons_succ, List.set_cons_zero]
  clear e31
  go_wp2
  go_ret
  exact ⟨rfl, H2.out⟩
set_option maxRecDepth 100000 in
set_option maxHeartbeats 2000000 in
theorem ver_no5 (pub m : ByteArray) (idx : Int) (vs vp : Value) (sig path : List ByteArray) (w : World) (hpub : pub.size ≤ 1099511627776) (hm : m.size ≤ 1099511627776) (hs : IsStrC w vs sig) (hp : IsStrC w vp path) (hss : ∀ s ∈ sig, s.size ≤ 1099511627776) (hps : ∀ s ∈ path, s.size ≤ 1099511627776) (hT : Tabs w) (hA : sig.length = 18) (hB : path.length ≤ 8) (hC : sig.all isS = true) (hD : path.all isS = true) (hE : idx < 0) :
    Calls Tryz.prog 15 #[.string pub, .string m, .agg #[.int .i64 idx, vs, vp]] w fun e w' => e = .returned (.bool (false)) ∧ Below w.heap.size w w' := by
  have HT := Lib.hid hT
  have HSS := Lib.hid hss
  have HSP := Lib.hid hps
  obtain ⟨aos, cs, rfl⟩ := strc_form hs
  obtain ⟨aop, cp, rfl⟩ := strc_form hp
  have HSG := Lib.hid hs
  have HPT := Lib.hid hp
  clear hT hss hps hs hp
  rw [hA] at HSG
  rw [hA]
  have HLS := Lib.hid hA
  clear hA
  have hpm : path.length ≤ 9223372036854775807 := by obtain ⟨ao, c, e, h1, h2, _⟩ := HPT.out; have : c ≤ 9223372036854775807 := h2; omega
  obtain ⟨lp, hlp⟩ : ∃ lp, lp = path.length := ⟨_, rfl⟩
  rw [← hlp] at hpm hB
  rw [← hlp] at HPT
  rw [← hlp]
  have HLP := Lib.hid hlp
  clear hlp
  have hdB : decide ((8 : Int) < (lp : Int)) = false := decide_eq_false (by omega)
  have HC : Hid ((!(sig.all isS)) = false) := Lib.hid (by rw [hC]; rfl)
  clear hC
  have HD : Hid ((!(path.all isS)) = false) := Lib.hid (by rw [hD]; rfl)
  clear hD
  have hdE : decide (idx < 0) = true := decide_eq_true hE
  clear hE
  obtain ⟨hbx, hB1, hz⟩ := box_one w #[.int .i64 idx, .slice aos 18 cs, .slice aop lp cp] 24
  have C0 : Hid ((w.alloc (.cells #[.int .i64 idx, .slice aos 18 cs, .slice aop lp cp] 24)).cell? ⟨w.heap.size, 0, none⟩ = some (.int .i64 idx)) := Lib.hid (by rw [cell_of_row _ _ 0 _ _ _ hbx]; rfl)
  have C1 : Hid ((w.alloc (.cells #[.int .i64 idx, .slice aos 18 cs, .slice aop lp cp] 24)).cell? ⟨w.heap.size, 1, none⟩ = some (.slice aos 18 cs)) := Lib.hid (by rw [cell_of_row _ _ 1 _ _ _ hbx]; rfl)
  have C2 : Hid ((w.alloc (.cells #[.int .i64 idx, .slice aos 18 cs, .slice aop lp cp] 24)).cell? ⟨w.heap.size, 2, none⟩ = some (.slice aop lp cp)) := Lib.hid (by rw [cell_of_row _ _ 2 _ _ _ hbx]; rfl)
  have HB1 := Lib.hid hB1
  have HSG1 := Lib.hid (HSG.out.on hB1)
  have HPT1 := Lib.hid (HPT.out.on hB1)
  have hz1 : w.heap.size < (w.alloc (.cells #[.int .i64 idx, .slice aos 18 cs, .slice aop lp cp] 24)).heap.size := by omega
  clear hbx hB1 hz
  go_enter Tryz.func15, Tryz.ntmps15
  go_wp2_with fail
  generalize hgw : w.alloc (.cells #[.int .i64 idx, .slice aos 18 cs, .slice aop lp cp] 24) = w1 at *
  clear hgw
  refine wp_region_res 32 (w1.heap.size) (fun ii u => [valF (.pointer (some ⟨w.heap.size, 1, none⟩)), valF (.slice aos 18 cs), valF (.int .i64 18), valF (.bool false), valF (.bool false), valF (.int .i64 (lp : Int)), valF (.bool false), valF (.bool false), valF (.bool false), valF (.func (.func 35) #[] #[]), valF (.pointer (some ⟨w.heap.size, 1, none⟩)), valF (.slice aos 18 cs), valF (.bool false), valF (.bool false), valF (.bool false), valF (.func (.func 35) #[] #[]), valF (.pointer (some ⟨w.heap.size, 2, none⟩)), valF (.slice aop lp cp), valF (.bool false), valF (.bool false), valF (.bool false), valF (.pointer (some ⟨w.heap.size, 0, none⟩)), valF (.int .i64 idx), valF (.bool true), valF (.bool true), valF (.bool true), valF undef, valF undef, valF undef, valF undef, valF undef, valF (.bool true)].getD ii anyF) (fun jj ii => false) (fun jj bb => False) (by kernel_rfl) (by kernel_rfl) (by kernel_rfl) (by kernel_rfl) (by kernel_rfl) (Nat.le_refl _) ?_ ?_ ?_ ?_ ?_
  · intro ii u hii
    refine AllKStable.at ?_ ii
    exact ⟨.inl (valF_stable _ _), .inl (valF_stable _ _), .inl (valF_stable _ _), .inl (valF_stable _ _), .inl (valF_stable _ _), .inl (valF_stable _ _), .inl (valF_stable _ _), .inl (valF_stable _ _), .inl (valF_stable _ _), .inl (valF_stable _ _), .inl (valF_stable _ _), .inl (valF_stable _ _), .inl (valF_stable _ _), .inl (valF_stable _ _), .inl (valF_stable _ _), .inl (valF_stable _ _), .inl (valF_stable _ _), .inl (valF_stable _ _), .inl (valF_stable _ _), .inl (valF_stable _ _), .inl (valF_stable _ _), .inl (valF_stable _ _), .inl (valF_stable _ _), .inl (valF_stable _ _), .inl (valF_stable _ _), .inl (valF_stable _ _), .inl (valF_stable _ _), .inl (valF_stable _ _), .inl (valF_stable _ _), .inl (valF_stable _ _), .inl (valF_stable _ _), .inl (valF_stable _ _), trivial⟩
  · exact fun _ _ _ _ _ => rfl
  · exact ⟨fun _ _ _ h => h.elim, fun _ _ _ _ _ h => h.elim⟩
  · refine And.intro (fun u W A hW hBW hd hv hr => ?_) ?_
    · have t5 : A.eval (.tmp 5) = .pointer (some ⟨w.heap.size, 0, none⟩) := (hv 5 (by kernel_rfl)).trans (by kernel_rfl)
      clear hd hv
      have s5 := evalT t5
      clear t5
      refine fk_run ?_
      go_simp
    refine And.intro (fun u W A hW hBW hd hv hr => ?_) ?_
    · have e0 : u 0 = .pointer (some ⟨w.heap.size, 1, none⟩) := hd 0 (by decide) (by kernel_rfl)
      have t15 : A.eval (.tmp 15) = .pointer (some ⟨w.heap.size, 1, none⟩) := (hv 15 (by kernel_rfl)).trans ((by kernel_rfl : slotV _ _ _ u 15 = u 0).trans e0)
      have hW1 := below_undrew hW
      have hcl : W.cell? ⟨w.heap.size, 1, none⟩ = some (.slice aos 18 cs) := by rw [hW1.cell (p := ⟨w.heap.size, 1, none⟩) (by show w.heap.size < w1.heap.size; omega)]; exact C1.out
      clear hd hv
      have s15 := evalT t15
      clear t15
      refine fk_run ?_
      go_simp
    refine And.intro (fun u W A hW hBW hd hv hr => ?_) ?_
    · have e1 : u 1 = .slice aos 18 cs := hd 1 (by decide) (by kernel_rfl)
      have t16 : A.eval (.tmp 16) = .slice aos 18 cs := (hv 16 (by kernel_rfl)).trans ((by kernel_rfl : slotV _ _ _ u 16 = u 1).trans e1)
      clear hd hv
      have s16 := evalT t16
      clear t16
      refine fk_run ?_
      go_simp
    refine And.intro (fun u W A hW hBW hd hv hr => ?_) ?_
    · have e2 : u 2 = .int .i64 18 := hd 2 (by decide) (by kernel_rfl)
      have t17 : A.eval (.tmp 17) = .int .i64 18 := (hv 17 (by kernel_rfl)).trans ((by kernel_rfl : slotV _ _ _ u 17 = u 2).trans e2)
      clear hd hv
      have s17 := evalT t17
      clear t17
      refine fk_run ?_
      go_simp
    refine And.intro (fun u W A hW hBW hd hv hr => ?_) ?_
    · have e3 : u 3 = .bool false := hd 3 (by decide) (by kernel_rfl)
      have t18 : A.eval (.tmp 18) = .bool false := (hv 18 (by kernel_rfl)).trans ((by kernel_rfl : slotV _ _ _ u 18 = u 3).trans e3)
      clear hd hv
      have s18 := evalT t18
      clear t18
      refine fk_run ?_
      go_simp
    refine And.intro (fun u W A hW hBW hd hv hr => ?_) ?_
    · have e4 : u 4 = .bool false := hd 4 (by decide) (by kernel_rfl)
      have t7 : A.eval (.tmp 7) = .int .i64 (lp : Int) := (hv 7 (by kernel_rfl)).trans (by kernel_rfl)
      clear hd hv
      have s7 := evalT t7
      clear t7
      refine Or.inl ⟨e4, ?_⟩
      refine fk_run ?_
      go_simp
    refine And.intro (fun u W A hW hBW hd hv hr => ?_) ?_
    · have e4 : u 4 = .bool false := hd 4 (by decide) (by kernel_rfl)
      have e5 : u 5 = .int .i64 (lp : Int) := hd 5 (by decide) (by kernel_rfl)
      have t20 : A.eval (.tmp 20) = .int .i64 (lp : Int) := (hv 20 (by kernel_rfl)).trans ((by kernel_rfl : slotV _ _ _ u 20 = u 5).trans e5)
      clear hd hv
      have s20 := evalT t20
      clear t20
      refine Or.inl ⟨e4, ?_⟩
      refine fk_run ?_
      go_simp
    refine And.intro (fun u W A hW hBW hd hv hr => ?_) ?_
    · have e4 : u 4 = .bool false := hd 4 (by decide) (by kernel_rfl)
      have e6 : u 6 = .bool false := hd 6 (by decide) (by kernel_rfl)
      have t19 : A.eval (.tmp 19) = .bool false := (hv 19 (by kernel_rfl)).trans ((by kernel_rfl : slotV _ _ _ u 19 = u 4).trans e4)
      have t21 : A.eval (.tmp 21) = .bool false := (hv 21 (by kernel_rfl)).trans ((by kernel_rfl : slotV _ _ _ u 21 = u 6).trans e6)
      clear hd hv
      have s19 := evalT t19
      have s21 := evalT t21
      clear t19 t21
      refine fk_run ?_
      go_simp
    refine And.intro (fun u W A hW hBW hd hv hr => ?_) ?_
    · have e7 : u 7 = .bool false := hd 7 (by decide) (by kernel_rfl)
      have t22 : A.eval (.tmp 22) = .bool false := (hv 22 (by kernel_rfl)).trans ((by kernel_rfl : slotV _ _ _ u 22 = u 7).trans e7)
      clear hd hv
      have s22 := evalT t22
      clear t22
      refine fk_run ?_
      go_simp
    refine And.intro (fun u W A hW hBW hd hv hr => ?_) ?_
    · have e8 : u 8 = .bool false := hd 8 (by decide) (by kernel_rfl)
      have t8 : A.eval (.tmp 8) = .func (.func 35) #[] #[] := (hv 8 (by kernel_rfl)).trans (by kernel_rfl)
      clear hd hv
      have s8 := evalT t8
      clear t8
      refine Or.inl ⟨e8, ?_⟩
      refine fk_run ?_
      go_simp
    refine And.intro (fun u W A hW hBW hd hv hr => ?_) ?_
    · have e8 : u 8 = .bool false := hd 8 (by decide) (by kernel_rfl)
      have t5 : A.eval (.tmp 5) = .pointer (some ⟨w.heap.size, 0, none⟩) := (hv 5 (by kernel_rfl)).trans (by kernel_rfl)
      clear hd hv
      have s5 := evalT t5
      clear t5
      refine Or.inl ⟨e8, ?_⟩
      refine fk_run ?_
      go_simp
    refine And.intro (fun u W A hW hBW hd hv hr => ?_) ?_
    · have e8 : u 8 = .bool false := hd 8 (by decide) (by kernel_rfl)
      have e10 : u 10 = .pointer (some ⟨w.heap.size, 1, none⟩) := hd 10 (by decide) (by kernel_rfl)
      have t25 : A.eval (.tmp 25) = .pointer (some ⟨w.heap.size, 1, none⟩) := (hv 25 (by kernel_rfl)).trans ((by kernel_rfl : slotV _ _ _ u 25 = u 10).trans e10)
      have hW1 := below_undrew hW
      have hcl : W.cell? ⟨w.heap.size, 1, none⟩ = some (.slice aos 18 cs) := by rw [hW1.cell (p := ⟨w.heap.size, 1, none⟩) (by show w.heap.size < w1.heap.size; omega)]; exact C1.out
      clear hd hv
      have s25 := evalT t25
      clear t25
      refine Or.inl ⟨e8, ?_⟩
      refine fk_run ?_
      go_simp
    refine And.intro (fun u W A hW hBW hd hv hr => ?_) ?_
    · have e8 : u 8 = .bool false := hd 8 (by decide) (by kernel_rfl)
      have e9 : u 9 = .func (.func 35) #[] #[] := hd 9 (by decide) (by kernel_rfl)
      have e11 : u 11 = .slice aos 18 cs := hd 11 (by decide) (by kernel_rfl)
      have t24 : A.eval (.tmp 24) = .func (.func 35) #[] #[] := (hv 24 (by kernel_rfl)).trans ((by kernel_rfl : slotV _ _ _ u 24 = u 9).trans e9)
      have t26 : A.eval (.tmp 26) = .slice aos 18 cs := (hv 26 (by kernel_rfl)).trans ((by kernel_rfl : slotV _ _ _ u 26 = u 11).trans e11)
      have hW1 := below_undrew hW
      clear hd hv
      have s24 := evalT t24
      have s26 := evalT t26
      clear t24 t26
      refine Or.inl ⟨e8, ?_⟩
      refine fk_enter (f := 35) (args := #[.slice aos 18 cs]) (by go_simp) (fk_val ?_)
      have hod := sodd_calls _ sig W (HSG1.out.on hW1) HSS.out
      rw [HC.out] at hod
      exact hod
    refine And.intro (fun u W A hW hBW hd hv hr => ?_) ?_
    · have e8 : u 8 = .bool false := hd 8 (by decide) (by kernel_rfl)
      have e12 : u 12 = .bool false := hd 12 (by decide) (by kernel_rfl)
      have t23 : A.eval (.tmp 23) = .bool false := (hv 23 (by kernel_rfl)).trans ((by kernel_rfl : slotV _ _ _ u 23 = u 8).trans e8)
      have t27 : A.eval (.tmp 27) = .bool false := (hv 27 (by kernel_rfl)).trans ((by kernel_rfl : slotV _ _ _ u 27 = u 12).trans e12)
      clear hd hv
      have s23 := evalT t23
      have s27 := evalT t27
      clear t23 t27
      refine fk_run ?_
      go_simp
    refine And.intro (fun u W A hW hBW hd hv hr => ?_) ?_
    · have e13 : u 13 = .bool false := hd 13 (by decide) (by kernel_rfl)
      have t28 : A.eval (.tmp 28) = .bool false := (hv 28 (by kernel_rfl)).trans ((by kernel_rfl : slotV _ _ _ u 28 = u 13).trans e13)
      clear hd hv
      have s28 := evalT t28
      clear t28
      refine fk_run ?_
      go_simp
    refine And.intro (fun u W A hW hBW hd hv hr => ?_) ?_
    · have e14 : u 14 = .bool false := hd 14 (by decide) (by kernel_rfl)
      have t8 : A.eval (.tmp 8) = .func (.func 35) #[] #[] := (hv 8 (by kernel_rfl)).trans (by kernel_rfl)
      clear hd hv
      have s8 := evalT t8
      clear t8
      refine Or.inl ⟨e14, ?_⟩
      refine fk_run ?_
      go_simp
    refine And.intro (fun u W A hW hBW hd hv hr => ?_) ?_
    · have e14 : u 14 = .bool false := hd 14 (by decide) (by kernel_rfl)
      have t5 : A.eval (.tmp 5) = .pointer (some ⟨w.heap.size, 0, none⟩) := (hv 5 (by kernel_rfl)).trans (by kernel_rfl)
      clear hd hv
      have s5 := evalT t5
      clear t5
      refine Or.inl ⟨e14, ?_⟩
      refine fk_run ?_
      go_simp
    refine And.intro (fun u W A hW hBW hd hv hr => ?_) ?_
    · have e14 : u 14 = .bool false := hd 14 (by decide) (by kernel_rfl)
      have e16 : u 16 = .pointer (some ⟨w.heap.size, 2, none⟩) := hd 16 (by decide) (by kernel_rfl)
      have t31 : A.eval (.tmp 31) = .pointer (some ⟨w.heap.size, 2, none⟩) := (hv 31 (by kernel_rfl)).trans ((by kernel_rfl : slotV _ _ _ u 31 = u 16).trans e16)
      have hW1 := below_undrew hW
      have hcl : W.cell? ⟨w.heap.size, 2, none⟩ = some (.slice aop lp cp) := by rw [hW1.cell (p := ⟨w.heap.size, 2, none⟩) (by show w.heap.size < w1.heap.size; omega)]; exact C2.out
      clear hd hv
      have s31 := evalT t31
      clear t31
      refine Or.inl ⟨e14, ?_⟩
      refine fk_run ?_
      go_simp
    refine And.intro (fun u W A hW hBW hd hv hr => ?_) ?_
    · have e14 : u 14 = .bool false := hd 14 (by decide) (by kernel_rfl)
      have e15 : u 15 = .func (.func 35) #[] #[] := hd 15 (by decide) (by kernel_rfl)
      have e17 : u 17 = .slice aop lp cp := hd 17 (by decide) (by kernel_rfl)
      have t30 : A.eval (.tmp 30) = .func (.func 35) #[] #[] := (hv 30 (by kernel_rfl)).trans ((by kernel_rfl : slotV _ _ _ u 30 = u 15).trans e15)
      have t32 : A.eval (.tmp 32) = .slice aop lp cp := (hv 32 (by kernel_rfl)).trans ((by kernel_rfl : slotV _ _ _ u 32 = u 17).trans e17)
      have hW1 := below_undrew hW
      clear hd hv
      have s30 := evalT t30
      have s32 := evalT t32
      clear t30 t32
      refine Or.inl ⟨e14, ?_⟩
      refine fk_enter (f := 35) (args := #[.slice aop lp cp]) (by go_simp) (fk_val ?_)
      have hod := sodd_calls _ path W (HPT1.out.on hW1) HSP.out
      rw [HD.out] at hod
      exact hod
    refine And.intro (fun u W A hW hBW hd hv hr => ?_) ?_
    · have e14 : u 14 = .bool false := hd 14 (by decide) (by kernel_rfl)
      have e18 : u 18 = .bool false := hd 18 (by decide) (by kernel_rfl)
      have t29 : A.eval (.tmp 29) = .bool false := (hv 29 (by kernel_rfl)).trans ((by kernel_rfl : slotV _ _ _ u 29 = u 14).trans e14)
      have t33 : A.eval (.tmp 33) = .bool false := (hv 33 (by kernel_rfl)).trans ((by kernel_rfl : slotV _ _ _ u 33 = u 18).trans e18)
      clear hd hv
      have s29 := evalT t29
      have s33 := evalT t33
      clear t29 t33
      refine fk_run ?_
      go_simp
    refine And.intro (fun u W A hW hBW hd hv hr => ?_) ?_
    · have e19 : u 19 = .bool false := hd 19 (by decide) (by kernel_rfl)
      have t34 : A.eval (.tmp 34) = .bool false := (hv 34 (by kernel_rfl)).trans ((by kernel_rfl : slotV _ _ _ u 34 = u 19).trans e19)
      clear hd hv
      have s34 := evalT t34
      clear t34
      refine fk_run ?_
      go_simp
    refine And.intro (fun u W A hW hBW hd hv hr => ?_) ?_
    · have e20 : u 20 = .bool false := hd 20 (by decide) (by kernel_rfl)
      have t5 : A.eval (.tmp 5) = .pointer (some ⟨w.heap.size, 0, none⟩) := (hv 5 (by kernel_rfl)).trans (by kernel_rfl)
      clear hd hv
      have s5 := evalT t5
      clear t5
      refine Or.inl ⟨e20, ?_⟩
      refine fk_run ?_
      go_simp
    refine And.intro (fun u W A hW hBW hd hv hr => ?_) ?_
    · have e20 : u 20 = .bool false := hd 20 (by decide) (by kernel_rfl)
      have e21 : u 21 = .pointer (some ⟨w.heap.size, 0, none⟩) := hd 21 (by decide) (by kernel_rfl)
      have t36 : A.eval (.tmp 36) = .pointer (some ⟨w.heap.size, 0, none⟩) := (hv 36 (by kernel_rfl)).trans ((by kernel_rfl : slotV _ _ _ u 36 = u 21).trans e21)
      have hW1 := below_undrew hW
      have hcl : W.cell? ⟨w.heap.size, 0, none⟩ = some (.int .i64 idx) := by rw [hW1.cell (p := ⟨w.heap.size, 0, none⟩) (by show w.heap.size < w1.heap.size; omega)]; exact C0.out
      clear hd hv
      have s36 := evalT t36
      clear t36
      refine Or.inl ⟨e20, ?_⟩
      refine fk_run ?_
      go_simp
    refine And.intro (fun u W A hW hBW hd hv hr => ?_) ?_
    · have e20 : u 20 = .bool false := hd 20 (by decide) (by kernel_rfl)
      have e22 : u 22 = .int .i64 idx := hd 22 (by decide) (by kernel_rfl)
      have t37 : A.eval (.tmp 37) = .int .i64 idx := (hv 37 (by kernel_rfl)).trans ((by kernel_rfl : slotV _ _ _ u 37 = u 22).trans e22)
      clear hd hv
      have s37 := evalT t37
      clear t37
      refine Or.inl ⟨e20, ?_⟩
      refine fk_run ?_
      go_simp
    refine And.intro (fun u W A hW hBW hd hv hr => ?_) ?_
    · have e20 : u 20 = .bool false := hd 20 (by decide) (by kernel_rfl)
      have e23 : u 23 = .bool true := hd 23 (by decide) (by kernel_rfl)
      have t35 : A.eval (.tmp 35) = .bool false := (hv 35 (by kernel_rfl)).trans ((by kernel_rfl : slotV _ _ _ u 35 = u 20).trans e20)
      have t38 : A.eval (.tmp 38) = .bool true := (hv 38 (by kernel_rfl)).trans ((by kernel_rfl : slotV _ _ _ u 38 = u 23).trans e23)
      clear hd hv
      have s35 := evalT t35
      have s38 := evalT t38
      clear t35 t38
      refine fk_run ?_
      go_simp
    refine And.intro (fun u W A hW hBW hd hv hr => ?_) ?_
    · have e24 : u 24 = .bool true := hd 24 (by decide) (by kernel_rfl)
      have t39 : A.eval (.tmp 39) = .bool true := (hv 39 (by kernel_rfl)).trans ((by kernel_rfl : slotV _ _ _ u 39 = u 24).trans e24)
      clear hd hv
      have s39 := evalT t39
      clear t39
      refine fk_run ?_
      go_simp
    refine And.intro (fun u W A hW hBW hd hv hr => ?_) ?_
    · have e25 : u 25 = .bool true := hd 25 (by decide) (by kernel_rfl)
      exact Or.inr ⟨e25, rfl, fun _ h => h⟩
    refine And.intro (fun u W A hW hBW hd hv hr => ?_) ?_
    · have e25 : u 25 = .bool true := hd 25 (by decide) (by kernel_rfl)
      have e26 : u 26 = undef := hd 26 (by decide) (by kernel_rfl)
      exact Or.inr ⟨e25, rfl, fun _ h => h⟩
    refine And.intro (fun u W A hW hBW hd hv hr => ?_) ?_
    · have e25 : u 25 = .bool true := hd 25 (by decide) (by kernel_rfl)
      exact Or.inr ⟨e25, rfl, fun _ h => h⟩
    refine And.intro (fun u W A hW hBW hd hv hr => ?_) ?_
    · have e25 : u 25 = .bool true := hd 25 (by decide) (by kernel_rfl)
      have e28 : u 28 = undef := hd 28 (by decide) (by kernel_rfl)
      exact Or.inr ⟨e25, rfl, fun _ h => h⟩
    refine And.intro (fun u W A hW hBW hd hv hr => ?_) ?_
    · have e25 : u 25 = .bool true := hd 25 (by decide) (by kernel_rfl)
      have e27 : u 27 = undef := hd 27 (by decide) (by kernel_rfl)
      have e29 : u 29 = undef := hd 29 (by decide) (by kernel_rfl)
      exact Or.inr ⟨e25, rfl, fun _ h => h⟩
    refine And.intro (fun u W A hW hBW hd hv hr => ?_) ?_
    · have e25 : u 25 = .bool true := hd 25 (by decide) (by kernel_rfl)
      have e30 : u 30 = undef := hd 30 (by decide) (by kernel_rfl)
      have t40 : A.eval (.tmp 40) = .bool true := (hv 40 (by kernel_rfl)).trans ((by kernel_rfl : slotV _ _ _ u 40 = u 25).trans e25)
      have t45 : A.eval (.tmp 45) = undef := (hv 45 (by kernel_rfl)).trans ((by kernel_rfl : slotV _ _ _ u 45 = u 30).trans e30)
      clear hd hv
      have s40 := evalT t40
      have s45 := evalT t45
      clear t40 t45
      refine fk_run ?_
      go_simp
    exact trivial
  intro u w2 hb2 hk2 hf2
  have e31 : u 31 = .bool true := hf2 31 (by decide) (by decide)
  have H2 := Lib.hid (HB1.out.trans ((below_undrew hb2).mono HB1.out.size))
  clear hf2 hb2 hk2
  simp only [List.take, List.drop, wpList, lexPut, Nat.zero_add, Nat.reduceAdd, e31, Act.put, List.setIfInBounds_toArray, List.set_cons_succ, List.set_cons_zero]
  clear e31
  go_wp2
  go_ret
  exact ⟨rfl, H2.out⟩
set_option maxRecDepth 100000 in
set_option maxHeartbeats 2000000 in
theorem ver_no6 (pub m : ByteArray) (idx : Int) (vs vp : Value) (sig path : List ByteArray) (w : World) (hpub : pub.size ≤ 1099511627776) (hm : m.size ≤ 1099511627776) (hs : IsStrC w vs sig) (hp : IsStrC w vp path) (hss : ∀ s ∈ sig, s.size ≤ 1099511627776) (hps : ∀ s ∈ path, s.size ≤ 1099511627776) (hT : Tabs w) (hA : sig.length = 18) (hB : path.length ≤ 8) (hC : sig.all isS = true) (hD : path.all isS = true) (hE : ¬ idx < 0) (hF : ((2 ^ path.length : Nat) : Int) ≤ idx) :
    Calls Tryz.prog 15 #[.string pub, .string m, .agg #[.int .i64 idx, vs, vp]] w fun e w' => e = .returned (.bool (false)) ∧ Below w.heap.size w w' := by
  have HT := Lib.hid hT
  have HSS := Lib.hid hss
  have HSP := Lib.hid hps
  obtain ⟨aos, cs, rfl⟩ := strc_form hs
  obtain ⟨aop, cp, rfl⟩ := strc_form hp
  have HSG := Lib.hid hs
  have HPT := Lib.hid hp
  clear hT hss hps hs hp
  rw [hA] at HSG
  rw [hA]
  have HLS := Lib.hid hA
  clear hA
  have hpm : path.length ≤ 9223372036854775807 := by obtain ⟨ao, c, e, h1, h2, _⟩ := HPT.out; have : c ≤ 9223372036854775807 := h2; omega
  obtain ⟨lp, hlp⟩ : ∃ lp, lp = path.length := ⟨_, rfl⟩
  rw [← hlp] at hpm hB hF
  rw [← hlp] at HPT
  rw [← hlp]
  have HLP := Lib.hid hlp
  clear hlp
  have hdB : decide ((8 : Int) < (lp : Int)) = false := decide_eq_false (by omega)
  have HC : Hid ((!(sig.all isS)) = false) := Lib.hid (by rw [hC]; rfl)
  clear hC
  have HD : Hid ((!(path.all isS)) = false) := Lib.hid (by rw [hD]; rfl)
  clear hD
  have hdE : decide (idx < 0) = false := decide_eq_false hE
  have hwp := wrap_pow lp (by omega)
  have hdF : decide (((2 ^ lp : Nat) : Int) ≤ idx) = true := decide_eq_true hF
  have hdF' : decide (((2 : Int) ^ lp) ≤ idx) = true := by
    have e : ((2 ^ lp : Nat) : Int) = (2 : Int) ^ lp := by simp
    rw [← e]; exact hdF
  clear hF
  obtain ⟨hbx, hB1, hz⟩ := box_one w #[.int .i64 idx, .slice aos 18 cs, .slice aop lp cp] 24
  have C0 : Hid ((w.alloc (.cells #[.int .i64 idx, .slice aos 18 cs, .slice aop lp cp] 24)).cell? ⟨w.heap.size, 0, none⟩ = some (.int .i64 idx)) := Lib.hid (by rw [cell_of_row _ _ 0 _ _ _ hbx]; rfl)
  have C1 : Hid ((w.alloc (.cells #[.int .i64 idx, .slice aos 18 cs, .slice aop lp cp] 24)).cell? ⟨w.heap.size, 1, none⟩ = some (.slice aos 18 cs)) := Lib.hid (by rw [cell_of_row _ _ 1 _ _ _ hbx]; rfl)
  have C2 : Hid ((w.alloc (.cells #[.int .i64 idx, .slice aos 18 cs, .slice aop lp cp] 24)).cell? ⟨w.heap.size, 2, none⟩ = some (.slice aop lp cp)) := Lib.hid (by rw [cell_of_row _ _ 2 _ _ _ hbx]; rfl)
  have HB1 := Lib.hid hB1
  have HSG1 := Lib.hid (HSG.out.on hB1)
  have HPT1 := Lib.hid (HPT.out.on hB1)
  have hz1 : w.heap.size < (w.alloc (.cells #[.int .i64 idx, .slice aos 18 cs, .slice aop lp cp] 24)).heap.size := by omega
  clear hbx hB1 hz
  go_enter Tryz.func15, Tryz.ntmps15
  go_wp2_with fail
  generalize hgw : w.alloc (.cells #[.int .i64 idx, .slice aos 18 cs, .slice aop lp cp] 24) = w1 at *
  clear hgw
  refine wp_region_res 32 (w1.heap.size) (fun ii u => [valF (.pointer (some ⟨w.heap.size, 1, none⟩)), valF (.slice aos 18 cs), valF (.int .i64 18), valF (.bool false), valF (.bool false), valF (.int .i64 (lp : Int)), valF (.bool false), valF (.bool false), valF (.bool false), valF (.func (.func 35) #[] #[]), valF (.pointer (some ⟨w.heap.size, 1, none⟩)), valF (.slice aos 18 cs), valF (.bool false), valF (.bool false), valF (.bool false), valF (.func (.func 35) #[] #[]), valF (.pointer (some ⟨w.heap.size, 2, none⟩)), valF (.slice aop lp cp), valF (.bool false), valF (.bool false), valF (.bool false), valF (.pointer (some ⟨w.heap.size, 0, none⟩)), valF (.int .i64 idx), valF (.bool false), valF (.bool false), valF (.bool false), valF (.pointer (some ⟨w.heap.size, 0, none⟩)), valF (.int .i64 idx), valF (.int .i64 (lp : Int)), valF (.int .i64 ((2 ^ lp : Nat) : Int)), valF (.bool true), valF (.bool true)].getD ii anyF) (fun jj ii => false) (fun jj bb => False) (by kernel_rfl) (by kernel_rfl) (by kernel_rfl) (by kernel_rfl) (by kernel_rfl) (Nat.le_refl _) ?_ ?_ ?_ ?_ ?_
  · intro ii u hii
    refine AllKStable.at ?_ ii
    exact ⟨.inl (valF_stable _ _), .inl (valF_stable _ _), .inl (valF_stable _ _), .inl (valF_stable _ _), .inl (valF_stable _ _), .inl (valF_stable _ _), .inl (valF_stable _ _), .inl (valF_stable _ _), .inl (valF_stable _ _), .inl (valF_stable _ _), .inl (valF_stable _ _), .inl (valF_stable _ _), .inl (valF_stable _ _), .inl (valF_stable _ _), .inl (valF_stable _ _), .inl (valF_stable _ _), .inl (valF_stable _ _), .inl (valF_stable _ _), .inl (valF_stable _ _), .inl (valF_stable _ _), .inl (valF_stable _ _), .inl (valF_stable _ _), .inl (valF_stable _ _), .inl (valF_stable _ _), .inl (valF_stable _ _), .inl (valF_stable _ _), .inl (valF_stable _ _), .inl (valF_stable _ _), .inl (valF_stable _ _), .inl (valF_stable _ _), .inl (valF_stable _ _), .inl (valF_stable _ _), trivial⟩
  · exact fun _ _ _ _ _ => rfl
  · exact ⟨fun _ _ _ h => h.elim, fun _ _ _ _ _ h => h.elim⟩
  · refine And.intro (fun u W A hW hBW hd hv hr => ?_) ?_
    · have t5 : A.eval (.tmp 5) = .pointer (some ⟨w.heap.size, 0, none⟩) := (hv 5 (by kernel_rfl)).trans (by kernel_rfl)
      clear hd hv
      have s5 := evalT t5
      clear t5
      refine fk_run ?_
      go_simp
    refine And.intro (fun u W A hW hBW hd hv hr => ?_) ?_
    · have e0 : u 0 = .pointer (some ⟨w.heap.size, 1, none⟩) := hd 0 (by decide) (by kernel_rfl)
      have t15 : A.eval (.tmp 15) = .pointer (some ⟨w.heap.size, 1, none⟩) := (hv 15 (by kernel_rfl)).trans ((by kernel_rfl : slotV _ _ _ u 15 = u 0).trans e0)
      have hW1 := below_undrew hW
      have hcl : W.cell? ⟨w.heap.size, 1, none⟩ = some (.slice aos 18 cs) := by rw [hW1.cell (p := ⟨w.heap.size, 1, none⟩) (by show w.heap.size < w1.heap.size; omega)]; exact C1.out
      clear hd hv
      have s15 := evalT t15
      clear t15
      refine fk_run ?_
      go_simp
    refine And.intro (fun u W A hW hBW hd hv hr => ?_) ?_
    · have e1 : u 1 = .slice aos 18 cs := hd 1 (by decide) (by kernel_rfl)
      have t16 : A.eval (.tmp 16) = .slice aos 18 cs := (hv 16 (by kernel_rfl)).trans ((by kernel_rfl : slotV _ _ _ u 16 = u 1).trans e1)
      clear hd hv
      have s16 := evalT t16
      clear t16
      refine fk_run ?_
      go_simp
    refine And.intro (fun u W A hW hBW hd hv hr => ?_) ?_
    · have e2 : u 2 = .int .i64 18 := hd 2 (by decide) (by kernel_rfl)
      have t17 : A.eval (.tmp 17) = .int .i64 18 := (hv 17 (by kernel_rfl)).trans ((by kernel_rfl : slotV _ _ _ u 17 = u 2).trans e2)
      clear hd hv
      have s17 := evalT t17
      clear t17
      refine fk_run ?_
      go_simp
    refine And.intro (fun u W A hW hBW hd hv hr => ?_) ?_
    · have e3 : u 3 = .bool false := hd 3 (by decide) (by kernel_rfl)
      have t18 : A.eval (.tmp 18) = .bool false := (hv 18 (by kernel_rfl)).trans ((by kernel_rfl : slotV _ _ _ u 18 = u 3).trans e3)
      clear hd hv
      have s18 := evalT t18
      clear t18
      refine fk_run ?_
      go_simp
    refine And.intro (fun u W A hW hBW hd hv hr => ?_) ?_
    · have e4 : u 4 = .bool false := hd 4 (by decide) (by kernel_rfl)
      have t7 : A.eval (.tmp 7) = .int .i64 (lp : Int) := (hv 7 (by kernel_rfl)).trans (by kernel_rfl)
      clear hd hv
      have s7 := evalT t7
      clear t7
      refine Or.inl ⟨e4, ?_⟩
      refine fk_run ?_
      go_simp
    refine And.intro (fun u W A hW hBW hd hv hr => ?_) ?_
    · have e4 : u 4 = .bool false := hd 4 (by decide) (by kernel_rfl)
      have e5 : u 5 = .int .i64 (lp : Int) := hd 5 (by decide) (by kernel_rfl)
      have t20 : A.eval (.tmp 20) = .int .i64 (lp : Int) := (hv 20 (by kernel_rfl)).trans ((by kernel_rfl : slotV _ _ _ u 20 = u 5).trans e5)
      clear hd hv
      have s20 := evalT t20
      clear t20
      refine Or.inl ⟨e4, ?_⟩
      refine fk_run ?_
      go_simp
    refine And.intro (fun u W A hW hBW hd hv hr => ?_) ?_
    · have e4 : u 4 = .bool false := hd 4 (by decide) (by kernel_rfl)
      have e6 : u 6 = .bool false := hd 6 (by decide) (by kernel_rfl)
      have t19 : A.eval (.tmp 19) = .bool false := (hv 19 (by kernel_rfl)).trans ((by kernel_rfl : slotV _ _ _ u 19 = u 4).trans e4)
      have t21 : A.eval (.tmp 21) = .bool false := (hv 21 (by kernel_rfl)).trans ((by kernel_rfl : slotV _ _ _ u 21 = u 6).trans e6)
      clear hd hv
      have s19 := evalT t19
      have s21 := evalT t21
      clear t19 t21
      refine fk_run ?_
      go_simp
    refine And.intro (fun u W A hW hBW hd hv hr => ?_) ?_
    · have e7 : u 7 = .bool false := hd 7 (by decide) (by kernel_rfl)
      have t22 : A.eval (.tmp 22) = .bool false := (hv 22 (by kernel_rfl)).trans ((by kernel_rfl : slotV _ _ _ u 22 = u 7).trans e7)
      clear hd hv
      have s22 := evalT t22
      clear t22
      refine fk_run ?_
      go_simp
    refine And.intro (fun u W A hW hBW hd hv hr => ?_) ?_
    · have e8 : u 8 = .bool false := hd 8 (by decide) (by kernel_rfl)
      have t8 : A.eval (.tmp 8) = .func (.func 35) #[] #[] := (hv 8 (by kernel_rfl)).trans (by kernel_rfl)
      clear hd hv
      have s8 := evalT t8
      clear t8
      refine Or.inl ⟨e8, ?_⟩
      refine fk_run ?_
      go_simp
    refine And.intro (fun u W A hW hBW hd hv hr => ?_) ?_
    · have e8 : u 8 = .bool false := hd 8 (by decide) (by kernel_rfl)
      have t5 : A.eval (.tmp 5) = .pointer (some ⟨w.heap.size, 0, none⟩) := (hv 5 (by kernel_rfl)).trans (by kernel_rfl)
      clear hd hv
      have s5 := evalT t5
      clear t5
      refine Or.inl ⟨e8, ?_⟩
      refine fk_run ?_
      go_simp
    refine And.intro (fun u W A hW hBW hd hv hr => ?_) ?_
    · have e8 : u 8 = .bool false := hd 8 (by decide) (by kernel_rfl)
      have e10 : u 10 = .pointer (some ⟨w.heap.size, 1, none⟩) := hd 10 (by decide) (by kernel_rfl)
      have t25 : A.eval (.tmp 25) = .pointer (some ⟨w.heap.size, 1, none⟩) := (hv 25 (by kernel_rfl)).trans ((by kernel_rfl : slotV _ _ _ u 25 = u 10).trans e10)
      have hW1 := below_undrew hW
      have hcl : W.cell? ⟨w.heap.size, 1, none⟩ = some (.slice aos 18 cs) := by rw [hW1.cell (p := ⟨w.heap.size, 1, none⟩) (by show w.heap.size < w1.heap.size; omega)]; exact C1.out
      clear hd hv
      have s25 := evalT t25
      clear t25
      refine Or.inl ⟨e8, ?_⟩
      refine fk_run ?_
      go_simp
    refine And.intro (fun u W A hW hBW hd hv hr => ?_) ?_
    · have e8 : u 8 = .bool false := hd 8 (by decide) (by kernel_rfl)
      have e9 : u 9 = .func (.func 35) #[] #[] := hd 9 (by decide) (by kernel_rfl)
      have e11 : u 11 = .slice aos 18 cs := hd 11 (by decide) (by kernel_rfl)
      have t24 : A.eval (.tmp 24) = .func (.func 35) #[] #[] := (hv 24 (by kernel_rfl)).trans ((by kernel_rfl : slotV _ _ _ u 24 = u 9).trans e9)
      have t26 : A.eval (.tmp 26) = .slice aos 18 cs := (hv 26 (by kernel_rfl)).trans ((by kernel_rfl : slotV _ _ _ u 26 = u 11).trans e11)
      have hW1 := below_undrew hW
      clear hd hv
      have s24 := evalT t24
      have s26 := evalT t26
      clear t24 t26
      refine Or.inl ⟨e8, ?_⟩
      refine fk_enter (f := 35) (args := #[.slice aos 18 cs]) (by go_simp) (fk_val ?_)
      have hod := sodd_calls _ sig W (HSG1.out.on hW1) HSS.out
      rw [HC.out] at hod
      exact hod
    refine And.intro (fun u W A hW hBW hd hv hr => ?_) ?_
    · have e8 : u 8 = .bool false := hd 8 (by decide) (by kernel_rfl)
      have e12 : u 12 = .bool false := hd 12 (by decide) (by kernel_rfl)
      have t23 : A.eval (.tmp 23) = .bool false := (hv 23 (by kernel_rfl)).trans ((by kernel_rfl : slotV _ _ _ u 23 = u 8).trans e8)
      have t27 : A.eval (.tmp 27) = .bool false := (hv 27 (by kernel_rfl)).trans ((by kernel_rfl : slotV _ _ _ u 27 = u 12).trans e12)
      clear hd hv
      have s23 := evalT t23
      have s27 := evalT t27
      clear t23 t27
      refine fk_run ?_
      go_simp
    refine And.intro (fun u W A hW hBW hd hv hr => ?_) ?_
    · have e13 : u 13 = .bool false := hd 13 (by decide) (by kernel_rfl)
      have t28 : A.eval (.tmp 28) = .bool false := (hv 28 (by kernel_rfl)).trans ((by kernel_rfl : slotV _ _ _ u 28 = u 13).trans e13)
      clear hd hv
      have s28 := evalT t28
      clear t28
      refine fk_run ?_
      go_simp
    refine And.intro (fun u W A hW hBW hd hv hr => ?_) ?_
    · have e14 : u 14 = .bool false := hd 14 (by decide) (by kernel_rfl)
      have t8 : A.eval (.tmp 8) = .func (.func 35) #[] #[] := (hv 8 (by kernel_rfl)).trans (by kernel_rfl)
      clear hd hv
      have s8 := evalT t8
      clear t8
      refine Or.inl ⟨e14, ?_⟩
      refine fk_run ?_
      go_simp
    refine And.intro (fun u W A hW hBW hd hv hr => ?_) ?_
    · have e14 : u 14 = .bool false := hd 14 (by decide) (by kernel_rfl)
      have t5 : A.eval (.tmp 5) = .pointer (some ⟨w.heap.size, 0, none⟩) := (hv 5 (by kernel_rfl)).trans (by kernel_rfl)
      clear hd hv
      have s5 := evalT t5
      clear t5
      refine Or.inl ⟨e14, ?_⟩
      refine fk_run ?_
      go_simp
    refine And.intro (fun u W A hW hBW hd hv hr => ?_) ?_
    · have e14 : u 14 = .bool false := hd 14 (by decide) (by kernel_rfl)
      have e16 : u 16 = .pointer (some ⟨w.heap.size, 2, none⟩) := hd 16 (by decide) (by kernel_rfl)
      have t31 : A.eval (.tmp 31) = .pointer (some ⟨w.heap.size, 2, none⟩) := (hv 31 (by kernel_rfl)).trans ((by kernel_rfl : slotV _ _ _ u 31 = u 16).trans e16)
      have hW1 := below_undrew hW
      have hcl : W.cell? ⟨w.heap.size, 2, none⟩ = some (.slice aop lp cp) := by rw [hW1.cell (p := ⟨w.heap.size, 2, none⟩) (by show w.heap.size < w1.heap.size; omega)]; exact C2.out
      clear hd hv
      have s31 := evalT t31
      clear t31
      refine Or.inl ⟨e14, ?_⟩
      refine fk_run ?_
      go_simp
    refine And.intro (fun u W A hW hBW hd hv hr => ?_) ?_
    · have e14 : u 14 = .bool false := hd 14 (by decide) (by kernel_rfl)
      have e15 : u 15 = .func (.func 35) #[] #[] := hd 15 (by decide) (by kernel_rfl)
      have e17 : u 17 = .slice aop lp cp := hd 17 (by decide) (by kernel_rfl)
      have t30 : A.eval (.tmp 30) = .func (.func 35) #[] #[] := (hv 30 (by kernel_rfl)).trans ((by kernel_rfl : slotV _ _ _ u 30 = u 15).trans e15)
      have t32 : A.eval (.tmp 32) = .slice aop lp cp := (hv 32 (by kernel_rfl)).trans ((by kernel_rfl : slotV _ _ _ u 32 = u 17).trans e17)
      have hW1 := below_undrew hW
      clear hd hv
      have s30 := evalT t30
      have s32 := evalT t32
      clear t30 t32
      refine Or.inl ⟨e14, ?_⟩
      refine fk_enter (f := 35) (args := #[.slice aop lp cp]) (by go_simp) (fk_val ?_)
      have hod := sodd_calls _ path W (HPT1.out.on hW1) HSP.out
      rw [HD.out] at hod
      exact hod
    refine And.intro (fun u W A hW hBW hd hv hr => ?_) ?_
    · have e14 : u 14 = .bool false := hd 14 (by decide) (by kernel_rfl)
      have e18 : u 18 = .bool false := hd 18 (by decide) (by kernel_rfl)
      have t29 : A.eval (.tmp 29) = .bool false := (hv 29 (by kernel_rfl)).trans ((by kernel_rfl : slotV _ _ _ u 29 = u 14).trans e14)
      have t33 : A.eval (.tmp 33) = .bool false := (hv 33 (by kernel_rfl)).trans ((by kernel_rfl : slotV _ _ _ u 33 = u 18).trans e18)
      clear hd hv
      have s29 := evalT t29
      have s33 := evalT t33
      clear t29 t33
      refine fk_run ?_
      go_simp
    refine And.intro (fun u W A hW hBW hd hv hr => ?_) ?_
    · have e19 : u 19 = .bool false := hd 19 (by decide) (by kernel_rfl)
      have t34 : A.eval (.tmp 34) = .bool false := (hv 34 (by kernel_rfl)).trans ((by kernel_rfl : slotV _ _ _ u 34 = u 19).trans e19)
      clear hd hv
      have s34 := evalT t34
      clear t34
      refine fk_run ?_
      go_simp
    refine And.intro (fun u W A hW hBW hd hv hr => ?_) ?_
    · have e20 : u 20 = .bool false := hd 20 (by decide) (by kernel_rfl)
      have t5 : A.eval (.tmp 5) = .pointer (some ⟨w.heap.size, 0, none⟩) := (hv 5 (by kernel_rfl)).trans (by kernel_rfl)
      clear hd hv
      have s5 := evalT t5
      clear t5
      refine Or.inl ⟨e20, ?_⟩
      refine fk_run ?_
      go_simp
    refine And.intro (fun u W A hW hBW hd hv hr => ?_) ?_
    · have e20 : u 20 = .bool false := hd 20 (by decide) (by kernel_rfl)
      have e21 : u 21 = .pointer (some ⟨w.heap.size, 0, none⟩) := hd 21 (by decide) (by kernel_rfl)
      have t36 : A.eval (.tmp 36) = .pointer (some ⟨w.heap.size, 0, none⟩) := (hv 36 (by kernel_rfl)).trans ((by kernel_rfl : slotV _ _ _ u 36 = u 21).trans e21)
      have hW1 := below_undrew hW
      have hcl : W.cell? ⟨w.heap.size, 0, none⟩ = some (.int .i64 idx) := by rw [hW1.cell (p := ⟨w.heap.size, 0, none⟩) (by show w.heap.size < w1.heap.size; omega)]; exact C0.out
      clear hd hv
      have s36 := evalT t36
      clear t36
      refine Or.inl ⟨e20, ?_⟩
      refine fk_run ?_
      go_simp
    refine And.intro (fun u W A hW hBW hd hv hr => ?_) ?_
    · have e20 : u 20 = .bool false := hd 20 (by decide) (by kernel_rfl)
      have e22 : u 22 = .int .i64 idx := hd 22 (by decide) (by kernel_rfl)
      have t37 : A.eval (.tmp 37) = .int .i64 idx := (hv 37 (by kernel_rfl)).trans ((by kernel_rfl : slotV _ _ _ u 37 = u 22).trans e22)
      clear hd hv
      have s37 := evalT t37
      clear t37
      refine Or.inl ⟨e20, ?_⟩
      refine fk_run ?_
      go_simp
    refine And.intro (fun u W A hW hBW hd hv hr => ?_) ?_
    · have e20 : u 20 = .bool false := hd 20 (by decide) (by kernel_rfl)
      have e23 : u 23 = .bool false := hd 23 (by decide) (by kernel_rfl)
      have t35 : A.eval (.tmp 35) = .bool false := (hv 35 (by kernel_rfl)).trans ((by kernel_rfl : slotV _ _ _ u 35 = u 20).trans e20)
      have t38 : A.eval (.tmp 38) = .bool false := (hv 38 (by kernel_rfl)).trans ((by kernel_rfl : slotV _ _ _ u 38 = u 23).trans e23)
      clear hd hv
      have s35 := evalT t35
      have s38 := evalT t38
      clear t35 t38
      refine fk_run ?_
      go_simp
    refine And.intro (fun u W A hW hBW hd hv hr => ?_) ?_
    · have e24 : u 24 = .bool false := hd 24 (by decide) (by kernel_rfl)
      have t39 : A.eval (.tmp 39) = .bool false := (hv 39 (by kernel_rfl)).trans ((by kernel_rfl : slotV _ _ _ u 39 = u 24).trans e24)
      clear hd hv
      have s39 := evalT t39
      clear t39
      refine fk_run ?_
      go_simp
    refine And.intro (fun u W A hW hBW hd hv hr => ?_) ?_
    · have e25 : u 25 = .bool false := hd 25 (by decide) (by kernel_rfl)
      have t5 : A.eval (.tmp 5) = .pointer (some ⟨w.heap.size, 0, none⟩) := (hv 5 (by kernel_rfl)).trans (by kernel_rfl)
      clear hd hv
      have s5 := evalT t5
      clear t5
      refine Or.inl ⟨e25, ?_⟩
      refine fk_run ?_
      go_simp
    refine And.intro (fun u W A hW hBW hd hv hr => ?_) ?_
    · have e25 : u 25 = .bool false := hd 25 (by decide) (by kernel_rfl)
      have e26 : u 26 = .pointer (some ⟨w.heap.size, 0, none⟩) := hd 26 (by decide) (by kernel_rfl)
      have t41 : A.eval (.tmp 41) = .pointer (some ⟨w.heap.size, 0, none⟩) := (hv 41 (by kernel_rfl)).trans ((by kernel_rfl : slotV _ _ _ u 41 = u 26).trans e26)
      have hW1 := below_undrew hW
      have hcl : W.cell? ⟨w.heap.size, 0, none⟩ = some (.int .i64 idx) := by rw [hW1.cell (p := ⟨w.heap.size, 0, none⟩) (by show w.heap.size < w1.heap.size; omega)]; exact C0.out
      clear hd hv
      have s41 := evalT t41
      clear t41
      refine Or.inl ⟨e25, ?_⟩
      refine fk_run ?_
      go_simp
    refine And.intro (fun u W A hW hBW hd hv hr => ?_) ?_
    · have e25 : u 25 = .bool false := hd 25 (by decide) (by kernel_rfl)
      have t7 : A.eval (.tmp 7) = .int .i64 (lp : Int) := (hv 7 (by kernel_rfl)).trans (by kernel_rfl)
      clear hd hv
      have s7 := evalT t7
      clear t7
      refine Or.inl ⟨e25, ?_⟩
      refine fk_run ?_
      go_simp
    refine And.intro (fun u W A hW hBW hd hv hr => ?_) ?_
    · have e25 : u 25 = .bool false := hd 25 (by decide) (by kernel_rfl)
      have e28 : u 28 = .int .i64 (lp : Int) := hd 28 (by decide) (by kernel_rfl)
      have t43 : A.eval (.tmp 43) = .int .i64 (lp : Int) := (hv 43 (by kernel_rfl)).trans ((by kernel_rfl : slotV _ _ _ u 43 = u 28).trans e28)
      clear hd hv
      have s43 := evalT t43
      clear t43
      refine Or.inl ⟨e25, ?_⟩
      refine fk_run ?_
      go_simp
      exact wrap_powI lp (by omega)
    refine And.intro (fun u W A hW hBW hd hv hr => ?_) ?_
    · have e25 : u 25 = .bool false := hd 25 (by decide) (by kernel_rfl)
      have e27 : u 27 = .int .i64 idx := hd 27 (by decide) (by kernel_rfl)
      have e29 : u 29 = .int .i64 ((2 ^ lp : Nat) : Int) := hd 29 (by decide) (by kernel_rfl)
      have t42 : A.eval (.tmp 42) = .int .i64 idx := (hv 42 (by kernel_rfl)).trans ((by kernel_rfl : slotV _ _ _ u 42 = u 27).trans e27)
      have t44 : A.eval (.tmp 44) = .int .i64 ((2 ^ lp : Nat) : Int) := (hv 44 (by kernel_rfl)).trans ((by kernel_rfl : slotV _ _ _ u 44 = u 29).trans e29)
      clear hd hv
      have s42 := evalT t42
      have s44 := evalT t44
      clear t42 t44
      refine Or.inl ⟨e25, ?_⟩
      refine fk_run ?_
      go_simp
    refine And.intro (fun u W A hW hBW hd hv hr => ?_) ?_
    · have e25 : u 25 = .bool false := hd 25 (by decide) (by kernel_rfl)
      have e30 : u 30 = .bool true := hd 30 (by decide) (by kernel_rfl)
      have t40 : A.eval (.tmp 40) = .bool false := (hv 40 (by kernel_rfl)).trans ((by kernel_rfl : slotV _ _ _ u 40 = u 25).trans e25)
      have t45 : A.eval (.tmp 45) = .bool true := (hv 45 (by kernel_rfl)).trans ((by kernel_rfl : slotV _ _ _ u 45 = u 30).trans e30)
      clear hd hv
      have s40 := evalT t40
      have s45 := evalT t45
      clear t40 t45
      refine fk_run ?_
      go_simp
    exact trivial
  intro u w2 hb2 hk2 hf2
  have e31 : u 31 = .bool true := hf2 31 (by decide) (by decide)
  have H2 := Lib.hid (HB1.out.trans ((below_undrew hb2).mono HB1.out.size))
  clear hf2 hb2 hk2
  simp only [List.take, List.drop, wpList, lexPut, Nat.zero_add, Nat.reduceAdd, e31, Act.put, List.setIfInBounds_toArray, List.set_cons_succ, List.set_cons_zero]
  clear e31
  go_wp2
  go_ret
  exact ⟨rfl, H2.out⟩
end Go.Proofs.YtpogffdbencfnaaGreatDoor

namespace Go.Proofs.YtpogffdbencfnaaGreatDoor
open Go Go.RowKit Go.Shelf
attribute [local go_sem] Oper.semAt_some

/-- the ends under way -/
def EndAt (ob : Nat) (T : TypeId) (W1 : World) (l : List ByteArray) (W : World) : Prop :=
  ∃ v, W.heap[ob]? = some (.cells #[v] T (0, 0)) ∧ Own (ob + 1) W v l ∧ Below ob W1 W
theorem endAt_from {β : Type} {ob : Nat} {T : TypeId} {W1 : World} (f : β → List ByteArray) {B : Nat} (hB : ob + 1 ≤ B) (hob : ob ≤ W1.heap.size) : OwnFrom B (fun s W => EndAt ob T W1 (f s) W) := by
  rintro s W W' row ⟨v, h1, h2, h3⟩ hg hr
  have hk : ∀ k cs t fr, W.heap[k]? = some (Obj.cells cs t fr) → W'.heap[k]? = W.heap[k]? := fun k cs t fr hk => hg.block k (Array.getElem?_eq_some_iff.1 hk).1 (fun e => by
    obtain ⟨_, o, ho, hc⟩ := hr k e.symm
    rw [hk] at ho; cases ho; cases hc)
  have hlt : ob < W.heap.size := (Array.getElem?_eq_some_iff.1 h1).1
  have hb : Below (ob + 1) W W' := ⟨hg.os, hg.tape, hg.output, hg.size, fun k hk2 => hg.block k (by omega) (fun e => by have := (hr k e.symm).1; omega)⟩
  refine ⟨v, (hk _ _ _ _ h1).trans h1, ?_, h3.trans (hb.mono (by omega))⟩
  exact ownF_st (ob + 1) (ob + 1) (f s) W W' v hb (fun b hb2 => by
    obtain ⟨cs, t, fr, he⟩ := own_cells h2 hb2
    exact hk b cs t fr he) h2
theorem ends_map (m : ByteArray) (sig : List ByteArray) : (digP 18).map (fun x => chainS (sig.getD x.val ByteArray.empty) (15 - digA m x.val)) = sealEnds m sig := digP_map (fun k => chainS (sig.getD k ByteArray.empty) (15 - (digsT m).getD k 0))
theorem chain16 {s : ByteArray} (h : s.size = 16) (n : Nat) : (chainS s n).size = 16 := by
  cases n with
  | zero => exact h
  | succ n => exact sumS_size _
theorem ends16 (m : ByteArray) {sig : List ByteArray} (h : sig.all isS = true) (hl : sig.length = 18) : ∀ s ∈ sealEnds m sig, s.size = 16 := by
  intro s hs
  unfold sealEnds at hs
  obtain ⟨k, hk, rfl⟩ := List.mem_map.1 hs
  have hk := List.mem_range.1 hk
  refine chain16 (isS_size (List.all_eq_true.1 h _ ?_)) _
  have hk2 : k < sig.length := by omega
  rw [show sig.getD k ByteArray.empty = sig[k] by simp [List.getD, hk2]]
  exact List.getElem_mem hk2
theorem heap_two (w : World) (d e : Obj) :
    ((w.alloc d).alloc e).heap.size = w.heap.size + 2 ∧ ((w.alloc d).alloc e).heap[w.heap.size]? = some d ∧ ((w.alloc d).alloc e).heap[w.heap.size + 1]? = some e ∧ Below w.heap.size w ((w.alloc d).alloc e) := by
  refine ⟨by rw [World.size_alloc, World.size_alloc], ?_, ?_, ((Below.refl _ w).alloc (Nat.le_refl _) d).alloc (by simp) e⟩
  · show ((w.heap.push d).push e)[w.heap.size]? = _
    rw [push_old _ _ _ (by simp), push_at _ _ _ rfl]
  · show ((w.heap.push d).push e)[w.heap.size + 1]? = _
    rw [push_at _ _ _ (by simp)]
set_option maxRecDepth 100000 in
set_option maxHeartbeats 2000000 in
theorem ver_ok (pub m : ByteArray) (idx : Int) (vs vp : Value) (sig path : List ByteArray) (w : World) (hpub : pub.size ≤ 1099511627776) (hm : m.size ≤ 1099511627776) (hs : IsStrC w vs sig) (hp : IsStrC w vp path) (hss : ∀ s ∈ sig, s.size ≤ 1099511627776) (hps : ∀ s ∈ path, s.size ≤ 1099511627776) (hT : Tabs w) (hA : sig.length = 18) (hB : path.length ≤ 8) (hC : sig.all isS = true) (hD : path.all isS = true) (hE : ¬ idx < 0) (hF : ¬ ((2 ^ path.length : Nat) : Int) ≤ idx) :
    Calls Tryz.prog 15 #[.string pub, .string m, .agg #[.int .i64 idx, vs, vp]] w fun e w' => e = .returned (.bool (verT pub m idx sig path)) ∧ Below w.heap.size w w' := by
  have HT := Lib.hid hT
  have HSS := Lib.hid hss
  have HSP := Lib.hid hps
  obtain ⟨aos, cs, rfl⟩ := strc_form hs
  obtain ⟨aop, cp, rfl⟩ := strc_form hp
  have HSG := Lib.hid hs
  have HPT := Lib.hid hp
  clear hT hss hps hs hp
  rw [ver_yes hA hB hC hD (by omega) (by omega)]
  have HEN := Lib.hid (ends16 m hC hA)
  have HS16 : Hid (∀ k, (hk : k < 18) → (sig.getD k ByteArray.empty).size = 16) := Lib.hid (fun k hk => isS_size (List.all_eq_true.1 hC _ (by
    have hk2 : k < sig.length := by omega
    rw [show sig.getD k ByteArray.empty = sig[k] by simp [List.getD, hk2]]
    exact List.getElem_mem hk2)))
  have HLEN : Hid ((sealEnds m sig).length = 18) := Lib.hid (by simp [sealEnds])
  have HLS0 := Lib.hid hA
  have hlp8 : path.length ≤ 8 := hB
  have HPATHB := Lib.hid hB
  rw [hA] at HSG
  rw [hA]
  have HLS := Lib.hid hA
  clear hA
  have hpm : path.length ≤ 9223372036854775807 := by obtain ⟨ao, c, e, h1, h2, _⟩ := HPT.out; have : c ≤ 9223372036854775807 := h2; omega
  obtain ⟨lp, hlp⟩ : ∃ lp, lp = path.length := ⟨_, rfl⟩
  rw [← hlp] at hpm hB hF hlp8
  rw [← hlp] at HPT
  rw [← hlp]
  have HLP := Lib.hid hlp
  clear hlp
  have hdB : decide ((8 : Int) < (lp : Int)) = false := decide_eq_false (by omega)
  have HC : Hid ((!(sig.all isS)) = false) := Lib.hid (by rw [hC]; rfl)
  clear hC
  have HD : Hid ((!(path.all isS)) = false) := Lib.hid (by rw [hD]; rfl)
  clear hD
  have hdE : decide (idx < 0) = false := decide_eq_false hE
  have hwp := wrap_pow lp (by omega)
  have hdF : decide (((2 ^ lp : Nat) : Int) ≤ idx) = false := decide_eq_false hF
  have hdF' : decide (((2 : Int) ^ lp) ≤ idx) = false := by
    have e : ((2 ^ lp : Nat) : Int) = (2 : Int) ^ lp := by simp
    rw [← e]; exact hdF
  obtain ⟨hbx, hB1, hz⟩ := box_one w #[.int .i64 idx, .slice aos 18 cs, .slice aop lp cp] 24
  have C0 : Hid ((w.alloc (.cells #[.int .i64 idx, .slice aos 18 cs, .slice aop lp cp] 24)).cell? ⟨w.heap.size, 0, none⟩ = some (.int .i64 idx)) := Lib.hid (by rw [cell_of_row _ _ 0 _ _ _ hbx]; rfl)
  have C1 : Hid ((w.alloc (.cells #[.int .i64 idx, .slice aos 18 cs, .slice aop lp cp] 24)).cell? ⟨w.heap.size, 1, none⟩ = some (.slice aos 18 cs)) := Lib.hid (by rw [cell_of_row _ _ 1 _ _ _ hbx]; rfl)
  have C2 : Hid ((w.alloc (.cells #[.int .i64 idx, .slice aos 18 cs, .slice aop lp cp] 24)).cell? ⟨w.heap.size, 2, none⟩ = some (.slice aop lp cp)) := Lib.hid (by rw [cell_of_row _ _ 2 _ _ _ hbx]; rfl)
  have HB1 := Lib.hid hB1
  have HSG1 := Lib.hid (HSG.out.on hB1)
  have HPT1 := Lib.hid (HPT.out.on hB1)
  have hz1 : w.heap.size < (w.alloc (.cells #[.int .i64 idx, .slice aos 18 cs, .slice aop lp cp] 24)).heap.size := by omega
  clear hbx hB1 hz
  refine calls_of_wp_marks (n := 5) Tryz.func15 rfl ?_
  simp only [Tryz.ntmps15, List.size_toArray, List.length_cons, List.length_nil, Nat.reduceAdd, Nat.reduceSub, Array.replicate_succ, Array.replicate_zero, List.push_toArray, List.append_toArray, List.nil_append, List.cons_append]
  go_wp2_with fail
  have HX1 : Hid ((w.alloc (.cells #[.int .i64 idx, .slice aos 18 cs, .slice aop lp cp] 24)).heap[w.heap.size]? = some (.cells #[.int .i64 idx, .slice aos 18 cs, .slice aop lp cp] 24 (0, 0))) := Lib.hid (by rw [World.alloc_heap_new])
  generalize hgw : w.alloc (.cells #[.int .i64 idx, .slice aos 18 cs, .slice aop lp cp] 24) = w1 at *
  clear hgw
  refine wp_normal ?_
  refine wp_region_res 32 (w1.heap.size) (fun ii u => [valF (.pointer (some ⟨w.heap.size, 1, none⟩)), valF (.slice aos 18 cs), valF (.int .i64 18), valF (.bool false), valF (.bool false), valF (.int .i64 (lp : Int)), valF (.bool false), valF (.bool false), valF (.bool false), valF (.func (.func 35) #[] #[]), valF (.pointer (some ⟨w.heap.size, 1, none⟩)), valF (.slice aos 18 cs), valF (.bool false), valF (.bool false), valF (.bool false), valF (.func (.func 35) #[] #[]), valF (.pointer (some ⟨w.heap.size, 2, none⟩)), valF (.slice aop lp cp), valF (.bool false), valF (.bool false), valF (.bool false), valF (.pointer (some ⟨w.heap.size, 0, none⟩)), valF (.int .i64 idx), valF (.bool false), valF (.bool false), valF (.bool false), valF (.pointer (some ⟨w.heap.size, 0, none⟩)), valF (.int .i64 idx), valF (.int .i64 (lp : Int)), valF (.int .i64 ((2 ^ lp : Nat) : Int)), valF (.bool false), valF (.bool false)].getD ii anyF) (fun jj ii => false) (fun jj bb => False) (by kernel_rfl) (by kernel_rfl) (by kernel_rfl) (by kernel_rfl) (by kernel_rfl) (Nat.le_refl _) ?_ ?_ ?_ ?_ ?_
  · intro ii u hii
    refine AllKStable.at ?_ ii
    exact ⟨.inl (valF_stable _ _), .inl (valF_stable _ _), .inl (valF_stable _ _), .inl (valF_stable _ _), .inl (valF_stable _ _), .inl (valF_stable _ _), .inl (valF_stable _ _), .inl (valF_stable _ _), .inl (valF_stable _ _), .inl (valF_stable _ _), .inl (valF_stable _ _), .inl (valF_stable _ _), .inl (valF_stable _ _), .inl (valF_stable _ _), .inl (valF_stable _ _), .inl (valF_stable _ _), .inl (valF_stable _ _), .inl (valF_stable _ _), .inl (valF_stable _ _), .inl (valF_stable _ _), .inl (valF_stable _ _), .inl (valF_stable _ _), .inl (valF_stable _ _), .inl (valF_stable _ _), .inl (valF_stable _ _), .inl (valF_stable _ _), .inl (valF_stable _ _), .inl (valF_stable _ _), .inl (valF_stable _ _), .inl (valF_stable _ _), .inl (valF_stable _ _), .inl (valF_stable _ _), trivial⟩
  · exact fun _ _ _ _ _ => rfl
  · exact ⟨fun _ _ _ h => h.elim, fun _ _ _ _ _ h => h.elim⟩
  · refine And.intro (fun u W A hW hBW hd hv hr => ?_) ?_
    · have t5 : A.eval (.tmp 5) = .pointer (some ⟨w.heap.size, 0, none⟩) := (hv 5 (by kernel_rfl)).trans (by kernel_rfl)
      clear hd hv
      have s5 := evalT t5
      clear t5
      refine fk_run ?_
      go_simp
    refine And.intro (fun u W A hW hBW hd hv hr => ?_) ?_
    · have e0 : u 0 = .pointer (some ⟨w.heap.size, 1, none⟩) := hd 0 (by decide) (by kernel_rfl)
      have t15 : A.eval (.tmp 15) = .pointer (some ⟨w.heap.size, 1, none⟩) := (hv 15 (by kernel_rfl)).trans ((by kernel_rfl : slotV _ _ _ u 15 = u 0).trans e0)
      have hW1 := below_undrew hW
      have hcl : W.cell? ⟨w.heap.size, 1, none⟩ = some (.slice aos 18 cs) := by rw [hW1.cell (p := ⟨w.heap.size, 1, none⟩) (by show w.heap.size < w1.heap.size; omega)]; exact C1.out
      clear hd hv
      have s15 := evalT t15
      clear t15
      refine fk_run ?_
      go_simp
    refine And.intro (fun u W A hW hBW hd hv hr => ?_) ?_
    · have e1 : u 1 = .slice aos 18 cs := hd 1 (by decide) (by kernel_rfl)
      have t16 : A.eval (.tmp 16) = .slice aos 18 cs := (hv 16 (by kernel_rfl)).trans ((by kernel_rfl : slotV _ _ _ u 16 = u 1).trans e1)
      clear hd hv
      have s16 := evalT t16
      clear t16
      refine fk_run ?_
      go_simp
    refine And.intro (fun u W A hW hBW hd hv hr => ?_) ?_
    · have e2 : u 2 = .int .i64 18 := hd 2 (by decide) (by kernel_rfl)
      have t17 : A.eval (.tmp 17) = .int .i64 18 := (hv 17 (by kernel_rfl)).trans ((by kernel_rfl : slotV _ _ _ u 17 = u 2).trans e2)
      clear hd hv
      have s17 := evalT t17
      clear t17
      refine fk_run ?_
      go_simp
    refine And.intro (fun u W A hW hBW hd hv hr => ?_) ?_
    · have e3 : u 3 = .bool false := hd 3 (by decide) (by kernel_rfl)
      have t18 : A.eval (.tmp 18) = .bool false := (hv 18 (by kernel_rfl)).trans ((by kernel_rfl : slotV _ _ _ u 18 = u 3).trans e3)
      clear hd hv
      have s18 := evalT t18
      clear t18
      refine fk_run ?_
      go_simp
    refine And.intro (fun u W A hW hBW hd hv hr => ?_) ?_
    · have e4 : u 4 = .bool false := hd 4 (by decide) (by kernel_rfl)
      have t7 : A.eval (.tmp 7) = .int .i64 (lp : Int) := (hv 7 (by kernel_rfl)).trans (by kernel_rfl)
      clear hd hv
      have s7 := evalT t7
      clear t7
      refine Or.inl ⟨e4, ?_⟩
      refine fk_run ?_
      go_simp
    refine And.intro (fun u W A hW hBW hd hv hr => ?_) ?_
    · have e4 : u 4 = .bool false := hd 4 (by decide) (by kernel_rfl)
      have e5 : u 5 = .int .i64 (lp : Int) := hd 5 (by decide) (by kernel_rfl)
      have t20 : A.eval (.tmp 20) = .int .i64 (lp : Int) := (hv 20 (by kernel_rfl)).trans ((by kernel_rfl : slotV _ _ _ u 20 = u 5).trans e5)
      clear hd hv
      have s20 := evalT t20
      clear t20
      refine Or.inl ⟨e4, ?_⟩
      refine fk_run ?_
      go_simp
    refine And.intro (fun u W A hW hBW hd hv hr => ?_) ?_
    · have e4 : u 4 = .bool false := hd 4 (by decide) (by kernel_rfl)
      have e6 : u 6 = .bool false := hd 6 (by decide) (by kernel_rfl)
      have t19 : A.eval (.tmp 19) = .bool false := (hv 19 (by kernel_rfl)).trans ((by kernel_rfl : slotV _ _ _ u 19 = u 4).trans e4)
      have t21 : A.eval (.tmp 21) = .bool false := (hv 21 (by kernel_rfl)).trans ((by kernel_rfl : slotV _ _ _ u 21 = u 6).trans e6)
      clear hd hv
      have s19 := evalT t19
      have s21 := evalT t21
      clear t19 t21
      refine fk_run ?_
      go_simp
    refine And.intro (fun u W A hW hBW hd hv hr => ?_) ?_
    · have e7 : u 7 = .bool false := hd 7 (by decide) (by kernel_rfl)
      have t22 : A.eval (.tmp 22) = .bool false := (hv 22 (by kernel_rfl)).trans ((by kernel_rfl : slotV _ _ _ u 22 = u 7).trans e7)
      clear hd hv
      have s22 := evalT t22
      clear t22
      refine fk_run ?_
      go_simp
    refine And.intro (fun u W A hW hBW hd hv hr => ?_) ?_
    · have e8 : u 8 = .bool false := hd 8 (by decide) (by kernel_rfl)
      have t8 : A.eval (.tmp 8) = .func (.func 35) #[] #[] := (hv 8 (by kernel_rfl)).trans (by kernel_rfl)
      clear hd hv
      have s8 := evalT t8
      clear t8
      refine Or.inl ⟨e8, ?_⟩
      refine fk_run ?_
      go_simp
    refine And.intro (fun u W A hW hBW hd hv hr => ?_) ?_
    · have e8 : u 8 = .bool false := hd 8 (by decide) (by kernel_rfl)
      have t5 : A.eval (.tmp 5) = .pointer (some ⟨w.heap.size, 0, none⟩) := (hv 5 (by kernel_rfl)).trans (by kernel_rfl)
      clear hd hv
      have s5 := evalT t5
      clear t5
      refine Or.inl ⟨e8, ?_⟩
      refine fk_run ?_
      go_simp
    refine And.intro (fun u W A hW hBW hd hv hr => ?_) ?_
    · have e8 : u 8 = .bool false := hd 8 (by decide) (by kernel_rfl)
      have e10 : u 10 = .pointer (some ⟨w.heap.size, 1, none⟩) := hd 10 (by decide) (by kernel_rfl)
      have t25 : A.eval (.tmp 25) = .pointer (some ⟨w.heap.size, 1, none⟩) := (hv 25 (by kernel_rfl)).trans ((by kernel_rfl : slotV _ _ _ u 25 = u 10).trans e10)
      have hW1 := below_undrew hW
      have hcl : W.cell? ⟨w.heap.size, 1, none⟩ = some (.slice aos 18 cs) := by rw [hW1.cell (p := ⟨w.heap.size, 1, none⟩) (by show w.heap.size < w1.heap.size; omega)]; exact C1.out
      clear hd hv
      have s25 := evalT t25
      clear t25
      refine Or.inl ⟨e8, ?_⟩
      refine fk_run ?_
      go_simp
    refine And.intro (fun u W A hW hBW hd hv hr => ?_) ?_
    · have e8 : u 8 = .bool false := hd 8 (by decide) (by kernel_rfl)
      have e9 : u 9 = .func (.func 35) #[] #[] := hd 9 (by decide) (by kernel_rfl)
      have e11 : u 11 = .slice aos 18 cs := hd 11 (by decide) (by kernel_rfl)
      have t24 : A.eval (.tmp 24) = .func (.func 35) #[] #[] := (hv 24 (by kernel_rfl)).trans ((by kernel_rfl : slotV _ _ _ u 24 = u 9).trans e9)
      have t26 : A.eval (.tmp 26) = .slice aos 18 cs := (hv 26 (by kernel_rfl)).trans ((by kernel_rfl : slotV _ _ _ u 26 = u 11).trans e11)
      have hW1 := below_undrew hW
      clear hd hv
      have s24 := evalT t24
      have s26 := evalT t26
      clear t24 t26
      refine Or.inl ⟨e8, ?_⟩
      refine fk_enter (f := 35) (args := #[.slice aos 18 cs]) (by go_simp) (fk_val ?_)
      have hod := sodd_calls _ sig W (HSG1.out.on hW1) HSS.out
      rw [HC.out] at hod
      exact hod
    refine And.intro (fun u W A hW hBW hd hv hr => ?_) ?_
    · have e8 : u 8 = .bool false := hd 8 (by decide) (by kernel_rfl)
      have e12 : u 12 = .bool false := hd 12 (by decide) (by kernel_rfl)
      have t23 : A.eval (.tmp 23) = .bool false := (hv 23 (by kernel_rfl)).trans ((by kernel_rfl : slotV _ _ _ u 23 = u 8).trans e8)
      have t27 : A.eval (.tmp 27) = .bool false := (hv 27 (by kernel_rfl)).trans ((by kernel_rfl : slotV _ _ _ u 27 = u 12).trans e12)
      clear hd hv
      have s23 := evalT t23
      have s27 := evalT t27
      clear t23 t27
      refine fk_run ?_
      go_simp
    refine And.intro (fun u W A hW hBW hd hv hr => ?_) ?_
    · have e13 : u 13 = .bool false := hd 13 (by decide) (by kernel_rfl)
      have t28 : A.eval (.tmp 28) = .bool false := (hv 28 (by kernel_rfl)).trans ((by kernel_rfl : slotV _ _ _ u 28 = u 13).trans e13)
      clear hd hv
      have s28 := evalT t28
      clear t28
      refine fk_run ?_
      go_simp
    refine And.intro (fun u W A hW hBW hd hv hr => ?_) ?_
    · have e14 : u 14 = .bool false := hd 14 (by decide) (by kernel_rfl)
      have t8 : A.eval (.tmp 8) = .func (.func 35) #[] #[] := (hv 8 (by kernel_rfl)).trans (by kernel_rfl)
      clear hd hv
      have s8 := evalT t8
      clear t8
      refine Or.inl ⟨e14, ?_⟩
      refine fk_run ?_
      go_simp
    refine And.intro (fun u W A hW hBW hd hv hr => ?_) ?_
    · have e14 : u 14 = .bool false := hd 14 (by decide) (by kernel_rfl)
      have t5 : A.eval (.tmp 5) = .pointer (some ⟨w.heap.size, 0, none⟩) := (hv 5 (by kernel_rfl)).trans (by kernel_rfl)
      clear hd hv
      have s5 := evalT t5
      clear t5
      refine Or.inl ⟨e14, ?_⟩
      refine fk_run ?_
      go_simp
    refine And.intro (fun u W A hW hBW hd hv hr => ?_) ?_
    · have e14 : u 14 = .bool false := hd 14 (by decide) (by kernel_rfl)
      have e16 : u 16 = .pointer (some ⟨w.heap.size, 2, none⟩) := hd 16 (by decide) (by kernel_rfl)
      have t31 : A.eval (.tmp 31) = .pointer (some ⟨w.heap.size, 2, none⟩) := (hv 31 (by kernel_rfl)).trans ((by kernel_rfl : slotV _ _ _ u 31 = u 16).trans e16)
      have hW1 := below_undrew hW
      have hcl : W.cell? ⟨w.heap.size, 2, none⟩ = some (.slice aop lp cp) := by rw [hW1.cell (p := ⟨w.heap.size, 2, none⟩) (by show w.heap.size < w1.heap.size; omega)]; exact C2.out
      clear hd hv
      have s31 := evalT t31
      clear t31
      refine Or.inl ⟨e14, ?_⟩
      refine fk_run ?_
      go_simp
    refine And.intro (fun u W A hW hBW hd hv hr => ?_) ?_
    · have e14 : u 14 = .bool false := hd 14 (by decide) (by kernel_rfl)
      have e15 : u 15 = .func (.func 35) #[] #[] := hd 15 (by decide) (by kernel_rfl)
      have e17 : u 17 = .slice aop lp cp := hd 17 (by decide) (by kernel_rfl)
      have t30 : A.eval (.tmp 30) = .func (.func 35) #[] #[] := (hv 30 (by kernel_rfl)).trans ((by kernel_rfl : slotV _ _ _ u 30 = u 15).trans e15)
      have t32 : A.eval (.tmp 32) = .slice aop lp cp := (hv 32 (by kernel_rfl)).trans ((by kernel_rfl : slotV _ _ _ u 32 = u 17).trans e17)
      have hW1 := below_undrew hW
      clear hd hv
      have s30 := evalT t30
      have s32 := evalT t32
      clear t30 t32
      refine Or.inl ⟨e14, ?_⟩
      refine fk_enter (f := 35) (args := #[.slice aop lp cp]) (by go_simp) (fk_val ?_)
      have hod := sodd_calls _ path W (HPT1.out.on hW1) HSP.out
      rw [HD.out] at hod
      exact hod
    refine And.intro (fun u W A hW hBW hd hv hr => ?_) ?_
    · have e14 : u 14 = .bool false := hd 14 (by decide) (by kernel_rfl)
      have e18 : u 18 = .bool false := hd 18 (by decide) (by kernel_rfl)
      have t29 : A.eval (.tmp 29) = .bool false := (hv 29 (by kernel_rfl)).trans ((by kernel_rfl : slotV _ _ _ u 29 = u 14).trans e14)
      have t33 : A.eval (.tmp 33) = .bool false := (hv 33 (by kernel_rfl)).trans ((by kernel_rfl : slotV _ _ _ u 33 = u 18).trans e18)
      clear hd hv
      have s29 := evalT t29
      have s33 := evalT t33
      clear t29 t33
      refine fk_run ?_
      go_simp
    refine And.intro (fun u W A hW hBW hd hv hr => ?_) ?_
    · have e19 : u 19 = .bool false := hd 19 (by decide) (by kernel_rfl)
      have t34 : A.eval (.tmp 34) = .bool false := (hv 34 (by kernel_rfl)).trans ((by kernel_rfl : slotV _ _ _ u 34 = u 19).trans e19)
      clear hd hv
      have s34 := evalT t34
      clear t34
      refine fk_run ?_
      go_simp
    refine And.intro (fun u W A hW hBW hd hv hr => ?_) ?_
    · have e20 : u 20 = .bool false := hd 20 (by decide) (by kernel_rfl)
      have t5 : A.eval (.tmp 5) = .pointer (some ⟨w.heap.size, 0, none⟩) := (hv 5 (by kernel_rfl)).trans (by kernel_rfl)
      clear hd hv
      have s5 := evalT t5
      clear t5
      refine Or.inl ⟨e20, ?_⟩
      refine fk_run ?_
      go_simp
    refine And.intro (fun u W A hW hBW hd hv hr => ?_) ?_
    · have e20 : u 20 = .bool false := hd 20 (by decide) (by kernel_rfl)
      have e21 : u 21 = .pointer (some ⟨w.heap.size, 0, none⟩) := hd 21 (by decide) (by kernel_rfl)
      have t36 : A.eval (.tmp 36) = .pointer (some ⟨w.heap.size, 0, none⟩) := (hv 36 (by kernel_rfl)).trans ((by kernel_rfl : slotV _ _ _ u 36 = u 21).trans e21)
      have hW1 := below_undrew hW
      have hcl : W.cell? ⟨w.heap.size, 0, none⟩ = some (.int .i64 idx) := by rw [hW1.cell (p := ⟨w.heap.size, 0, none⟩) (by show w.heap.size < w1.heap.size; omega)]; exact C0.out
      clear hd hv
      have s36 := evalT t36
      clear t36
      refine Or.inl ⟨e20, ?_⟩
      refine fk_run ?_
      go_simp
    refine And.intro (fun u W A hW hBW hd hv hr => ?_) ?_
    · have e20 : u 20 = .bool false := hd 20 (by decide) (by kernel_rfl)
      have e22 : u 22 = .int .i64 idx := hd 22 (by decide) (by kernel_rfl)
      have t37 : A.eval (.tmp 37) = .int .i64 idx := (hv 37 (by kernel_rfl)).trans ((by kernel_rfl : slotV _ _ _ u 37 = u 22).trans e22)
      clear hd hv
      have s37 := evalT t37
      clear t37
      refine Or.inl ⟨e20, ?_⟩
      refine fk_run ?_
      go_simp
    refine And.intro (fun u W A hW hBW hd hv hr => ?_) ?_
    · have e20 : u 20 = .bool false := hd 20 (by decide) (by kernel_rfl)
      have e23 : u 23 = .bool false := hd 23 (by decide) (by kernel_rfl)
      have t35 : A.eval (.tmp 35) = .bool false := (hv 35 (by kernel_rfl)).trans ((by kernel_rfl : slotV _ _ _ u 35 = u 20).trans e20)
      have t38 : A.eval (.tmp 38) = .bool false := (hv 38 (by kernel_rfl)).trans ((by kernel_rfl : slotV _ _ _ u 38 = u 23).trans e23)
      clear hd hv
      have s35 := evalT t35
      have s38 := evalT t38
      clear t35 t38
      refine fk_run ?_
      go_simp
    refine And.intro (fun u W A hW hBW hd hv hr => ?_) ?_
    · have e24 : u 24 = .bool false := hd 24 (by decide) (by kernel_rfl)
      have t39 : A.eval (.tmp 39) = .bool false := (hv 39 (by kernel_rfl)).trans ((by kernel_rfl : slotV _ _ _ u 39 = u 24).trans e24)
      clear hd hv
      have s39 := evalT t39
      clear t39
      refine fk_run ?_
      go_simp
    refine And.intro (fun u W A hW hBW hd hv hr => ?_) ?_
    · have e25 : u 25 = .bool false := hd 25 (by decide) (by kernel_rfl)
      have t5 : A.eval (.tmp 5) = .pointer (some ⟨w.heap.size, 0, none⟩) := (hv 5 (by kernel_rfl)).trans (by kernel_rfl)
      clear hd hv
      have s5 := evalT t5
      clear t5
      refine Or.inl ⟨e25, ?_⟩
      refine fk_run ?_
      go_simp
    refine And.intro (fun u W A hW hBW hd hv hr => ?_) ?_
    · have e25 : u 25 = .bool false := hd 25 (by decide) (by kernel_rfl)
      have e26 : u 26 = .pointer (some ⟨w.heap.size, 0, none⟩) := hd 26 (by decide) (by kernel_rfl)
      have t41 : A.eval (.tmp 41) = .pointer (some ⟨w.heap.size, 0, none⟩) := (hv 41 (by kernel_rfl)).trans ((by kernel_rfl : slotV _ _ _ u 41 = u 26).trans e26)
      have hW1 := below_undrew hW
      have hcl : W.cell? ⟨w.heap.size, 0, none⟩ = some (.int .i64 idx) := by rw [hW1.cell (p := ⟨w.heap.size, 0, none⟩) (by show w.heap.size < w1.heap.size; omega)]; exact C0.out
      clear hd hv
      have s41 := evalT t41
      clear t41
      refine Or.inl ⟨e25, ?_⟩
      refine fk_run ?_
      go_simp
    refine And.intro (fun u W A hW hBW hd hv hr => ?_) ?_
    · have e25 : u 25 = .bool false := hd 25 (by decide) (by kernel_rfl)
      have t7 : A.eval (.tmp 7) = .int .i64 (lp : Int) := (hv 7 (by kernel_rfl)).trans (by kernel_rfl)
      clear hd hv
      have s7 := evalT t7
      clear t7
      refine Or.inl ⟨e25, ?_⟩
      refine fk_run ?_
      go_simp
    refine And.intro (fun u W A hW hBW hd hv hr => ?_) ?_
    · have e25 : u 25 = .bool false := hd 25 (by decide) (by kernel_rfl)
      have e28 : u 28 = .int .i64 (lp : Int) := hd 28 (by decide) (by kernel_rfl)
      have t43 : A.eval (.tmp 43) = .int .i64 (lp : Int) := (hv 43 (by kernel_rfl)).trans ((by kernel_rfl : slotV _ _ _ u 43 = u 28).trans e28)
      clear hd hv
      have s43 := evalT t43
      clear t43
      refine Or.inl ⟨e25, ?_⟩
      refine fk_run ?_
      go_simp
      exact wrap_powI lp (by omega)
    refine And.intro (fun u W A hW hBW hd hv hr => ?_) ?_
    · have e25 : u 25 = .bool false := hd 25 (by decide) (by kernel_rfl)
      have e27 : u 27 = .int .i64 idx := hd 27 (by decide) (by kernel_rfl)
      have e29 : u 29 = .int .i64 ((2 ^ lp : Nat) : Int) := hd 29 (by decide) (by kernel_rfl)
      have t42 : A.eval (.tmp 42) = .int .i64 idx := (hv 42 (by kernel_rfl)).trans ((by kernel_rfl : slotV _ _ _ u 42 = u 27).trans e27)
      have t44 : A.eval (.tmp 44) = .int .i64 ((2 ^ lp : Nat) : Int) := (hv 44 (by kernel_rfl)).trans ((by kernel_rfl : slotV _ _ _ u 44 = u 29).trans e29)
      clear hd hv
      have s42 := evalT t42
      have s44 := evalT t44
      clear t42 t44
      refine Or.inl ⟨e25, ?_⟩
      refine fk_run ?_
      go_simp
    refine And.intro (fun u W A hW hBW hd hv hr => ?_) ?_
    · have e25 : u 25 = .bool false := hd 25 (by decide) (by kernel_rfl)
      have e30 : u 30 = .bool false := hd 30 (by decide) (by kernel_rfl)
      have t40 : A.eval (.tmp 40) = .bool false := (hv 40 (by kernel_rfl)).trans ((by kernel_rfl : slotV _ _ _ u 40 = u 25).trans e25)
      have t45 : A.eval (.tmp 45) = .bool false := (hv 45 (by kernel_rfl)).trans ((by kernel_rfl : slotV _ _ _ u 45 = u 30).trans e30)
      clear hd hv
      have s40 := evalT t40
      have s45 := evalT t45
      clear t40 t45
      refine fk_run ?_
      go_simp
    exact trivial
  intro u w2 hb2 hk2 hf2
  have e31 : u 31 = .bool false := hf2 31 (by decide) (by decide)
  have hb2' := below_undrew hb2
  have H2 := Lib.hid (HB1.out.trans (hb2'.mono HB1.out.size))
  have HX2 : Hid (w2.heap[w.heap.size]? = some (.cells #[.int .i64 idx, .slice aos 18 cs, .slice aop lp cp] 24 (0, 0))) := Lib.hid ((hb2'.block _ hz1).trans HX1.out)
  have hz2 : w.heap.size < w2.heap.size := Nat.lt_of_lt_of_le hz1 hb2'.size
  clear hf2 hb2 hk2 hb2' C0 C1 C2 HX1 HSG1 HPT1 HB1 hz1
  simp only [List.take, List.drop, wpList, lexPut, Nat.zero_add, Nat.reduceAdd, e31, Act.put, List.setIfInBounds_toArray, List.set_cons_succ, List.set_cons_zero]
  clear e31
  go_wp2_with fail
  refine (sdigits_calls m _).mono ?_
  rintro e w' ⟨rfl, rfl⟩
  go_wp2_with fail
  obtain ⟨hz3, hE3, hM3, hb3⟩ := heap_two w2 (.cells #[.slice none 0 0] 22) (.cells #[.string m] 9)
  try simp only [World.size_alloc]
  obtain ⟨eb, heb⟩ : ∃ eb, eb = w2.heap.size := ⟨_, rfl⟩
  rw [← heb] at hE3 hM3
  rw [← heb]
  have heb1 : w.heap.size < eb := by omega
  have hlo1 : eb + 2 ≤ ((w2.alloc (.cells #[.slice none 0 0] 22)).alloc (.cells #[.string m] 9)).heap.size := by omega
  have HBW1 : Hid (Below w.heap.size w ((w2.alloc (.cells #[.slice none 0 0] 22)).alloc (.cells #[.string m] 9))) := Lib.hid (H2.out.trans (hb3.mono (by omega)))
  have HXW : Hid (((w2.alloc (.cells #[.slice none 0 0] 22)).alloc (.cells #[.string m] 9)).heap[w.heap.size]? = some (.cells #[.int .i64 idx, .slice aos 18 cs, .slice aop lp cp] 24 (0, 0))) := Lib.hid ((hb3.block _ hz2).trans HX2.out)
  generalize hgW : (w2.alloc (.cells #[.slice none 0 0] 22)).alloc (.cells #[.string m] 9) = W1 at *
  have HM3 := Lib.hid hM3
  have h0 : EndAt eb 22 W1 [] W1 := ⟨_, hE3, Own.nil _ _, Below.refl _ _⟩
  clear hgW hz3 hE3 hM3 hb3 heb hz2 H2 HX2
  have HT1 := Lib.hid (HT.out.on HBW1.out)
  have hseq := digits_stops 4 (by omega) (eb + 1) eb m hm W1 (by omega) (by rw [cell_of_row _ _ 0 _ _ _ HM3.out]; rfl) (by omega) HT1.out
  have hfrom := endAt_from (T := 22) (W1 := W1) (ob := eb) (B := W1.heap.size) (fun pre : List (Fin 18) => pre.map fun x => chainS (sig.getD x.val ByteArray.empty) (15 - digA m x.val)) (by omega) (by omega)
  have hKb : ∀ (W : World) (l : Nat) (o o' : Obj), W1.heap.size ≤ l → W.heap[l]? = some o → o.isCells = false → o.isWalk = false → Below eb W (W.putObj l o') := belowK_b (by omega)
  refine (wpIn_wide (n := 5)).1 ?_
  refine' wpIn_rangeFunc_ownF (F := Fence.wide) (n := 5) rfl (by omega) (gf := 58) (lb := #[.pointer (some ⟨eb + 1, 0, none⟩)]) rfl trivial (enters_of Tryz.func58 (by kernel_rfl) rfl)
    hseq ?hkt ?hkb ?hb0 ?hps (fun pre W => EndAt eb 22 W1 (pre.map fun x => chainS (sig.getD x.val ByteArray.empty) (15 - digA m x.val)) W)
    (fun c pre W => False) ?hI ?hIx ?h00 _ ?assign ?body ?done ?stop
  case hkt => exact belowK_t
  case hkb => exact hKb
  case hb0 => exact Below.refl _ _
  case hps => exact fun _ => rfl
  case hI => exact hfrom
  case hIx => exact fun c _ _ _ _ h _ _ => h.elim
  case h00 => exact h0
  case assign =>
    intro l x W K hK
    gi_wp2
    exact hK
  case stop =>
    rintro D c pre W hD ⟨k, hk, rfl⟩ hx hK
    exact hx.elim
  case body =>
    rintro l pre x WB ⟨v, hv1, hv2, hv3⟩ hlen
    obtain ⟨k, hk⟩ := x
    have hkk : k ≤ 18 := by omega
    have hobW : eb < WB.heap.size := (Array.getElem?_eq_some_iff.1 hv1).1
    have hacc : (pre.map fun x : Fin 18 => chainS (sig.getD x.val ByteArray.empty) (15 - digA m x.val)).length ≤ 18 := by rw [List.length_map]; omega
    have hdle : digA m k ≤ 15 := dig_le m k
    have hs16 := HS16.out k hk
    have HV1 := Lib.hid hv1
    have HV2 := Lib.hid hv2
    have HV3 := Lib.hid hv3
    have HMP : Hid ((pre ++ [(⟨k, hk⟩ : Fin 18)]).map (fun x => chainS (sig.getD x.val ByteArray.empty) (15 - digA m x.val)) = pre.map (fun x : Fin 18 => chainS (sig.getD x.val ByteArray.empty) (15 - digA m x.val)) ++ [chainS (sig.getD k ByteArray.empty) (15 - digA m k)]) := Lib.hid (by simp)
    have HBW : Hid (Below w.heap.size w WB) := Lib.hid (HBW1.out.trans (hv3.mono (by omega)))
    have HXB : Hid (WB.heap[w.heap.size]? = some (.cells #[.int .i64 idx, .slice aos 18 cs, .slice aop lp cp] 24 (0, 0))) := Lib.hid ((hv3.block _ heb1).trans HXW.out)
    obtain ⟨ao', c', he', hlc', hmx', hcells'⟩ := HSG.out
    have hle' := HLS0.out
    obtain ⟨b, o, rfl, hblt, hcb⟩ := hcells' k (by omega)
    simp only [Value.slice.injEq] at he'
    obtain ⟨hao, h18, hcc⟩ := he'
    clear h18 hcc
    have HCB : Hid (WB.cell? ⟨b, o + k, none⟩ = some (.string (sig.getD k ByteArray.empty))) := Lib.hid (by rw [HBW.out.cell (p := ⟨b, o + k, none⟩) hblt]; exact hcb)
    have hbw : b < WB.heap.size := Nat.lt_of_lt_of_le hblt HBW.out.size
    have hbeb : b < eb := by omega
    clear hv1 hv2 hv3 hlc' hmx' hcells' hcb hle'
    subst hao
    generalize sig.getD k ByteArray.empty = s at *
    generalize pre.map (fun x : Fin 18 => chainS (sig.getD x.val ByteArray.empty) (15 - digA m x.val)) = acc at *
    generalize digA m k = d at *
    have hk18 : (k : Int) < 18 := by omega
    gi_wp2_with fail
    refine wpIn_region_res 12 (eb) (fun ii u => [OwnF (eb + 1) (acc), valF (.pointer (some ⟨w.heap.size, 1, none⟩)), valF (.slice (some ⟨b, o, none⟩) 18 cs), valF (.int .i64 (k : Int)), valF (.pointer (some ⟨b, o + k, none⟩)), valF (.string s), valF (.int .i64 (d : Int)), valF (.int .i64 (15 - (d : Int))), valF (.string (chainS s (15 - d))), OwnF (eb + 1) ([chainS s (15 - d)]), OwnF (eb + 1) (acc ++ [chainS s (15 - d)]), MemK eb (.cells #[u 10] 22 (0, 0))].getD ii anyF) (fun jj ii => (jj == 10 && ii == 0)) (fun jj bb => (jj = 0 ∧ v.ownBlock = some bb) ∨ (jj = 11 ∧ bb = eb)) (by kernel_rfl) (by kernel_rfl) (fun ⟨_, _, h⟩ => h) (by kernel_rfl) (by kernel_rfl) (by kernel_rfl) (by kernel_rfl) (Nat.le_of_lt hobW) ?_ ?_ ?_ ?_ ?_
    · intro ii u hii
      refine AllKStable.at ?_ ii
      exact ⟨.inl (ownF_st _ _ _), .inl (valF_stable _ _), .inl (valF_stable _ _), .inl (valF_stable _ _), .inl (valF_stable _ _), .inl (valF_stable _ _), .inl (valF_stable _ _), .inl (valF_stable _ _), .inl (valF_stable _ _), .inl (ownF_st _ _ _), .inl (ownF_st _ _ _), .inl (memK_st _ _ _), trivial⟩
    · intro ii u u2 hii hx
      match ii, hii, hx with
      | 0, _, _ => rfl
      | 1, _, _ => rfl
      | 2, _, _ => rfl
      | 3, _, _ => rfl
      | 4, _, _ => rfl
      | 5, _, _ => rfl
      | 6, _, _ => rfl
      | 7, _, _ => rfl
      | 8, _, _ => rfl
      | 9, _, _ => rfl
      | 10, _, _ => rfl
      | 11, _, hx =>
        have h10 := hx 10 (by decide) (by kernel_rfl)
        show MemK eb (.cells #[u 10] 22 (0, 0)) = MemK eb (.cells #[u2 10] 22 (0, 0))
        rw [h10]
      | m + 12, hm, _ => exact absurd hm (by omega)
    · refine ⟨fun j b _ h => ?_, fun j j2 b _ _ h h2 => ?_⟩
      · rcases h with ⟨_, h⟩ | ⟨_, h⟩
        · have := own_block HV2.out b h; omega
        · omega
      · rcases h with ⟨_, h⟩ | ⟨_, h⟩ <;> rcases h2 with ⟨_, h2⟩ | ⟨_, h2⟩
        · omega
        · have := own_block HV2.out b h; omega
        · have := own_block HV2.out b h2; omega
        · omega
    · refine And.intro (fun u W A hW hBW hd hv hr => ?_) ?_
      · have t9 : A.eval (.tmp 9) = .pointer (some ⟨eb, 0, none⟩) := (hv 9 (by kernel_rfl)).trans (by kernel_rfl)
        have hW1 := below_undrew hW
        have hsz : WB.heap.size ≤ W.heap.size := hW1.size
        have ho : Own (eb + 1) W v acc := ownF_st (eb + 1) eb acc _ W v hW1 (fun b hb => hr 0 b (by decide) (.inl rfl) (.inl ⟨rfl, hb⟩)) HV2.out
        have hcl : W.cell? ⟨eb, 0, none⟩ = some v := by rw [cell_of_row W eb 0 _ _ _ ((hr 11 eb (by decide) (.inr (by kernel_rfl)) (.inr ⟨rfl, rfl⟩)).trans HV1.out)]; rfl
        clear hd hv
        have s9 := evalT t9
        clear t9
        exact fk_load_own (v := v) (by go_simp) ho (fun b hb => .inr (.inl ⟨rfl, hb⟩))
      refine And.intro (fun u W A hW hBW hd hv hr => ?_) ?_
      · have t5 : A.eval (.tmp 5) = .pointer (some ⟨w.heap.size, 0, none⟩) := (hv 5 (by kernel_rfl)).trans (by kernel_rfl)
        clear hd hv
        have s5 := evalT t5
        clear t5
        refine fk_run ?_
        go_simp
      refine And.intro (fun u W A hW hBW hd hv hr => ?_) ?_
      · have e1 : u 1 = .pointer (some ⟨w.heap.size, 1, none⟩) := hd 1 (by decide) (by kernel_rfl)
        have t52 : A.eval (.tmp 52) = .pointer (some ⟨w.heap.size, 1, none⟩) := (hv 52 (by kernel_rfl)).trans ((by kernel_rfl : slotV _ _ _ u 52 = u 1).trans e1)
        have hW1 := below_undrew hW
        have hsz : WB.heap.size ≤ W.heap.size := hW1.size
        have hcl : W.cell? ⟨w.heap.size, 1, none⟩ = some (.slice (some ⟨b, o, none⟩) 18 cs) := by rw [hW1.cell (p := ⟨w.heap.size, 1, none⟩) (by show w.heap.size < eb; omega), cell_of_row _ _ 1 _ _ _ HXB.out]; rfl
        clear hd hv
        have s52 := evalT t52
        clear t52
        refine fk_run ?_
        go_simp
      refine And.intro (fun u W A hW hBW hd hv hr => ?_) ?_
      · have t10 : A.eval (.tmp 10) = .int .i64 (k : Int) := (hv 10 (by kernel_rfl)).trans (by kernel_rfl)
        clear hd hv
        have s10 := evalT t10
        clear t10
        refine fk_run ?_
        go_simp
      refine And.intro (fun u W A hW hBW hd hv hr => ?_) ?_
      · have e2 : u 2 = .slice (some ⟨b, o, none⟩) 18 cs := hd 2 (by decide) (by kernel_rfl)
        have e3 : u 3 = .int .i64 (k : Int) := hd 3 (by decide) (by kernel_rfl)
        have t53 : A.eval (.tmp 53) = .slice (some ⟨b, o, none⟩) 18 cs := (hv 53 (by kernel_rfl)).trans ((by kernel_rfl : slotV _ _ _ u 53 = u 2).trans e2)
        have t54 : A.eval (.tmp 54) = .int .i64 (k : Int) := (hv 54 (by kernel_rfl)).trans ((by kernel_rfl : slotV _ _ _ u 54 = u 3).trans e3)
        clear hd hv
        have s53 := evalT t53
        have s54 := evalT t54
        clear t53 t54
        refine fk_run ?_
        go_simp
      refine And.intro (fun u W A hW hBW hd hv hr => ?_) ?_
      · have e4 : u 4 = .pointer (some ⟨b, o + k, none⟩) := hd 4 (by decide) (by kernel_rfl)
        have t55 : A.eval (.tmp 55) = .pointer (some ⟨b, o + k, none⟩) := (hv 55 (by kernel_rfl)).trans ((by kernel_rfl : slotV _ _ _ u 55 = u 4).trans e4)
        have hW1 := below_undrew hW
        have hsz : WB.heap.size ≤ W.heap.size := hW1.size
        have hcl : W.cell? ⟨b, o + k, none⟩ = some (.string s) := by rw [hW1.cell (p := ⟨b, o + k, none⟩) hbeb]; exact HCB.out
        clear hd hv
        have s55 := evalT t55
        clear t55
        refine fk_run ?_
        go_simp
      refine And.intro (fun u W A hW hBW hd hv hr => ?_) ?_
      · have t11 : A.eval (.tmp 11) = .int .i64 (d : Int) := (hv 11 (by kernel_rfl)).trans (by kernel_rfl)
        clear hd hv
        have s11 := evalT t11
        clear t11
        refine fk_run ?_
        go_simp
      refine And.intro (fun u W A hW hBW hd hv hr => ?_) ?_
      · have e6 : u 6 = .int .i64 (d : Int) := hd 6 (by decide) (by kernel_rfl)
        have t57 : A.eval (.tmp 57) = .int .i64 (d : Int) := (hv 57 (by kernel_rfl)).trans ((by kernel_rfl : slotV _ _ _ u 57 = u 6).trans e6)
        clear hd hv
        have s57 := evalT t57
        clear t57
        refine fk_run ?_
        go_simp
        exact IntWalk.i64_in _ (by omega)
      refine And.intro (fun u W A hW hBW hd hv hr => ?_) ?_
      · have e5 : u 5 = .string s := hd 5 (by decide) (by kernel_rfl)
        have e7 : u 7 = .int .i64 (15 - (d : Int)) := hd 7 (by decide) (by kernel_rfl)
        have t56 : A.eval (.tmp 56) = .string s := (hv 56 (by kernel_rfl)).trans ((by kernel_rfl : slotV _ _ _ u 56 = u 5).trans e5)
        have t58 : A.eval (.tmp 58) = .int .i64 (15 - (d : Int)) := (hv 58 (by kernel_rfl)).trans ((by kernel_rfl : slotV _ _ _ u 58 = u 7).trans e7)
        have hW1 := below_undrew hW
        have hsz : WB.heap.size ≤ W.heap.size := hW1.size
        clear hd hv
        have s56 := evalT t56
        have s58 := evalT t58
        clear t56 t58
        refine fk_enter (f := 26) (args := #[.string s, .int .i64 (15 - (d : Int))]) (by go_simp) (fk_val ?_)
        have hch := chain_calls s (by omega) (15 - (d : Int)) W (HT.out.on (HBW.out.trans (hW1.mono (by omega))))
        rw [show (15 - (d : Int)) = ((15 - d : Nat) : Int) by omega, chainN_nat (15 - d) (by omega)] at hch
        rw [show (15 - (d : Int)) = ((15 - d : Nat) : Int) by omega]
        exact hch
      refine And.intro (fun u W A hW hBW hd hv hr => ?_) ?_
      · have e8 : u 8 = .string (chainS s (15 - d)) := hd 8 (by decide) (by kernel_rfl)
        have t59 : A.eval (.tmp 59) = .string (chainS s (15 - d)) := (hv 59 (by kernel_rfl)).trans ((by kernel_rfl : slotV _ _ _ u 59 = u 8).trans e8)
        have hW1 := below_undrew hW
        have hsz : WB.heap.size ≤ W.heap.size := hW1.size
        clear hd hv
        have s59 := evalT t59
        clear t59
        exact fk_step (v := .slice (some ⟨W.heap.size, 0, none⟩) 1 1) (w' := W.alloc (.cells #[.string (chainS s (15 - d))] 9)) (by go_simp) (fk_own_of (by omega) (own_lit W [chainS s (15 - d)] (show 1 ≤ maxLen by decide)) ((Below.refl _ _).alloc (Nat.le_refl _) _))
      refine And.intro (fun u W A hW hBW hd hv hr => ?_) ?_
      · have e0 : Own (eb + 1) W (u 0) (acc) := hd 0 (by decide) (by kernel_rfl)
        have e9 : Own (eb + 1) W (u 9) ([chainS s (15 - d)]) := hd 9 (by decide) (by kernel_rfl)
        have t51 : A.eval (.tmp 51) = u 0 := (hv 51 (by kernel_rfl)).trans (by kernel_rfl)
        have t60 : A.eval (.tmp 60) = u 9 := (hv 60 (by kernel_rfl)).trans (by kernel_rfl)
        have hW1 := below_undrew hW
        have hsz : WB.heap.size ≤ W.heap.size := hW1.size
        clear hd hv
        exact fk_append (.tmp 51) (.tmp 60) rfl t51 t60 e0 e9.strc (by omega) (by simp; omega) (fun c hc => .inl ⟨0, by decide, by decide, hc⟩)
      refine And.intro (fun u W A hW hBW hd hv hr => ?_) ?_
      · have e10 : Own (eb + 1) W (u 10) (acc ++ [chainS s (15 - d)]) := hd 10 (by decide) (by kernel_rfl)
        have t61 : A.eval (.tmp 61) = u 10 := (hv 61 (by kernel_rfl)).trans (by kernel_rfl)
        have t9 : A.eval (.tmp 9) = .pointer (some ⟨eb, 0, none⟩) := (hv 9 (by kernel_rfl)).trans (by kernel_rfl)
        have hW1 := below_undrew hW
        have hsz : WB.heap.size ≤ W.heap.size := hW1.size
        have hob5 := (hr 11 eb (by decide) (.inl rfl) (.inr ⟨rfl, rfl⟩)).trans HV1.out
        clear hd hv
        have s61 := evalT t61
        have s9 := evalT t9
        clear t61 t9
        have hcl : W.cell? ⟨eb, 0, none⟩ = some v := by rw [cell_of_row W eb 0 _ _ _ hob5]; rfl
        have hfz : W.frozen? ⟨eb, 0, none⟩ = false := by simp [World.frozen?, hob5]
        obtain ⟨ao9, n9, c9, hv9⟩ := own_form e10
        change fkindAt _ _ _ _ _ _ (MemK eb (.cells #[u 10] 22 (0, 0)))
        rw [hv9] at s61 ⊢
        refine fk_store (b := eb) (i := 0) (v := .slice ao9 n9 c9) (by go_simp) (by omega) (.inr (.inr ⟨rfl, rfl⟩)) ?_
        rw [heap_set_same W eb 0 _ _ _ _ hob5]; rfl
      exact trivial
    intro u W' hb' hk' hf'
    have e10 : Own (eb + 1) W' (u 10) (acc ++ [chainS s (15 - d)]) := hf' 10 (by decide) (by decide)
    have e11 : W'.heap[eb]? = some (.cells #[u 10] 22 (0, 0)) := hf' 11 (by decide) (by decide)
    have hb1 := below_undrew hb'
    clear hf' hb'
    simp only [List.drop, wpList]
    refine ⟨keeps_of hb1.size (S := fun b => v.ownBlock = some b ∨ b = eb) (fun b hb hS => hk' b hb (fun j _ h => ?_)) (fun b hS => ?_), hb1, u 10, e11, by rw [HMP.out]; exact e10, HV3.out.trans hb1⟩
    · rcases h with ⟨_, h⟩ | ⟨_, h⟩
      · exact hS (.inl h)
      · exact hS (.inr h)
    · rcases hS with h | h
      · exact own_cells HV2.out h
      · exact ⟨_, _, _, by rw [h]; exact HV1.out⟩
  case done =>
    rintro D xs WD hD rfl ⟨v, hv1, hv2, hv3⟩ hK
    rw [ends_map] at hv2
    obtain ⟨aov, nv, cv, rfl⟩ := own_form hv2
    have hobW : eb < WD.heap.size := (Array.getElem?_eq_some_iff.1 hv1).1
    have HV2 := Lib.hid hv2.strc
    have HKD := Lib.hid hK
    have HBW : Hid (Below w.heap.size w WD) := Lib.hid (HBW1.out.trans (hv3.mono (by omega)))
    have HXD : Hid (WD.heap[w.heap.size]? = some (.cells #[.int .i64 idx, .slice aos 18 cs, .slice aop lp cp] 24 (0, 0))) := Lib.hid ((hv3.block _ heb1).trans HXW.out)
    have C0 : Hid (WD.cell? ⟨w.heap.size, 0, none⟩ = some (.int .i64 idx)) := Lib.hid (by rw [cell_of_row _ _ 0 _ _ _ HXD.out]; rfl)
    have C1 : Hid (WD.cell? ⟨w.heap.size, 1, none⟩ = some (.slice aos 18 cs)) := Lib.hid (by rw [cell_of_row _ _ 1 _ _ _ HXD.out]; rfl)
    have C2 : Hid (WD.cell? ⟨w.heap.size, 2, none⟩ = some (.slice aop lp cp)) := Lib.hid (by rw [cell_of_row _ _ 2 _ _ _ HXD.out]; rfl)
    have C9 : Hid (WD.cell? ⟨eb, 0, none⟩ = some (.slice aov nv cv)) := Lib.hid (by rw [cell_of_row _ _ 0 _ _ _ hv1]; rfl)
    have hzD : w.heap.size < WD.heap.size := by omega
    clear hv1 hv2 hv3 hK
    go_wp2_with fail
    refine wp_normal ?_
    refine wp_region_res 11 (WD.heap.size) (fun ii u => [valF (.string pub), valF (.int .i64 (lp : Int)), valF (.int .i64 ((2 ^ lp : Nat) : Int)), valF (.pointer (some ⟨w.heap.size, 0, none⟩)), valF (.int .i64 idx), valF (.slice aov nv cv), valF (.string (dg (sealEnds m sig))), valF (.pointer (some ⟨w.heap.size, 2, none⟩)), valF (.slice aop lp cp), valF (.bool (checkT pub ((2 ^ lp : Nat) : Int) idx (dg (sealEnds m sig)) path)), valF (.bool (checkT pub ((2 ^ lp : Nat) : Int) idx (dg (sealEnds m sig)) path))].getD ii anyF) (fun jj ii => false) (fun jj bb => False) (by kernel_rfl) (by kernel_rfl) (by kernel_rfl) (by kernel_rfl) (by kernel_rfl) (Nat.le_refl _) ?_ ?_ ?_ ?_ ?_
    · intro ii u hii
      refine AllKStable.at ?_ ii
      exact ⟨.inl (valF_stable _ _), .inl (valF_stable _ _), .inl (valF_stable _ _), .inl (valF_stable _ _), .inl (valF_stable _ _), .inl (valF_stable _ _), .inl (valF_stable _ _), .inl (valF_stable _ _), .inl (valF_stable _ _), .inl (valF_stable _ _), .inl (valF_stable _ _), trivial⟩
    · exact fun _ _ _ _ _ => rfl
    · exact ⟨fun _ _ _ h => h.elim, fun _ _ _ _ _ h => h.elim⟩
    · refine And.intro (fun u W A hW hBW hd hv hr => ?_) ?_
      · have t0 : A.eval (.tmp 0) = .string pub := (hv 0 (by kernel_rfl)).trans (by kernel_rfl)
        clear hd hv
        have s0 := evalT t0
        clear t0
        refine fk_run ?_
        go_simp
      refine And.intro (fun u W A hW hBW hd hv hr => ?_) ?_
      · have t7 : A.eval (.tmp 7) = .int .i64 (lp : Int) := (hv 7 (by kernel_rfl)).trans (by kernel_rfl)
        clear hd hv
        have s7 := evalT t7
        clear t7
        refine fk_run ?_
        go_simp
      refine And.intro (fun u W A hW hBW hd hv hr => ?_) ?_
      · have e1 : u 1 = .int .i64 (lp : Int) := hd 1 (by decide) (by kernel_rfl)
        have t63 : A.eval (.tmp 63) = .int .i64 (lp : Int) := (hv 63 (by kernel_rfl)).trans ((by kernel_rfl : slotV _ _ _ u 63 = u 1).trans e1)
        clear hd hv
        have s63 := evalT t63
        clear t63
        refine fk_run ?_
        go_simp
        exact wrap_powI lp (by omega)
      refine And.intro (fun u W A hW hBW hd hv hr => ?_) ?_
      · have t5 : A.eval (.tmp 5) = .pointer (some ⟨w.heap.size, 0, none⟩) := (hv 5 (by kernel_rfl)).trans (by kernel_rfl)
        clear hd hv
        have s5 := evalT t5
        clear t5
        refine fk_run ?_
        go_simp
      refine And.intro (fun u W A hW hBW hd hv hr => ?_) ?_
      · have e3 : u 3 = .pointer (some ⟨w.heap.size, 0, none⟩) := hd 3 (by decide) (by kernel_rfl)
        have t65 : A.eval (.tmp 65) = .pointer (some ⟨w.heap.size, 0, none⟩) := (hv 65 (by kernel_rfl)).trans ((by kernel_rfl : slotV _ _ _ u 65 = u 3).trans e3)
        have hW1 := below_undrew hW
        have hcl : W.cell? ⟨w.heap.size, 0, none⟩ = some (.int .i64 idx) := by rw [hW1.cell (p := ⟨w.heap.size, 0, none⟩) (by show w.heap.size < WD.heap.size; omega)]; exact C0.out
        clear hd hv
        have s65 := evalT t65
        clear t65
        refine fk_run ?_
        go_simp
      refine And.intro (fun u W A hW hBW hd hv hr => ?_) ?_
      · have t9 : A.eval (.tmp 9) = .pointer (some ⟨eb, 0, none⟩) := (hv 9 (by kernel_rfl)).trans (by kernel_rfl)
        have hW1 := below_undrew hW
        have hcl : W.cell? ⟨eb, 0, none⟩ = some (.slice aov nv cv) := by rw [hW1.cell (p := ⟨eb, 0, none⟩) (by show eb < WD.heap.size; omega)]; exact C9.out
        clear hd hv
        have s9 := evalT t9
        clear t9
        refine fk_run ?_
        go_simp
      refine And.intro (fun u W A hW hBW hd hv hr => ?_) ?_
      · have e5 : u 5 = .slice aov nv cv := hd 5 (by decide) (by kernel_rfl)
        have t67 : A.eval (.tmp 67) = .slice aov nv cv := (hv 67 (by kernel_rfl)).trans ((by kernel_rfl : slotV _ _ _ u 67 = u 5).trans e5)
        have hW1 := below_undrew hW
        clear hd hv
        have s67 := evalT t67
        clear t67
        refine fk_enter (f := 40) (args := #[.slice aov nv cv]) (by go_simp) (fk_val ?_)
        exact of_calls _ (sealEnds m sig) W (HV2.out.on hW1) (by have := join_le 16 (sealEnds m sig) (fun s hs => by rw [HEN.out s hs]; omega) (by decide); have := HLEN.out; omega) (HT.out.on (HBW.out.trans (hW1.mono (by omega))))
      refine And.intro (fun u W A hW hBW hd hv hr => ?_) ?_
      · have t5 : A.eval (.tmp 5) = .pointer (some ⟨w.heap.size, 0, none⟩) := (hv 5 (by kernel_rfl)).trans (by kernel_rfl)
        clear hd hv
        have s5 := evalT t5
        clear t5
        refine fk_run ?_
        go_simp
      refine And.intro (fun u W A hW hBW hd hv hr => ?_) ?_
      · have e7 : u 7 = .pointer (some ⟨w.heap.size, 2, none⟩) := hd 7 (by decide) (by kernel_rfl)
        have t69 : A.eval (.tmp 69) = .pointer (some ⟨w.heap.size, 2, none⟩) := (hv 69 (by kernel_rfl)).trans ((by kernel_rfl : slotV _ _ _ u 69 = u 7).trans e7)
        have hW1 := below_undrew hW
        have hcl : W.cell? ⟨w.heap.size, 2, none⟩ = some (.slice aop lp cp) := by rw [hW1.cell (p := ⟨w.heap.size, 2, none⟩) (by show w.heap.size < WD.heap.size; omega)]; exact C2.out
        clear hd hv
        have s69 := evalT t69
        clear t69
        refine fk_run ?_
        go_simp
      refine And.intro (fun u W A hW hBW hd hv hr => ?_) ?_
      · have e0 : u 0 = .string pub := hd 0 (by decide) (by kernel_rfl)
        have e2 : u 2 = .int .i64 ((2 ^ lp : Nat) : Int) := hd 2 (by decide) (by kernel_rfl)
        have e4 : u 4 = .int .i64 idx := hd 4 (by decide) (by kernel_rfl)
        have e6 : u 6 = .string (dg (sealEnds m sig)) := hd 6 (by decide) (by kernel_rfl)
        have e8 : u 8 = .slice aop lp cp := hd 8 (by decide) (by kernel_rfl)
        have t62 : A.eval (.tmp 62) = .string pub := (hv 62 (by kernel_rfl)).trans ((by kernel_rfl : slotV _ _ _ u 62 = u 0).trans e0)
        have t64 : A.eval (.tmp 64) = .int .i64 ((2 ^ lp : Nat) : Int) := (hv 64 (by kernel_rfl)).trans ((by kernel_rfl : slotV _ _ _ u 64 = u 2).trans e2)
        have t66 : A.eval (.tmp 66) = .int .i64 idx := (hv 66 (by kernel_rfl)).trans ((by kernel_rfl : slotV _ _ _ u 66 = u 4).trans e4)
        have t68 : A.eval (.tmp 68) = .string (dg (sealEnds m sig)) := (hv 68 (by kernel_rfl)).trans ((by kernel_rfl : slotV _ _ _ u 68 = u 6).trans e6)
        have t70 : A.eval (.tmp 70) = .slice aop lp cp := (hv 70 (by kernel_rfl)).trans ((by kernel_rfl : slotV _ _ _ u 70 = u 8).trans e8)
        have hW1 := below_undrew hW
        clear hd hv
        have s62 := evalT t62
        have s64 := evalT t64
        have s66 := evalT t66
        have s68 := evalT t68
        have s70 := evalT t70
        clear t62 t64 t66 t68 t70
        refine fk_enter (f := 39) (args := #[.string pub, .int .i64 ((2 ^ lp : Nat) : Int), .int .i64 idx, .string (dg (sealEnds m sig)), .slice aop lp cp]) (by go_simp) (fk_val ?_)
        exact check_calls pub _ idx (dg (sealEnds m sig)) _ path W (HPT.out.on (HBW.out.trans (hW1.mono (by omega)))) (by have := HPATHB.out; omega) HSP.out (by rw [dg_size]; omega) (HT.out.on (HBW.out.trans (hW1.mono (by omega))))
      refine And.intro (fun u W A hW hBW hd hv hr => ?_) ?_
      · have e9 : u 9 = .bool (checkT pub ((2 ^ lp : Nat) : Int) idx (dg (sealEnds m sig)) path) := hd 9 (by decide) (by kernel_rfl)
        have t71 : A.eval (.tmp 71) = .bool (checkT pub ((2 ^ lp : Nat) : Int) idx (dg (sealEnds m sig)) path) := (hv 71 (by kernel_rfl)).trans ((by kernel_rfl : slotV _ _ _ u 71 = u 9).trans e9)
        clear hd hv
        have s71 := evalT t71
        clear t71
        refine fk_run ?_
        go_simp
      exact trivial
    intro u W' hb' hk' hf'
    have e10 : u 10 = .bool (checkT pub ((2 ^ lp : Nat) : Int) idx (dg (sealEnds m sig)) path) := hf' 10 (by decide) (by decide)
    have hb1 := below_undrew hb'
    have HKD2 : Hid (W'.heap[D]? = some (.deferred (some []))) := Lib.hid ((hb1.block D (Array.getElem?_eq_some_iff.1 HKD.out).1).trans HKD.out)
    clear hf' hb' hk'
    simp only [List.take, List.drop, wpList, lexPut, Nat.zero_add, Nat.reduceAdd, e10, Act.put, List.setIfInBounds_toArray, List.set_cons_succ, List.set_cons_zero]
    clear e10
    go_wp2_with fail
    refine ⟨by simp, .inl ⟨_, _, rfl, run_takeDeferred HKD2.out, ?_⟩⟩
    refine ⟨.bool (checkT pub ((2 ^ lp : Nat) : Int) idx (dg (sealEnds m sig)) path), by simp [results, Tryz.f15, go_sem], rfl, ?_⟩
    have hg := grownBy_putObj' W' D (.deferred none)
    refine (HBW.out.trans (hb1.mono (by omega))).trans ⟨hg.os, hg.tape, hg.output, hg.size, fun k hk2 => hg.block k ?_ (fun e => by have := Option.some.inj e; omega)⟩
    have := hb1.size
    omega
theorem verify_calls (pub m : ByteArray) (idx : Int) (vs vp : Value) (sig path : List ByteArray) (w : World) (hpub : pub.size ≤ 1099511627776) (hm : m.size ≤ 1099511627776) (hs : IsStrC w vs sig) (hp : IsStrC w vp path) (hss : ∀ s ∈ sig, s.size ≤ 1099511627776) (hps : ∀ s ∈ path, s.size ≤ 1099511627776) (hT : Tabs w) :
    Calls Tryz.prog 15 #[.string pub, .string m, .agg #[.int .i64 idx, vs, vp]] w fun e w' => e = .returned (.bool (verT pub m idx sig path)) ∧ Below w.heap.size w w' := by
  by_cases hA : sig.length = 18
  · by_cases hB : path.length ≤ 8
    · cases hC : sig.all isS with
      | false => rw [ver_no (by simp [hC])]; exact ver_no3 pub m idx vs vp sig path w hpub hm hs hp hss hps hT hA hB hC
      | true =>
        cases hD : path.all isS with
        | false => rw [ver_no (by simp [hD])]; exact ver_no4 pub m idx vs vp sig path w hpub hm hs hp hss hps hT hA hB hC hD
        | true =>
          by_cases hE : idx < 0
          · rw [ver_no (by omega)]; exact ver_no5 pub m idx vs vp sig path w hpub hm hs hp hss hps hT hA hB hC hD hE
          · by_cases hF : ((2 ^ path.length : Nat) : Int) ≤ idx
            · rw [ver_no (by omega)]; exact ver_no6 pub m idx vs vp sig path w hpub hm hs hp hss hps hT hA hB hC hD hE hF
            · exact ver_ok pub m idx vs vp sig path w hpub hm hs hp hss hps hT hA hB hC hD hE hF
    · rw [ver_no (by omega)]; exact ver_no2 pub m idx vs vp sig path w hpub hm hs hp hss hps hT hA hB
  · rw [ver_no (by omega)]; exact ver_no1 pub m idx vs vp sig path w hpub hm hs hp hss hps hT hA
end Go.Proofs.YtpogffdbencfnaaGreatDoor

