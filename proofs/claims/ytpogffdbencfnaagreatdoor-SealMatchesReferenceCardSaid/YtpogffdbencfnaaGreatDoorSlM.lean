import Derived.Test.YtpogffdbencfnaaGreatDoorSlMadeB
import Derived.Test.YtpogffdbencfnaaGreatDoorSlHead
import Derived.Test.YtpogffdbencfnaaGreatDoorTrR
import Derived.Test.YtpogffdbencfnaaGreatDoorDgRefChain
import Derived.BigQuiet
import Derived.Test.YtpogffdbencfnaaGreatDoorSlCk
import Derived.Test.YtpogffdbencfnaaGreatDoorKindsE
import Derived.Test.YtpogffdbencfnaaGreatDoorSlVf
import Derived.Test.YtpogffdbencfnaaGreatDoorTrNode
import Derived.Test.YtpogffdbencfnaaGreatDoorRows
import Derived.Deep.Strs
import Derived.ProofKit
import Derived.Lib.SmallJoins
set_option linter.unusedVariables false
namespace Go.Proofs.YtpogffdbencfnaaGreatDoor
open Go Go.RowKit

set_option maxHeartbeats 1000000 in
theorem rstart_calls (secret : ByteArray) (i k : Nat) (w : World) (hs : secret.size ≤ 1099511627776) (hi : i ≤ 1000000) (hk : k ≤ 1000000) :
    Calls Tryz.prog 32 #[.string secret, .int .i64 (i : Int), .int .i64 (k : Int)] w fun e w' => e = .returned (.string (startT secret i k)) ∧ Below w.heap.size w w' := by
  go_enter Tryz.func32, Tryz.ntmps32
  go_wp2_with fail
  refine (decimal_calls i (by omega) w).mono ?_
  rintro e w1 ⟨rfl, rfl⟩
  go_wp2_with fail
  refine (decimal_calls k (by omega) w1).mono ?_
  rintro e w2 ⟨rfl, rfl⟩
  go_wp2_with fail
  refine (rlit_calls [secret, decS i, decS k] w2 (by
    have a : (decS i).size ≤ 21 := itoaS_le i (by omega)
    have b : (decS k).size ≤ 21 := itoaS_le k (by omega)
    simp; omega) (by decide : 3 ≤ 30)).mono ?_
  rintro e w3 ⟨rfl, hB3⟩
  go_wp2
  go_ret
  exact ⟨rfl, hB3⟩
theorem ends_le (secret : ByteArray) (i : Nat) : needN (endsT secret i) ≤ 70368744177664 ∧ (joinB (endsT secret i)).length ≤ 70368744177664 := by
  have hz : ∀ s ∈ endsT secret i, s.size ≤ 16 := fun s h => by rw [endsT_size secret i s h]; omega
  have hl : (endsT secret i).length = 18 := by simp [endsT]
  have h1 := need_le 16 (endsT secret i) hz
  have h2 := join_le 16 (endsT secret i) hz (by decide)
  rw [hl] at h1 h2
  omega
set_option maxHeartbeats 2000000 in
theorem rkey_calls (secret : ByteArray) (i : Nat) (w : World) (hs : secret.size ≤ 1099511627776) (hi : i ≤ 1000000) :
    Calls Tryz.prog 57 #[.string secret, .int .i64 (i : Int)] w fun e w' => e = .returned (.string (keyT secret i)) ∧ Below w.heap.size w w' := by
  go_enter Tryz.func57, Tryz.ntmps57
  go_wp2_with fail
  go_loopw [5, 6] (fun v5 v6 W => ∃ k : Nat, v6 = .int .i64 (k : Int) ∧ k ≤ 18 ∧ Hid (Own w.heap.size W v5 ((endsT secret i).take k) ∧ Below w.heap.size w W)) (fun _ v6 _ => 18 - (RowKit.intOf v6).toNat)
  case atStart => exact ⟨0, rfl, by omega, Lib.hid ⟨Own.nil _ _, Below.refl _ _⟩⟩
  case round =>
    obtain ⟨k, rfl, hk, HI⟩ := hrel
    by_cases hlt : k < 18
    · have HTK : Hid ((endsT secret i).take (k + 1) = (endsT secret i).take k ++ [chainS (startT secret i k) 15]) := Lib.hid (range_take 18 k _ hlt)
      have hacc : ((endsT secret i).take k).length ≤ 1001 := by rw [List.length_take]; omega
      go_wp2_with fail
      refine (rstart_calls secret i k wr hs hi (by omega)).mono ?_
      rintro e w1 ⟨rfl, hB⟩
      have HI2 := Lib.hid (And.intro (HI.out.1.on hB) (HI.out.2.trans (hB.mono HI.out.2.size)))
      clear HI hB
      go_wp2_with fail
      refine (rchain_calls (startT secret i k) (by rw [startT_size]; decide) 15 w1).mono ?_
      rintro e w2 ⟨rfl, rfl⟩
      rw [show chainN 15 = 15 from rfl]
      generalize chainS (startT secret i k) 15 = c2 at *
      generalize (endsT secret i).take k = acc at *
      go_wp2_with (at_builtin; refine app1 rfl (.tmp 11) (.tmp 17) rfl (r := c2) rfl HI2.out.1 HI2.out.2 (Nat.le_refl _) (by omega) rfl ?_)
      intro v' w3 ho3 h3
      have HI3 : Hid (Own w.heap.size w3 v' ((endsT secret i).take (k + 1)) ∧ Below w.heap.size w w3) := by rw [HTK.out]; exact Lib.hid ⟨ho3, h3⟩
      clear ho3 h3 HI2 HTK
      go_wp2
      go_round
      case rel => exact ⟨k + 1, by go_num, by omega, HI3⟩
      case measure => simp only [RowKit.intOf]; omega
    · have HO : Hid (Own w.heap.size wr u5 (endsT secret i) ∧ Below w.heap.size w wr) := Lib.hid ⟨by have := HI.out.1; rwa [List.take_of_length_le (by simp [endsT]; omega)] at this, HI.out.2⟩
      clear HI
      go_wp2_with fail
      refine (rlist_calls u5 (endsT secret i) wr HO.out.1.strc.strs (ends_le secret i).1 (ends_le secret i).2).mono ?_
      rintro e w1 ⟨rfl, hB⟩
      have HB := Lib.hid (HO.out.2.trans (hB.mono HO.out.2.size))
      clear hB HO
      go_wp2
      go_ret
      exact ⟨rfl, HB.out⟩
set_option maxHeartbeats 2000000 in
theorem rkeys_calls (secret : ByteArray) (h : Nat) (w : World) (hs : secret.size ≤ 1099511627776) (hh : h ≤ 8) :
    Calls Tryz.prog 24 #[.string secret, .int .i64 (h : Int)] w fun e w' => ∃ v, e = .returned v ∧ Own w.heap.size w' v (keysT secret h) ∧ Below w.heap.size w w' := by
  obtain ⟨p, hp⟩ : ∃ p, p = 2 ^ h := ⟨_, rfl⟩
  have hp8 : p ≤ 256 := by rw [hp]; exact Nat.pow_le_pow_right (n := 2) (by decide) hh
  have HPO : Hid (∀ W, Calls Tryz.prog 29 #[.int .i64 (h : Int)] W fun e w' => e = .returned (.int .i64 (p : Int)) ∧ w' = W) := Lib.hid (fun W => by rw [hp]; exact power_calls h (by omega) W)
  have HKT : Hid (keysT secret h = (List.range p).map (keyT secret)) := Lib.hid (by rw [hp]; rfl)
  clear hp
  go_enter Tryz.func24, Tryz.ntmps24
  go_wp2_with fail
  go_loopw [5, 6] (fun v5 v6 W => ∃ k : Nat, v6 = .int .i64 (k : Int) ∧ k ≤ p ∧ Hid (Own w.heap.size W v5 ((keysT secret h).take k) ∧ Below w.heap.size w W)) (fun _ v6 _ => p - (RowKit.intOf v6).toNat)
  case atStart => exact ⟨0, rfl, by omega, Lib.hid ⟨Own.nil _ _, Below.refl _ _⟩⟩
  case round =>
    obtain ⟨k, rfl, hk, HI⟩ := hrel
    by_cases hlt : k < p
    · have HTK : Hid ((keysT secret h).take (k + 1) = (keysT secret h).take k ++ [keyT secret k]) := Lib.hid (by rw [HKT.out]; exact range_take p k _ hlt)
      have hacc : ((keysT secret h).take k).length ≤ 1001 := by rw [List.length_take]; omega
      go_wp2_with fail
      refine (HPO.out wr).mono ?_
      rintro e w1 ⟨rfl, rfl⟩
      go_wp2_with fail
      refine (rkey_calls secret k w1 hs (by omega)).mono ?_
      rintro e w2 ⟨rfl, hB⟩
      have HI2 := Lib.hid (And.intro (HI.out.1.on hB) (HI.out.2.trans (hB.mono HI.out.2.size)))
      clear HI hB
      generalize keyT secret k = c2 at *
      generalize (keysT secret h).take k = acc at *
      go_wp2_with (at_builtin; refine app1 rfl (.tmp 13) (.tmp 17) rfl (r := c2) rfl HI2.out.1 HI2.out.2 (Nat.le_refl _) (by omega) rfl ?_)
      intro v' w3 ho3 h3
      have HI3 : Hid (Own w.heap.size w3 v' ((keysT secret h).take (k + 1)) ∧ Below w.heap.size w w3) := by rw [HTK.out]; exact Lib.hid ⟨ho3, h3⟩
      clear ho3 h3 HI2 HTK
      go_wp2
      go_round
      case rel => exact ⟨k + 1, by go_num, by omega, HI3⟩
      case measure => simp only [RowKit.intOf]; omega
    · have HO : Hid (Own w.heap.size wr u5 (keysT secret h) ∧ Below w.heap.size w wr) := Lib.hid ⟨by have := HI.out.1; rwa [List.take_of_length_le (by rw [HKT.out]; simp; omega)] at this, HI.out.2⟩
      clear HI
      go_wp2_with fail
      refine (HPO.out wr).mono ?_
      rintro e w1 ⟨rfl, rfl⟩
      go_wp2
      go_ret
      exact ⟨_, rfl, HO.out.1, HO.out.2⟩
theorem keysT_16 (secret : ByteArray) (h : Nat) : ∀ s ∈ keysT secret h, s.size ≤ 1099511627776 := fun s hs => by
  unfold keysT at hs
  obtain ⟨k, _, rfl⟩ := List.mem_map.1 hs
  rw [keyT_size]; decide
theorem rpublic_calls (secret : ByteArray) (h : Nat) (w : World) (hs : secret.size ≤ 1099511627776) (hh : h ≤ 8) :
    Calls Tryz.prog 11 #[.string secret, .int .i64 (h : Int)] w fun e w' => e = .returned (.tuple #[.string (pubT secret h), .int .i64 0]) ∧ Below w.heap.size w w' := by
  have hd1 : decide ((h : Int) < 0) = false := decide_eq_false (by omega)
  have hd2 : decide ((8 : Int) < (h : Int)) = false := decide_eq_false (by omega)
  have hp8 : 2 ^ h ≤ 256 := Nat.pow_le_pow_right (n := 2) (by decide) hh
  go_enter Tryz.func11, Tryz.ntmps11
  go_wp2_with fail
  refine (rkeys_calls secret h w hs hh).mono ?_
  rintro e w1 ⟨v, rfl, ho, hB⟩
  have HO := Lib.hid ho
  have HB := Lib.hid hB
  clear ho hB
  go_wp2_with fail
  refine (rroot_calls (2 ^ h) (keysT secret h) v w1 (keysT_len secret h) HO.out.strc (keysT_16 secret h) (by rw [keysT_len]; omega)).mono ?_
  rintro e w2 ⟨rfl, hB⟩
  have HB2 := Lib.hid (HB.out.trans (hB.mono HB.out.size))
  clear hB HB HO
  go_wp2
  go_ret2
  exact ⟨rfl, HB2.out⟩
theorem rpublic_bad (secret : ByteArray) (h : Int) (w : World) (hh : h < 0 ∨ 8 < h) :
    Calls Tryz.prog 11 #[.string secret, .int .i64 h] w fun e w' => e = .returned (.tuple #[.string ByteArray.empty, .int .i64 1]) ∧ w' = w := by
  rcases hh with hh | hh
  · have hd1 : decide (h < 0) = true := decide_eq_true hh
    go_enter Tryz.func11, Tryz.ntmps11
    go_wp2
    go_ret2
    exact ⟨rfl, rfl⟩
  · have hd1 : decide (h < 0) = false := decide_eq_false (by omega)
    have hd2 : decide (8 < h) = true := decide_eq_true hh
    go_enter Tryz.func11, Tryz.ntmps11
    go_wp2
    go_ret2
    exact ⟨rfl, rfl⟩
end Go.Proofs.YtpogffdbencfnaaGreatDoor

namespace Go.Proofs.YtpogffdbencfnaaGreatDoor
open Go Go.RowKit

theorem two_cells (w : World) (xs ys : Array Value) (T U : TypeId) : ((w.alloc (.cells xs T)).alloc (.cells ys U)).heap[w.heap.size]? = some (.cells xs T (0, 0)) ∧ ((w.alloc (.cells xs T)).alloc (.cells ys U)).heap[w.heap.size + 1]? = some (.cells ys U (0, 0)) ∧
    ((w.alloc (.cells xs T)).alloc (.cells ys U)).heap.size = w.heap.size + 2 ∧ Below w.heap.size w ((w.alloc (.cells xs T)).alloc (.cells ys U)) := by
  refine ⟨?_, ?_, by simp, ((Below.refl _ w).alloc (Nat.le_refl _) _).alloc (by simp) _⟩
  · show ((w.heap.push (.cells xs T)).push (.cells ys U))[w.heap.size]? = _
    rw [push_old _ _ _ (by simp), push_at _ _ _ rfl]
  · show ((w.heap.push (.cells xs T)).push (.cells ys U))[w.heap.size + 1]? = _
    rw [push_at _ _ _ (by simp)]
/-- the reference's seal under way -/
def RSig (ob : Nat) (i : Nat) (W1 : World) (l : List ByteArray) (W : World) : Prop :=
  ∃ v, W.heap[ob]? = some (.cells #[.int .i64 (i : Int), v, .slice none 0 0] 24 (0, 0)) ∧ Own W1.heap.size W v l ∧ Chg [ob] W1 W
theorem Chg.belowAt {S : List Nat} {w w' : World} (h : Chg S w w') (B : Nat) (hB : B ≤ w.heap.size) (hS : ∀ b ∈ S, B ≤ b) : Below B w w' := ⟨h.os, h.tape, h.output, h.size, fun k hk => h.block k (by omega) (fun e => by have := hS k e; omega)⟩
theorem rsign_end {W : World} {rb ob : Nat} {x v p : Value} {n : Int} {T : TypeId} (hne : ob ≠ rb) (hr : W.heap[rb]? = some (.cells #[.int .i64 0, .slice none 0 0, .slice none 0 0] T (0, 0))) (ho : W.heap[ob]? = some (.cells #[.int .i64 n, v, .slice none 0 0] T (0, 0))) (hv : ∃ a b c, v = .slice a b c) :
    ((((W.setCell ⟨ob, 2, none⟩ p).setCell ⟨rb, 0, none⟩ x).setCell ⟨rb, 1, none⟩ v).setCell ⟨rb, 2, none⟩ p).heap[rb]? = some (.cells #[x, v, p] T (0, 0)) ∧
    (∀ b o s, W.cell? ⟨b, o, none⟩ = some (.string s) → ((((W.setCell ⟨ob, 2, none⟩ p).setCell ⟨rb, 0, none⟩ x).setCell ⟨rb, 1, none⟩ v).setCell ⟨rb, 2, none⟩ p).cell? ⟨b, o, none⟩ = some (.string s)) ∧
    W.heap.size ≤ ((((W.setCell ⟨ob, 2, none⟩ p).setCell ⟨rb, 0, none⟩ x).setCell ⟨rb, 1, none⟩ v).setCell ⟨rb, 2, none⟩ p).heap.size ∧
    ∀ B, B ≤ rb → B ≤ ob → Below B W ((((W.setCell ⟨ob, 2, none⟩ p).setCell ⟨rb, 0, none⟩ x).setCell ⟨rb, 1, none⟩ v).setCell ⟨rb, 2, none⟩ p) := by
  obtain ⟨va, vb, vc, rfl⟩ := hv
  have h0 := (heap_set_other W ob 2 p rb (Ne.symm hne)).trans hr
  have h1 := heap_set_same _ rb 0 x _ _ _ h0
  have h2 := heap_set_same _ rb 1 (.slice va vb vc) _ _ _ h1
  have h3 := heap_set_same _ rb 2 p _ _ _ h2
  have hk : ∀ k, k ≠ rb → k ≠ ob → ((((W.setCell ⟨ob, 2, none⟩ p).setCell ⟨rb, 0, none⟩ x).setCell ⟨rb, 1, none⟩ (.slice va vb vc)).setCell ⟨rb, 2, none⟩ p).heap[k]? = W.heap[k]? := fun k hk hk2 => by
    rw [heap_set_other _ rb 2 p k hk, heap_set_other _ rb 1 _ k hk, heap_set_other _ rb 0 x k hk, heap_set_other _ ob 2 p k hk2]
  refine ⟨h3, fun b o s hc => ?_, by simp only [World.size_setCell]; exact Nat.le_refl _, fun B h4 h5 => ((((Below.refl _ _).setCell (p := ⟨ob, 2, none⟩) h5 p).setCell (p := ⟨rb, 0, none⟩) h4 x).setCell (p := ⟨rb, 1, none⟩) h4 _).setCell (p := ⟨rb, 2, none⟩) h4 p⟩
  have hb1 : b ≠ rb := fun e => by
    subst e
    rw [cell_of_row _ _ o _ _ _ hr] at hc
    match o, hc with
    | 0, hc => simp at hc
    | 1, hc => simp at hc
    | 2, hc => simp at hc
    | o + 3, hc => simp at hc
  have hb2 : b ≠ ob := fun e => by
    subst e
    rw [cell_of_row _ _ o _ _ _ ho] at hc
    match o, hc with
    | 0, hc => simp at hc
    | 1, hc => simp at hc
    | 2, hc => simp at hc
    | o + 3, hc => simp at hc
  rw [World.cell?_of_block (a := ⟨b, o, none⟩) (hk b hb1 hb2)]; exact hc
set_option maxRecDepth 100000 in
set_option maxHeartbeats 4000000 in
theorem rsign_ok (secret m : ByteArray) (h i : Nat) (w : World) (hs : secret.size ≤ 1099511627776) (hm : m.size ≤ 1099511627776) (hh : h ≤ 8) (hi : i < 2 ^ h) :
    Calls Tryz.prog 13 #[.string secret, .int .i64 (h : Int), .int .i64 (i : Int), .string m] w fun e w' => ∃ vs vp, e = .returned (.tuple #[.agg #[.int .i64 (i : Int), vs, vp], .int .i64 0]) ∧ IsStrC w' vs (sigT secret i m) ∧ IsStrC w' vp (pathT (keysT secret h) i) ∧ Below w.heap.size w w' := by
  obtain ⟨p, hp⟩ : ∃ p, p = 2 ^ h := ⟨_, rfl⟩
  have hp8 : p ≤ 256 := by rw [hp]; exact Nat.pow_le_pow_right (n := 2) (by decide) hh
  have HPO : Hid (∀ W, Calls Tryz.prog 29 #[.int .i64 (h : Int)] W fun e w' => e = .returned (.int .i64 (p : Int)) ∧ w' = W) := Lib.hid (fun W => by rw [hp]; exact power_calls h (by omega) W)
  have hip : i < p := by rw [hp]; exact hi
  have HLK : Hid ((keysT secret h).length = p) := Lib.hid (by rw [keysT_len, hp])
  have HPI : Hid (0 ≤ (i : Int) ∧ (i : Int) < ((keysT secret h).length : Int)) := Lib.hid (by rw [HLK.out]; omega)
  clear hp hi
  have hd1 : decide ((h : Int) < 0) = false := decide_eq_false (by omega)
  have hd2 : decide ((8 : Int) < (h : Int)) = false := decide_eq_false (by omega)
  have hd3 : decide ((i : Int) < 0) = false := decide_eq_false (by omega)
  have hd4 : decide ((p : Int) ≤ (i : Int)) = false := decide_eq_false (by omega)
  go_enter Tryz.func13, Tryz.ntmps13
  go_wp2_with fail
  refine (HPO.out _).mono ?_
  rintro e w1 ⟨rfl, rfl⟩
  go_wp2_with fail
  obtain ⟨hr1, hr2, hsz, hbw⟩ := two_cells w #[.int .i64 0, .slice none 0 0, .slice none 0 0] #[.int .i64 (i : Int), .slice none 0 0, .slice none 0 0] 24 24
  have hob1 : w.heap.size < w.heap.size + 1 := by omega
  generalize hgw : (w.alloc (.cells #[.int .i64 0, .slice none 0 0, .slice none 0 0] 24)).alloc (.cells #[.int .i64 (i : Int), .slice none 0 0, .slice none 0 0] 24) = W0 at *
  have hob2 : w.heap.size + 1 < W0.heap.size := by omega
  clear hgw hsz
  generalize w.heap.size + 1 = ob at *
  have HR1 := Lib.hid hr1
  have HR2 := Lib.hid hr2
  have HB0 := Lib.hid hbw
  clear hr1 hr2 hbw
  refine (rdigits_calls m W0 (by omega)).mono ?_
  rintro e W1 ⟨vd, rfl, hod, hB⟩
  have HD := Lib.hid hod.nats
  have HDL := Lib.hid (digsT_len m)
  have HDO : Hid (∀ b, vd.ownBlock = some b → W0.heap.size ≤ b) := Lib.hid (fun b hb => (World.ownsRow.lt hod b hb).1)
  have HR1' := Lib.hid ((hB.block w.heap.size (by omega)).trans HR1.out)
  have HR2' := Lib.hid ((hB.block ob hob2).trans HR2.out)
  have HB1 := Lib.hid (HB0.out.trans (hB.mono HB0.out.size))
  have hob3 : ob < W1.heap.size := Nat.lt_of_lt_of_le hob2 hB.size
  obtain ⟨bd, od, cd, rfl, _, _⟩ := nats_cell HD.out 0 (by rw [HDL.out]; decide)
  rw [HDL.out] at HD HDO ⊢
  have hbdo : ob < bd := Nat.lt_of_lt_of_le hob2 (HDO.out bd rfl)
  clear hod hB HR1 HR2 HB0 HDO hob2
  go_wp2_with fail
  go_loopw [12] (fun v12 W => ∃ k : Nat, v12 = .int .i64 (k : Int) ∧ k ≤ 18 ∧ Hid (RSig ob i W1 ((sigT secret i m).take k) W)) (fun v12 _ => 18 - (RowKit.intOf v12).toNat)
  case atStart => exact ⟨0, rfl, by omega, Lib.hid ⟨_, HR2'.out, Own.nil _ _, Chg.refl _ _⟩⟩
  case round =>
    obtain ⟨k, rfl, hk, HK⟩ := hrel
    by_cases hlt : k < 18
    · have HTK : Hid ((sigT secret i m).take (k + 1) = (sigT secret i m).take k ++ [chainS (startT secret i k) ((digsT m).getD k 0)]) := Lib.hid (range_take 18 k _ hlt)
      have hacc : ((sigT secret i m).take k).length ≤ 18 := by rw [List.length_take]; omega
      have hdle := dig_le m k
      have hst16 := startT_size secret i k
      obtain ⟨v, hv1, hv2, hv3⟩ := HK.out
      have hobW : ob < wr.heap.size := Nat.lt_of_lt_of_le hob3 hv3.size
      have hW1s : W1.heap.size ≤ wr.heap.size := hv3.size
      obtain ⟨bd2, od2, cdx, hed, hbd, hcd⟩ := nats_cell HD.out k (by rw [HDL.out]; exact hlt)
      simp only [Value.slice.injEq, Option.some.injEq, Addr.mk.injEq] at hed
      obtain ⟨⟨rfl, rfl, _⟩, hd2', hd3'⟩ := hed
      have hbdw : bd < wr.heap.size := Nat.lt_of_lt_of_le hbd hv3.size
      have HCD : Hid (wr.cell? ⟨bd, od + k, none⟩ = some (.int .i64 ((digsT m).getD k 0 : Int))) := Lib.hid (by rw [hv3.cell hbd (by simp; omega)]; exact hcd)
      have HV1 := Lib.hid hv1
      have HV2 := Lib.hid hv2
      have HV3 := Lib.hid hv3
      have HDW : Hid (bd < W1.heap.size) := Lib.hid hbd
      clear hv1 hv2 hv3 hd2' hd3' hcd hbd HK
      generalize (sigT secret i m).take k = acc at *
      generalize (digsT m).getD k 0 = d at *
      have hk18 : (k : Int) < 18 := by omega
      go_wp2_with fail
      refine wp_region_res2 15 (ob) (fun ii u => [valF (.pointer (some ⟨ob, 1, none⟩)), OwnF W1.heap.size (acc), valF (.string secret), valF (.int .i64 (i : Int)), valF (.int .i64 (k : Int)), valF (.string (startT secret i k)), valF (.slice (some ⟨bd, od, none⟩) 18 cd), valF (.int .i64 (k : Int)), valF (.pointer (some ⟨bd, od + k, none⟩)), valF (.int .i64 (d : Int)), valF (.string (chainS (startT secret i k) d)), OwnF W1.heap.size ([chainS (startT secret i k) d]), OwnF W1.heap.size (acc ++ [chainS (startT secret i k) d]), valF (.pointer (some ⟨ob, 1, none⟩)), MemK ob (.cells #[.int .i64 (i : Int), u 12, .slice none 0 0] 24 (0, 0))].getD ii anyF) (fun jj ii => (jj == 12 && ii == 1)) (fun jj bb => (jj = 1 ∧ v.ownBlock = some bb) ∨ (jj = 14 ∧ bb = ob)) (by kernel_rfl) (by kernel_rfl) (by kernel_rfl) (by kernel_rfl) (by kernel_rfl) (Nat.le_of_lt hobW) ?_ ?_ ?_ ?_ ?_
      · intro ii u hii
        refine AllKStable.at ?_ ii
        exact ⟨.inl (valF_stable _ _), .inl (ownF_st _ _ _), .inl (valF_stable _ _), .inl (valF_stable _ _), .inl (valF_stable _ _), .inl (valF_stable _ _), .inl (valF_stable _ _), .inl (valF_stable _ _), .inl (valF_stable _ _), .inl (valF_stable _ _), .inl (valF_stable _ _), .inl (ownF_st _ _ _), .inl (ownF_st _ _ _), .inl (valF_stable _ _), .inl (memK_st _ _ _), trivial⟩
      · intro ii u u2 hii hx
        match ii, hii, hx with
        | 0, _, _ => rfl
        | 1, _, _ => rfl
        | 2, _, _ => rfl
        | 3, _, _ => rfl
        | 4, _, _ => rfl
        | 5, _, _ => rfl
        | 6, _, _ => rfl
        | 7, _, _ => rfl
        | 8, _, _ => rfl
        | 9, _, _ => rfl
        | 10, _, _ => rfl
        | 11, _, _ => rfl
        | 12, _, _ => rfl
        | 13, _, _ => rfl
        | 14, _, hx =>
          have h12 := hx 12 (by decide) (by kernel_rfl)
          show MemK ob (.cells #[.int .i64 (i : Int), u 12, .slice none 0 0] 24 (0, 0)) = MemK ob (.cells #[.int .i64 (i : Int), u2 12, .slice none 0 0] 24 (0, 0))
          rw [h12]
        | m + 15, hm, _ => exact absurd hm (by omega)
      · refine ⟨fun j b _ h => ?_, fun j j2 b _ _ h h2 => ?_⟩
        · rcases h with ⟨_, h⟩ | ⟨_, h⟩
          · have := own_block HV2.out b h; omega
          · omega
        · rcases h with ⟨_, h⟩ | ⟨_, h⟩ <;> rcases h2 with ⟨_, h2⟩ | ⟨_, h2⟩
          · omega
          · have := own_block HV2.out b h; omega
          · have := own_block HV2.out b h2; omega
          · omega
      · refine And.intro (fun u W A hW hBW hd hv hr hkq => ?_) ?_
        · have t10 : A.eval (.tmp 10) = .pointer (some ⟨ob, 0, none⟩) := (hv 10 (by kernel_rfl)).trans (by kernel_rfl)
          clear hd hv
          have s10 := evalT t10
          clear t10
          refine fk_run ?_
          go_simp
        refine And.intro (fun u W A hW hBW hd hv hr hkq => ?_) ?_
        · have e0 : u 0 = .pointer (some ⟨ob, 1, none⟩) := hd 0 (by decide) (by kernel_rfl)
          have t40 : A.eval (.tmp 40) = .pointer (some ⟨ob, 1, none⟩) := (hv 40 (by kernel_rfl)).trans ((by kernel_rfl : slotV _ _ _ u 40 = u 0).trans e0)
          have hW1 := below_undrew hW
          have hsz : wr.heap.size ≤ W.heap.size := hW1.size
          have ho : Own W1.heap.size W v acc := ownF_st W1.heap.size ob acc _ W v hW1 (fun b hb => hr 1 b (by decide) (.inl rfl) (.inl ⟨rfl, hb⟩)) HV2.out
          have hcl : W.cell? ⟨ob, 1, none⟩ = some v := by rw [cell_of_row W ob 1 _ _ _ ((hr 14 ob (by decide) (.inr (by kernel_rfl)) (.inr ⟨rfl, rfl⟩)).trans HV1.out)]; rfl
          clear hd hv
          have s40 := evalT t40
          clear t40
          exact fk_load_own (v := v) (by go_simp) ho (fun b hb => .inr (.inl ⟨rfl, hb⟩))
        refine And.intro (fun u W A hW hBW hd hv hr hkq => ?_) ?_
        · have t0 : A.eval (.tmp 0) = .string secret := (hv 0 (by kernel_rfl)).trans (by kernel_rfl)
          clear hd hv
          have s0 := evalT t0
          clear t0
          refine fk_run ?_
          go_simp
        refine And.intro (fun u W A hW hBW hd hv hr hkq => ?_) ?_
        · have t2 : A.eval (.tmp 2) = .int .i64 (i : Int) := (hv 2 (by kernel_rfl)).trans (by kernel_rfl)
          clear hd hv
          have s2 := evalT t2
          clear t2
          refine fk_run ?_
          go_simp
        refine And.intro (fun u W A hW hBW hd hv hr hkq => ?_) ?_
        · have t12 : A.eval (.tmp 12) = .int .i64 (k : Int) := (hv 12 (by kernel_rfl)).trans (by kernel_rfl)
          clear hd hv
          have s12 := evalT t12
          clear t12
          refine fk_run ?_
          go_simp
        refine And.intro (fun u W A hW hBW hd hv hr hkq => ?_) ?_
        · have e2 : u 2 = .string secret := hd 2 (by decide) (by kernel_rfl)
          have e3 : u 3 = .int .i64 (i : Int) := hd 3 (by decide) (by kernel_rfl)
          have e4 : u 4 = .int .i64 (k : Int) := hd 4 (by decide) (by kernel_rfl)
          have t42 : A.eval (.tmp 42) = .string secret := (hv 42 (by kernel_rfl)).trans ((by kernel_rfl : slotV _ _ _ u 42 = u 2).trans e2)
          have t43 : A.eval (.tmp 43) = .int .i64 (i : Int) := (hv 43 (by kernel_rfl)).trans ((by kernel_rfl : slotV _ _ _ u 43 = u 3).trans e3)
          have t44 : A.eval (.tmp 44) = .int .i64 (k : Int) := (hv 44 (by kernel_rfl)).trans ((by kernel_rfl : slotV _ _ _ u 44 = u 4).trans e4)
          have hW1 := below_undrew hW
          have hsz : wr.heap.size ≤ W.heap.size := hW1.size
          clear hd hv
          have s42 := evalT t42
          have s43 := evalT t43
          have s44 := evalT t44
          clear t42 t43 t44
          refine fk_enter (f := 32) (args := #[.string secret, .int .i64 (i : Int), .int .i64 (k : Int)]) (by go_simp) (fk_val ?_)
          exact rstart_calls secret i k W hs (by omega) (by omega)
        refine And.intro (fun u W A hW hBW hd hv hr hkq => ?_) ?_
        · have t11 : A.eval (.tmp 11) = .slice (some ⟨bd, od, none⟩) 18 cd := (hv 11 (by kernel_rfl)).trans (by kernel_rfl)
          clear hd hv
          have s11 := evalT t11
          clear t11
          refine fk_run ?_
          go_simp
        refine And.intro (fun u W A hW hBW hd hv hr hkq => ?_) ?_
        · have t12 : A.eval (.tmp 12) = .int .i64 (k : Int) := (hv 12 (by kernel_rfl)).trans (by kernel_rfl)
          clear hd hv
          have s12 := evalT t12
          clear t12
          refine fk_run ?_
          go_simp
        refine And.intro (fun u W A hW hBW hd hv hr hkq => ?_) ?_
        · have e6 : u 6 = .slice (some ⟨bd, od, none⟩) 18 cd := hd 6 (by decide) (by kernel_rfl)
          have e7 : u 7 = .int .i64 (k : Int) := hd 7 (by decide) (by kernel_rfl)
          have t46 : A.eval (.tmp 46) = .slice (some ⟨bd, od, none⟩) 18 cd := (hv 46 (by kernel_rfl)).trans ((by kernel_rfl : slotV _ _ _ u 46 = u 6).trans e6)
          have t47 : A.eval (.tmp 47) = .int .i64 (k : Int) := (hv 47 (by kernel_rfl)).trans ((by kernel_rfl : slotV _ _ _ u 47 = u 7).trans e7)
          have hka : (0 : Int) ≤ (k : Int) := by omega
          clear hd hv
          have s46 := evalT t46
          have s47 := evalT t47
          clear t46 t47
          refine fk_run ?_
          go_simp
        refine And.intro (fun u W A hW hBW hd hv hr hkq => ?_) ?_
        · have e8 : u 8 = .pointer (some ⟨bd, od + k, none⟩) := hd 8 (by decide) (by kernel_rfl)
          have t48 : A.eval (.tmp 48) = .pointer (some ⟨bd, od + k, none⟩) := (hv 48 (by kernel_rfl)).trans ((by kernel_rfl : slotV _ _ _ u 48 = u 8).trans e8)
          have hW1 := below_undrew hW
          have hsz : wr.heap.size ≤ W.heap.size := hW1.size
          have hz := hkq bd hbdw (fun j _ h => h.elim (fun q => by have := (own_block HV2.out bd q.2).1; have := HDW.out; omega) (fun q => by have := q.2; omega))
          have hcl : W.cell? ⟨bd, od + k, none⟩ = some (.int .i64 (d : Int)) := (World.cell?_of_block (a := ⟨bd, od + k, none⟩) hz).trans HCD.out
          clear hd hv
          have s48 := evalT t48
          clear t48
          refine fk_run ?_
          go_simp
        refine And.intro (fun u W A hW hBW hd hv hr hkq => ?_) ?_
        · have e5 : u 5 = .string (startT secret i k) := hd 5 (by decide) (by kernel_rfl)
          have e9 : u 9 = .int .i64 (d : Int) := hd 9 (by decide) (by kernel_rfl)
          have t45 : A.eval (.tmp 45) = .string (startT secret i k) := (hv 45 (by kernel_rfl)).trans ((by kernel_rfl : slotV _ _ _ u 45 = u 5).trans e5)
          have t49 : A.eval (.tmp 49) = .int .i64 (d : Int) := (hv 49 (by kernel_rfl)).trans ((by kernel_rfl : slotV _ _ _ u 49 = u 9).trans e9)
          have hW1 := below_undrew hW
          have hsz : wr.heap.size ≤ W.heap.size := hW1.size
          clear hd hv
          have s45 := evalT t45
          have s49 := evalT t49
          clear t45 t49
          refine fk_enter (f := 31) (args := #[.string (startT secret i k), .int .i64 (d : Int)]) (by go_simp) (fk_val ?_)
          have hch := rchain_calls (startT secret i k) (by omega) (d : Int) W
          rw [chainN_nat d (by omega)] at hch
          exact hch.mono fun e w' ⟨he, hw⟩ => ⟨he, by rw [hw]; exact Below.refl _ _⟩
        refine And.intro (fun u W A hW hBW hd hv hr hkq => ?_) ?_
        · have e10 : u 10 = .string (chainS (startT secret i k) d) := hd 10 (by decide) (by kernel_rfl)
          have t50 : A.eval (.tmp 50) = .string (chainS (startT secret i k) d) := (hv 50 (by kernel_rfl)).trans ((by kernel_rfl : slotV _ _ _ u 50 = u 10).trans e10)
          have hW1 := below_undrew hW
          have hsz : wr.heap.size ≤ W.heap.size := hW1.size
          clear hd hv
          have s50 := evalT t50
          clear t50
          exact fk_step (v := .slice (some ⟨W.heap.size, 0, none⟩) 1 1) (w' := W.alloc (.cells #[.string (chainS (startT secret i k) d)] 9)) (by go_simp) (fk_own_of (by omega) (own_lit W [chainS (startT secret i k) d] (show 1 ≤ maxLen by decide)) ((Below.refl _ _).alloc (Nat.le_refl _) _))
        refine And.intro (fun u W A hW hBW hd hv hr hkq => ?_) ?_
        · have e1 : Own W1.heap.size W (u 1) (acc) := hd 1 (by decide) (by kernel_rfl)
          have e11 : Own W1.heap.size W (u 11) ([chainS (startT secret i k) d]) := hd 11 (by decide) (by kernel_rfl)
          have t41 : A.eval (.tmp 41) = u 1 := (hv 41 (by kernel_rfl)).trans (by kernel_rfl)
          have t51 : A.eval (.tmp 51) = u 11 := (hv 51 (by kernel_rfl)).trans (by kernel_rfl)
          have hW1 := below_undrew hW
          have hsz : wr.heap.size ≤ W.heap.size := hW1.size
          clear hd hv
          exact fk_append (.tmp 41) (.tmp 51) rfl t41 t51 e1 e11.strc (by omega) (by simp <;> omega) (fun c hc => .inl ⟨1, by decide, by decide, hc⟩)
        refine And.intro (fun u W A hW hBW hd hv hr hkq => ?_) ?_
        · have t10 : A.eval (.tmp 10) = .pointer (some ⟨ob, 0, none⟩) := (hv 10 (by kernel_rfl)).trans (by kernel_rfl)
          clear hd hv
          have s10 := evalT t10
          clear t10
          refine fk_run ?_
          go_simp
        refine And.intro (fun u W A hW hBW hd hv hr hkq => ?_) ?_
        · have e12 : Own W1.heap.size W (u 12) (acc ++ [chainS (startT secret i k) d]) := hd 12 (by decide) (by kernel_rfl)
          have e13 : u 13 = .pointer (some ⟨ob, 1, none⟩) := hd 13 (by decide) (by kernel_rfl)
          have t53 : A.eval (.tmp 53) = .pointer (some ⟨ob, 1, none⟩) := (hv 53 (by kernel_rfl)).trans ((by kernel_rfl : slotV _ _ _ u 53 = u 13).trans e13)
          have t52 : A.eval (.tmp 52) = u 12 := (hv 52 (by kernel_rfl)).trans (by kernel_rfl)
          have hW1 := below_undrew hW
          have hsz : wr.heap.size ≤ W.heap.size := hW1.size
          have hob5 := (hr 14 ob (by decide) (.inl rfl) (.inr ⟨rfl, rfl⟩)).trans HV1.out
          clear hd hv
          have s53 := evalT t53
          have s52 := evalT t52
          clear t53 t52
          have hcl : W.cell? ⟨ob, 1, none⟩ = some v := by rw [cell_of_row W ob 1 _ _ _ hob5]; rfl
          have hfz : W.frozen? ⟨ob, 1, none⟩ = false := by simp [World.frozen?, hob5]
          obtain ⟨ao9, n9, c9, hv9⟩ := own_form e12
          change fkindAt _ _ _ _ _ _ (MemK ob (.cells #[.int .i64 (i : Int), u 12, .slice none 0 0] 24 (0, 0)))
          rw [hv9] at s52 ⊢
          refine fk_store (b := ob) (i := 1) (v := .slice ao9 n9 c9) (by go_simp) (by omega) (.inr (.inr ⟨rfl, rfl⟩)) ?_
          rw [heap_set_same W ob 1 _ _ _ _ hob5]; rfl
        exact trivial
      intro u W' hb hk2 hf
      have e12 : Own W1.heap.size W' (u 12) (acc ++ [chainS (startT secret i k) d]) := hf 12 (by decide) (by decide)
      have e14 : W'.heap[ob]? = some (.cells #[.int .i64 (i : Int), u 12, .slice none 0 0] 24 (0, 0)) := hf 14 (by decide) (by decide)
      have hb1 := below_undrew hb
      have HK1 : Hid (RSig ob i W1 ((sigT secret i m).take (k + 1)) W') := Lib.hid ⟨u 12, e14, by rw [HTK.out]; exact e12, hb1.os.trans HV3.out.os, hb1.tape.trans HV3.out.tape, hb1.output.trans HV3.out.output, Nat.le_trans hW1s hb1.size, fun b hb2 hS => (hk2 b (by omega) (fun j _ h => by
        rcases h with ⟨_, h⟩ | ⟨_, h⟩
        · have := (own_block HV2.out b h).1; omega
        · exact hS (by simp [h]))).trans (HV3.out.block b hb2 hS)⟩
      clear hf hb hk2 hb1 e12 e14 HV1 HV2 HV3 HCD HTK
      simp only [List.take, List.drop, wpList, lexPut, Nat.zero_add, Nat.reduceAdd, Act.put, List.setIfInBounds_toArray, List.set_cons_succ, List.set_cons_zero]
      go_wp2
      go_round
      case rel => exact ⟨k + 1, by go_num, by omega, HK1⟩
      case measure => simp only [RowKit.intOf]; omega
    · obtain rfl : k = 18 := by omega
      obtain ⟨v, hv1, hv2, hv3⟩ := HK.out
      rw [List.take_of_length_le (by rw [sigT_len]; exact Nat.le_refl _)] at hv2
      have hbw := hv3.belowAt ob (by omega) (by simp)
      have HRB := Lib.hid ((hv3.block w.heap.size (by omega) (by simp; omega)).trans HR1'.out)
      have HV1 := Lib.hid hv1
      have HV2 := Lib.hid hv2
      have HBW : Hid (Below w.heap.size w wr) := Lib.hid (HB1.out.trans (hbw.mono (by omega)))
      have hobW : ob < wr.heap.size := Nat.lt_of_lt_of_le hob3 hv3.size
      clear hv1 hv2 hv3 hbw HK
      rw [show ((18 : Nat) : Int) = 18 from rfl]
      go_wp2_with fail
      refine (rkeys_calls secret h wr hs hh).mono ?_
      rintro e W2 ⟨vk, rfl, hok, hB⟩
      have HOK := Lib.hid hok
      have HB2 := Lib.hid hB
      clear hok hB
      go_wp2_with fail
      refine (rPath_any (keysT secret h) vk (i : Int) W2 HOK.out.strc (keysT_16 secret h) (by rw [HLK.out]; omega)).mono ?_
      rw [if_pos HPI.out, if_pos HPI.out, Int.toNat_natCast]
      rintro e W3 ⟨vp, rfl, hsp, hB⟩
      have hb3 := HB2.out.trans (hB.mono HB2.out.size)
      have HV1b := Lib.hid ((hb3.block ob hobW).trans HV1.out)
      have HRBb := Lib.hid ((hb3.block w.heap.size (by omega)).trans HRB.out)
      have HV2b := Lib.hid (HV2.out.on hb3)
      have HBW3 := Lib.hid (HBW.out.trans (hb3.mono HBW.out.size))
      obtain ⟨aop, cp, rfl⟩ := strc_form hsp
      obtain ⟨aov, nv, cv, rfl⟩ := own_form HV2b.out
      generalize hnp : (pathT (keysT secret h) i).length = np at *
      have HSP := Lib.hid hsp
      have c1 : W3.cell? ⟨ob, 1, none⟩ = some (.slice aov nv cv) := by rw [cell_of_row _ _ 1 _ _ _ HV1b.out]; rfl
      have c0 : W3.cell? ⟨ob, 0, none⟩ = some (.int .i64 (i : Int)) := by rw [cell_of_row _ _ 0 _ _ _ HV1b.out]; rfl
      have c2 : W3.cell? ⟨ob, 2, none⟩ = some (.slice none 0 0) := by rw [cell_of_row _ _ 2 _ _ _ HV1b.out]; rfl
      have fo : ∀ o, W3.frozen? ⟨ob, o, none⟩ = false := fun o => by simp [World.frozen?, HV1b.out]
      have r0 : W3.cell? ⟨w.heap.size, 0, none⟩ = some (.int .i64 0) := by rw [cell_of_row _ _ 0 _ _ _ HRBb.out]; rfl
      have r1 : W3.cell? ⟨w.heap.size, 1, none⟩ = some (.slice none 0 0) := by rw [cell_of_row _ _ 1 _ _ _ HRBb.out]; rfl
      have r2 : W3.cell? ⟨w.heap.size, 2, none⟩ = some (.slice none 0 0) := by rw [cell_of_row _ _ 2 _ _ _ HRBb.out]; rfl
      have f0 : ∀ o, W3.frozen? ⟨w.heap.size, o, none⟩ = false := fun o => by simp [World.frozen?, HRBb.out]
      have hne : ob ≠ w.heap.size := by omega
      have hne2 : w.heap.size ≠ ob := by omega
      clear hsp hnp hB hb3 HV1 HV2 HB2 HOK HBW HRB
      go_wp2
      obtain ⟨g1, g2, g3, g4⟩ := rsign_end (x := .int .i64 (i : Int)) (p := .slice aop np cp) hne HRBb.out HV1b.out ⟨_, _, _, rfl⟩
      have q0 := cell_of_row _ _ 0 _ _ _ g1
      have q1 := cell_of_row _ _ 1 _ _ _ g1
      have q2 := cell_of_row _ _ 2 _ _ _ g1
      have HG2 := Lib.hid g2
      have HG3 := Lib.hid g3
      have HG4 : Hid (Below w.heap.size w _) := Lib.hid (HBW3.out.trans (g4 w.heap.size (Nat.le_refl _) (by omega)))
      clear g1 g2 g3 g4 c0 c1 c2 fo r0 r1 r2 f0 hne hne2
      generalize ((((W3.setCell ⟨ob, 2, none⟩ (.slice aop np cp)).setCell ⟨w.heap.size, 0, none⟩ (.int .i64 (i : Int))).setCell ⟨w.heap.size, 1, none⟩ (.slice aov nv cv)).setCell ⟨w.heap.size, 2, none⟩ (.slice aop np cp)) = WF at *
      exact bodyPost_ret (v := .tuple #[.agg #[.int .i64 (i : Int), .slice aov nv cv, .slice aop np cp], .int .i64 0]) (by simp [results, Tryz.f13, go_sem, q0, q1, q2]) rfl ⟨_, _, rfl, strc_keep HV2b.out.strc HG3.out HG2.out, strc_keep HSP.out HG3.out HG2.out, HG4.out⟩
set_option maxRecDepth 100000 in
set_option maxHeartbeats 2000000 in
theorem rsign_no1 (secret m : ByteArray) (h i : Int) (w : World) (h1 : h < 0) :
    Calls Tryz.prog 13 #[.string secret, .int .i64 h, .int .i64 i, .string m] w (SignNo w) := by
  have hd1 : decide (h < 0) = true := decide_eq_true (by omega)
  go_enter Tryz.func13, Tryz.ntmps13
  have hb : Below w.heap.size w (w.alloc (.cells #[.int .i64 0, .slice none 0 0, .slice none 0 0] 24)) := (Below.refl _ _).alloc (Nat.le_refl _) _
  go_wp2
  exact bodyPost_ret (v := .tuple #[.agg #[.int .i64 0, .slice none 0 0, .slice none 0 0], .int .i64 1]) (by simp [results, Tryz.f13, go_sem]) rfl ⟨rfl, hb⟩
set_option maxRecDepth 100000 in
set_option maxHeartbeats 2000000 in
theorem rsign_no2 (secret m : ByteArray) (h i : Int) (w : World) (h1 : ¬ h < 0) (h2 : 8 < h) :
    Calls Tryz.prog 13 #[.string secret, .int .i64 h, .int .i64 i, .string m] w (SignNo w) := by
  have hd1 : decide (h < 0) = false := decide_eq_false (by omega)
  have hd2 : decide (8 < h) = true := decide_eq_true (by omega)
  go_enter Tryz.func13, Tryz.ntmps13
  have hb : Below w.heap.size w (w.alloc (.cells #[.int .i64 0, .slice none 0 0, .slice none 0 0] 24)) := (Below.refl _ _).alloc (Nat.le_refl _) _
  go_wp2
  exact bodyPost_ret (v := .tuple #[.agg #[.int .i64 0, .slice none 0 0, .slice none 0 0], .int .i64 1]) (by simp [results, Tryz.f13, go_sem]) rfl ⟨rfl, hb⟩
set_option maxRecDepth 100000 in
set_option maxHeartbeats 2000000 in
theorem rsign_no3 (secret m : ByteArray) (h i : Int) (w : World) (h1 : ¬ h < 0) (h2 : ¬ 8 < h) (h3 : i < 0) :
    Calls Tryz.prog 13 #[.string secret, .int .i64 h, .int .i64 i, .string m] w (SignNo w) := by
  have hd1 : decide (h < 0) = false := decide_eq_false (by omega)
  have hd2 : decide (8 < h) = false := decide_eq_false (by omega)
  have hd3 : decide (i < 0) = true := decide_eq_true (by omega)
  go_enter Tryz.func13, Tryz.ntmps13
  have hb : Below w.heap.size w (w.alloc (.cells #[.int .i64 0, .slice none 0 0, .slice none 0 0] 24)) := (Below.refl _ _).alloc (Nat.le_refl _) _
  go_wp2
  exact bodyPost_ret (v := .tuple #[.agg #[.int .i64 0, .slice none 0 0, .slice none 0 0], .int .i64 1]) (by simp [results, Tryz.f13, go_sem]) rfl ⟨rfl, hb⟩
set_option maxRecDepth 100000 in
set_option maxHeartbeats 2000000 in
theorem rsign_no4 (secret m : ByteArray) (h i : Int) (w : World) (h1 : ¬ h < 0) (h2 : ¬ 8 < h) (h3 : ¬ i < 0) (h4 : ((2 ^ h.toNat : Nat) : Int) ≤ i) :
    Calls Tryz.prog 13 #[.string secret, .int .i64 h, .int .i64 i, .string m] w (SignNo w) := by
  have hd1 : decide (h < 0) = false := decide_eq_false (by omega)
  have hd2 : decide (8 < h) = false := decide_eq_false (by omega)
  have hd3 : decide (i < 0) = false := decide_eq_false (by omega)
  have HPO : Hid (∀ W, Calls Tryz.prog 29 #[.int .i64 h] W fun e w' => e = .returned (.int .i64 ((2 ^ h.toNat : Nat) : Int)) ∧ w' = W) := Lib.hid (fun W => by have := power_calls h.toNat (by omega) W; rwa [Int.toNat_of_nonneg (by omega)] at this)
  generalize 2 ^ h.toNat = p at *
  have hd4 : decide ((p : Int) ≤ i) = true := decide_eq_true (by omega)
  go_enter Tryz.func13, Tryz.ntmps13
  go_wp2_with fail
  refine (HPO.out _).mono ?_
  rintro e w1 ⟨rfl, rfl⟩
  have hb : Below w.heap.size w (w.alloc (.cells #[.int .i64 0, .slice none 0 0, .slice none 0 0] 24)) := (Below.refl _ _).alloc (Nat.le_refl _) _
  go_wp2
  exact bodyPost_ret (v := .tuple #[.agg #[.int .i64 0, .slice none 0 0, .slice none 0 0], .int .i64 1]) (by simp [results, Tryz.f13, go_sem]) rfl ⟨rfl, hb⟩
theorem rsign_bad (secret m : ByteArray) (h i : Int) (w : World) (hbad : ¬ (0 ≤ h ∧ h ≤ 8 ∧ 0 ≤ i ∧ i < ((2 ^ h.toNat : Nat) : Int))) :
    Calls Tryz.prog 13 #[.string secret, .int .i64 h, .int .i64 i, .string m] w (SignNo w) := by
  by_cases h1 : h < 0
  · exact rsign_no1 secret m h i w h1
  · by_cases h2 : 8 < h
    · exact rsign_no2 secret m h i w h1 h2
    · by_cases h3 : i < 0
      · exact rsign_no3 secret m h i w h1 h2 h3
      · exact rsign_no4 secret m h i w h1 h2 h3 (by omega)
end Go.Proofs.YtpogffdbencfnaaGreatDoor

namespace Go.Proofs.YtpogffdbencfnaaGreatDoor
open Go Go.RowKit

set_option maxRecDepth 100000 in
set_option maxHeartbeats 4000000 in
theorem rver_no1 (pub m : ByteArray) (idx : Int) (vs vp : Value) (sig path : List ByteArray) (w : World) (hpub : pub.size ≤ 1099511627776) (hm : m.size ≤ 1099511627776) (hs : IsStrC w vs sig) (hp : IsStrC w vp path) (hss : ∀ s ∈ sig, s.size ≤ 1099511627776) (hps : ∀ s ∈ path, s.size ≤ 1099511627776) (hA : ¬ sig.length = 18) :
    Calls Tryz.prog 16 #[.string pub, .string m, .agg #[.int .i64 idx, vs, vp]] w fun e w' => e = .returned (.bool (false)) ∧ Below w.heap.size w w' := by
  have HSS := Lib.hid hss
  have HSP := Lib.hid hps
  obtain ⟨aos, cs, rfl⟩ := strc_form hs
  obtain ⟨aop, cp, rfl⟩ := strc_form hp
  have HSG := Lib.hid hs
  have HPT := Lib.hid hp
  clear hss hps hs hp
  have hlm : sig.length ≤ 9223372036854775807 := by obtain ⟨ao, c, e, h1, h2, _⟩ := HSG.out; have : c ≤ 9223372036854775807 := h2; omega
  generalize hls : sig.length = ls at *
  have hdA : ((ls : Int) != 18) = true := by simp; omega
  clear hls hA
  have hpm : path.length ≤ 9223372036854775807 := by obtain ⟨ao, c, e, h1, h2, _⟩ := HPT.out; have : c ≤ 9223372036854775807 := h2; omega
  obtain ⟨lp, hlp⟩ : ∃ lp, lp = path.length := ⟨_, rfl⟩
  rw [← hlp] at hpm
  rw [← hlp] at HPT
  rw [← hlp]
  have HLP := Lib.hid hlp
  clear hlp
  obtain ⟨hbx, hB1, hz⟩ := box_one w #[.int .i64 idx, .slice aos ls cs, .slice aop lp cp] 24
  have HR1 := Lib.hid hbx
  have HB1 := Lib.hid hB1
  have HSG1 := Lib.hid (HSG.out.on hB1)
  have HPT1 := Lib.hid (HPT.out.on hB1)
  have hz1 : w.heap.size < (w.alloc (.cells #[.int .i64 idx, .slice aos ls cs, .slice aop lp cp] 24)).heap.size := by omega
  clear hbx hB1 hz HSG HPT
  go_enter Tryz.func16, Tryz.ntmps16
  go_wp2_with fail
  generalize hgw : w.alloc (.cells #[.int .i64 idx, .slice aos ls cs, .slice aop lp cp] 24) = w1 at *
  clear hgw
  refine wp_region_res 24 (w1.heap.size) (fun ii u => [valF (.pointer (some ⟨w.heap.size, 1, none⟩)), valF (.slice aos ls cs), valF (.int .i64 (ls : Int)), valF (.bool true), valF (.bool true), valF undef, valF undef, valF undef, valF undef, valF (.bool true), valF (.bool true), valF undef, valF undef, valF undef, valF (.bool true), valF (.bool true), valF undef, valF undef, valF undef, valF undef, valF undef, valF undef, valF undef, valF (.bool true)].getD ii anyF) (fun jj ii => false) (fun jj bb => False) (by kernel_rfl) (by kernel_rfl) (by kernel_rfl) (by kernel_rfl) (by kernel_rfl) (Nat.le_refl _) ?_ ?_ ?_ ?_ ?_
  · intro ii u hii
    refine AllKStable.at ?_ ii
    exact ⟨.inl (valF_stable _ _), .inl (valF_stable _ _), .inl (valF_stable _ _), .inl (valF_stable _ _), .inl (valF_stable _ _), .inl (valF_stable _ _), .inl (valF_stable _ _), .inl (valF_stable _ _), .inl (valF_stable _ _), .inl (valF_stable _ _), .inl (valF_stable _ _), .inl (valF_stable _ _), .inl (valF_stable _ _), .inl (valF_stable _ _), .inl (valF_stable _ _), .inl (valF_stable _ _), .inl (valF_stable _ _), .inl (valF_stable _ _), .inl (valF_stable _ _), .inl (valF_stable _ _), .inl (valF_stable _ _), .inl (valF_stable _ _), .inl (valF_stable _ _), .inl (valF_stable _ _), trivial⟩
  · exact fun _ _ _ _ _ => rfl
  · exact ⟨fun _ _ _ h => h.elim, fun _ _ _ _ _ h => h.elim⟩
  · refine And.intro (fun u W A hW hBW hd hv hr => ?_) ?_
    · have t5 : A.eval (.tmp 5) = .pointer (some ⟨w.heap.size, 0, none⟩) := (hv 5 (by kernel_rfl)).trans (by kernel_rfl)
      clear hd hv
      have s5 := evalT t5
      clear t5
      refine fk_run ?_
      go_simp
    refine And.intro (fun u W A hW hBW hd hv hr => ?_) ?_
    · have e0 : u 0 = .pointer (some ⟨w.heap.size, 1, none⟩) := hd 0 (by decide) (by kernel_rfl)
      have t11 : A.eval (.tmp 11) = .pointer (some ⟨w.heap.size, 1, none⟩) := (hv 11 (by kernel_rfl)).trans ((by kernel_rfl : slotV _ _ _ u 11 = u 0).trans e0)
      have hW1 := below_undrew hW
      have hcl : W.cell? ⟨w.heap.size, 1, none⟩ = some (.slice aos ls cs) := by rw [hW1.cell (p := ⟨w.heap.size, 1, none⟩) hz1, cell_of_row _ _ 1 _ _ _ HR1.out]; rfl
      clear hd hv
      have s11 := evalT t11
      clear t11
      refine fk_run ?_
      go_simp
    refine And.intro (fun u W A hW hBW hd hv hr => ?_) ?_
    · have e1 : u 1 = .slice aos ls cs := hd 1 (by decide) (by kernel_rfl)
      have t12 : A.eval (.tmp 12) = .slice aos ls cs := (hv 12 (by kernel_rfl)).trans ((by kernel_rfl : slotV _ _ _ u 12 = u 1).trans e1)
      clear hd hv
      have s12 := evalT t12
      clear t12
      refine fk_run ?_
      go_simp
    refine And.intro (fun u W A hW hBW hd hv hr => ?_) ?_
    · have e2 : u 2 = .int .i64 (ls : Int) := hd 2 (by decide) (by kernel_rfl)
      have t13 : A.eval (.tmp 13) = .int .i64 (ls : Int) := (hv 13 (by kernel_rfl)).trans ((by kernel_rfl : slotV _ _ _ u 13 = u 2).trans e2)
      clear hd hv
      have s13 := evalT t13
      clear t13
      refine fk_run ?_
      go_simp
    refine And.intro (fun u W A hW hBW hd hv hr => ?_) ?_
    · have e3 : u 3 = .bool true := hd 3 (by decide) (by kernel_rfl)
      have t14 : A.eval (.tmp 14) = .bool true := (hv 14 (by kernel_rfl)).trans ((by kernel_rfl : slotV _ _ _ u 14 = u 3).trans e3)
      clear hd hv
      have s14 := evalT t14
      clear t14
      refine fk_run ?_
      go_simp
    refine And.intro (fun u W A hW hBW hd hv hr => ?_) ?_
    · have e4 : u 4 = .bool true := hd 4 (by decide) (by kernel_rfl)
      exact Or.inr ⟨e4, rfl, fun _ h => h⟩
    refine And.intro (fun u W A hW hBW hd hv hr => ?_) ?_
    · have e4 : u 4 = .bool true := hd 4 (by decide) (by kernel_rfl)
      have e5 : u 5 = undef := hd 5 (by decide) (by kernel_rfl)
      exact Or.inr ⟨e4, rfl, fun _ h => h⟩
    refine And.intro (fun u W A hW hBW hd hv hr => ?_) ?_
    · have e4 : u 4 = .bool true := hd 4 (by decide) (by kernel_rfl)
      have e6 : u 6 = undef := hd 6 (by decide) (by kernel_rfl)
      exact Or.inr ⟨e4, rfl, fun _ h => h⟩
    refine And.intro (fun u W A hW hBW hd hv hr => ?_) ?_
    · have e4 : u 4 = .bool true := hd 4 (by decide) (by kernel_rfl)
      have e7 : u 7 = undef := hd 7 (by decide) (by kernel_rfl)
      exact Or.inr ⟨e4, rfl, fun _ h => h⟩
    refine And.intro (fun u W A hW hBW hd hv hr => ?_) ?_
    · have e4 : u 4 = .bool true := hd 4 (by decide) (by kernel_rfl)
      have e8 : u 8 = undef := hd 8 (by decide) (by kernel_rfl)
      have t15 : A.eval (.tmp 15) = .bool true := (hv 15 (by kernel_rfl)).trans ((by kernel_rfl : slotV _ _ _ u 15 = u 4).trans e4)
      have t19 : A.eval (.tmp 19) = undef := (hv 19 (by kernel_rfl)).trans ((by kernel_rfl : slotV _ _ _ u 19 = u 8).trans e8)
      clear hd hv
      have s15 := evalT t15
      have s19 := evalT t19
      clear t15 t19
      refine fk_run ?_
      go_simp
    refine And.intro (fun u W A hW hBW hd hv hr => ?_) ?_
    · have e9 : u 9 = .bool true := hd 9 (by decide) (by kernel_rfl)
      have t20 : A.eval (.tmp 20) = .bool true := (hv 20 (by kernel_rfl)).trans ((by kernel_rfl : slotV _ _ _ u 20 = u 9).trans e9)
      clear hd hv
      have s20 := evalT t20
      clear t20
      refine fk_run ?_
      go_simp
    refine And.intro (fun u W A hW hBW hd hv hr => ?_) ?_
    · have e10 : u 10 = .bool true := hd 10 (by decide) (by kernel_rfl)
      exact Or.inr ⟨e10, rfl, fun _ h => h⟩
    refine And.intro (fun u W A hW hBW hd hv hr => ?_) ?_
    · have e10 : u 10 = .bool true := hd 10 (by decide) (by kernel_rfl)
      have e11 : u 11 = undef := hd 11 (by decide) (by kernel_rfl)
      exact Or.inr ⟨e10, rfl, fun _ h => h⟩
    refine And.intro (fun u W A hW hBW hd hv hr => ?_) ?_
    · have e10 : u 10 = .bool true := hd 10 (by decide) (by kernel_rfl)
      have e12 : u 12 = undef := hd 12 (by decide) (by kernel_rfl)
      exact Or.inr ⟨e10, rfl, fun _ h => h⟩
    refine And.intro (fun u W A hW hBW hd hv hr => ?_) ?_
    · have e10 : u 10 = .bool true := hd 10 (by decide) (by kernel_rfl)
      have e13 : u 13 = undef := hd 13 (by decide) (by kernel_rfl)
      have t21 : A.eval (.tmp 21) = .bool true := (hv 21 (by kernel_rfl)).trans ((by kernel_rfl : slotV _ _ _ u 21 = u 10).trans e10)
      have t24 : A.eval (.tmp 24) = undef := (hv 24 (by kernel_rfl)).trans ((by kernel_rfl : slotV _ _ _ u 24 = u 13).trans e13)
      clear hd hv
      have s21 := evalT t21
      have s24 := evalT t24
      clear t21 t24
      refine fk_run ?_
      go_simp
    refine And.intro (fun u W A hW hBW hd hv hr => ?_) ?_
    · have e14 : u 14 = .bool true := hd 14 (by decide) (by kernel_rfl)
      have t25 : A.eval (.tmp 25) = .bool true := (hv 25 (by kernel_rfl)).trans ((by kernel_rfl : slotV _ _ _ u 25 = u 14).trans e14)
      clear hd hv
      have s25 := evalT t25
      clear t25
      refine fk_run ?_
      go_simp
    refine And.intro (fun u W A hW hBW hd hv hr => ?_) ?_
    · have e15 : u 15 = .bool true := hd 15 (by decide) (by kernel_rfl)
      exact Or.inr ⟨e15, rfl, fun _ h => h⟩
    refine And.intro (fun u W A hW hBW hd hv hr => ?_) ?_
    · have e15 : u 15 = .bool true := hd 15 (by decide) (by kernel_rfl)
      have e16 : u 16 = undef := hd 16 (by decide) (by kernel_rfl)
      exact Or.inr ⟨e15, rfl, fun _ h => h⟩
    refine And.intro (fun u W A hW hBW hd hv hr => ?_) ?_
    · have e15 : u 15 = .bool true := hd 15 (by decide) (by kernel_rfl)
      exact Or.inr ⟨e15, rfl, fun _ h => h⟩
    refine And.intro (fun u W A hW hBW hd hv hr => ?_) ?_
    · have e15 : u 15 = .bool true := hd 15 (by decide) (by kernel_rfl)
      have e18 : u 18 = undef := hd 18 (by decide) (by kernel_rfl)
      exact Or.inr ⟨e15, rfl, fun _ h => h⟩
    refine And.intro (fun u W A hW hBW hd hv hr => ?_) ?_
    · have e15 : u 15 = .bool true := hd 15 (by decide) (by kernel_rfl)
      have e19 : u 19 = undef := hd 19 (by decide) (by kernel_rfl)
      exact Or.inr ⟨e15, rfl, fun _ h => h⟩
    refine And.intro (fun u W A hW hBW hd hv hr => ?_) ?_
    · have e15 : u 15 = .bool true := hd 15 (by decide) (by kernel_rfl)
      have e20 : u 20 = undef := hd 20 (by decide) (by kernel_rfl)
      exact Or.inr ⟨e15, rfl, fun _ h => h⟩
    refine And.intro (fun u W A hW hBW hd hv hr => ?_) ?_
    · have e15 : u 15 = .bool true := hd 15 (by decide) (by kernel_rfl)
      have e17 : u 17 = undef := hd 17 (by decide) (by kernel_rfl)
      have e21 : u 21 = undef := hd 21 (by decide) (by kernel_rfl)
      exact Or.inr ⟨e15, rfl, fun _ h => h⟩
    refine And.intro (fun u W A hW hBW hd hv hr => ?_) ?_
    · have e15 : u 15 = .bool true := hd 15 (by decide) (by kernel_rfl)
      have e22 : u 22 = undef := hd 22 (by decide) (by kernel_rfl)
      have t26 : A.eval (.tmp 26) = .bool true := (hv 26 (by kernel_rfl)).trans ((by kernel_rfl : slotV _ _ _ u 26 = u 15).trans e15)
      have t33 : A.eval (.tmp 33) = undef := (hv 33 (by kernel_rfl)).trans ((by kernel_rfl : slotV _ _ _ u 33 = u 22).trans e22)
      clear hd hv
      have s26 := evalT t26
      have s33 := evalT t33
      clear t26 t33
      refine fk_run ?_
      go_simp
    exact trivial
  intro u w2 hb2 hk2 hf2
  have e23 : u 23 = .bool true := hf2 23 (by decide) (by decide)
  have hb3 := below_undrew hb2
  have H2 := Lib.hid (HB1.out.trans (hb3.mono HB1.out.size))
  have HSG2 := Lib.hid (HSG1.out.on hb3)
  have HPT2 := Lib.hid (HPT1.out.on hb3)
  have HR2 := Lib.hid ((hb3.block w.heap.size hz1).trans HR1.out)
  have hz2 : w.heap.size < w2.heap.size := Nat.lt_of_lt_of_le hz1 hb3.size
  clear hf2 hb2 hk2 hb3 HR1 HB1 HSG1 HPT1 hz1
  simp only [List.take, List.drop, wpList, lexPut, Nat.zero_add, Nat.reduceAdd, e23, Act.put, List.setIfInBounds_toArray, List.set_cons_succ, List.set_cons_zero]
  clear e23
  go_wp2
  go_ret
  exact ⟨rfl, H2.out⟩
set_option maxRecDepth 100000 in
set_option maxHeartbeats 4000000 in
theorem rver_no2 (pub m : ByteArray) (idx : Int) (vs vp : Value) (sig path : List ByteArray) (w : World) (hpub : pub.size ≤ 1099511627776) (hm : m.size ≤ 1099511627776) (hs : IsStrC w vs sig) (hp : IsStrC w vp path) (hss : ∀ s ∈ sig, s.size ≤ 1099511627776) (hps : ∀ s ∈ path, s.size ≤ 1099511627776) (hA : sig.length = 18) (hB : ¬ path.length ≤ 8) :
    Calls Tryz.prog 16 #[.string pub, .string m, .agg #[.int .i64 idx, vs, vp]] w fun e w' => e = .returned (.bool (false)) ∧ Below w.heap.size w w' := by
  have HSS := Lib.hid hss
  have HSP := Lib.hid hps
  obtain ⟨aos, cs, rfl⟩ := strc_form hs
  obtain ⟨aop, cp, rfl⟩ := strc_form hp
  have HSG := Lib.hid hs
  have HPT := Lib.hid hp
  clear hss hps hs hp
  rw [hA] at HSG
  rw [hA]
  have HLS := Lib.hid hA
  clear hA
  have hpm : path.length ≤ 9223372036854775807 := by obtain ⟨ao, c, e, h1, h2, _⟩ := HPT.out; have : c ≤ 9223372036854775807 := h2; omega
  obtain ⟨lp, hlp⟩ : ∃ lp, lp = path.length := ⟨_, rfl⟩
  rw [← hlp] at hpm hB
  rw [← hlp] at HPT
  rw [← hlp]
  have HLP := Lib.hid hlp
  clear hlp
  have hdB : decide ((8 : Int) < (lp : Int)) = true := decide_eq_true (by omega)
  clear hB
  obtain ⟨hbx, hB1, hz⟩ := box_one w #[.int .i64 idx, .slice aos 18 cs, .slice aop lp cp] 24
  have HR1 := Lib.hid hbx
  have HB1 := Lib.hid hB1
  have HSG1 := Lib.hid (HSG.out.on hB1)
  have HPT1 := Lib.hid (HPT.out.on hB1)
  have hz1 : w.heap.size < (w.alloc (.cells #[.int .i64 idx, .slice aos 18 cs, .slice aop lp cp] 24)).heap.size := by omega
  clear hbx hB1 hz HSG HPT
  go_enter Tryz.func16, Tryz.ntmps16
  go_wp2_with fail
  generalize hgw : w.alloc (.cells #[.int .i64 idx, .slice aos 18 cs, .slice aop lp cp] 24) = w1 at *
  clear hgw
  refine wp_region_res 24 (w1.heap.size) (fun ii u => [valF (.pointer (some ⟨w.heap.size, 1, none⟩)), valF (.slice aos 18 cs), valF (.int .i64 18), valF (.bool false), valF (.bool false), valF (.pointer (some ⟨w.heap.size, 2, none⟩)), valF (.slice aop lp cp), valF (.int .i64 (lp : Int)), valF (.bool true), valF (.bool true), valF (.bool true), valF undef, valF undef, valF undef, valF (.bool true), valF (.bool true), valF undef, valF undef, valF undef, valF undef, valF undef, valF undef, valF undef, valF (.bool true)].getD ii anyF) (fun jj ii => false) (fun jj bb => False) (by kernel_rfl) (by kernel_rfl) (by kernel_rfl) (by kernel_rfl) (by kernel_rfl) (Nat.le_refl _) ?_ ?_ ?_ ?_ ?_
  · intro ii u hii
    refine AllKStable.at ?_ ii
    exact ⟨.inl (valF_stable _ _), .inl (valF_stable _ _), .inl (valF_stable _ _), .inl (valF_stable _ _), .inl (valF_stable _ _), .inl (valF_stable _ _), .inl (valF_stable _ _), .inl (valF_stable _ _), .inl (valF_stable _ _), .inl (valF_stable _ _), .inl (valF_stable _ _), .inl (valF_stable _ _), .inl (valF_stable _ _), .inl (valF_stable _ _), .inl (valF_stable _ _), .inl (valF_stable _ _), .inl (valF_stable _ _), .inl (valF_stable _ _), .inl (valF_stable _ _), .inl (valF_stable _ _), .inl (valF_stable _ _), .inl (valF_stable _ _), .inl (valF_stable _ _), .inl (valF_stable _ _), trivial⟩
  · exact fun _ _ _ _ _ => rfl
  · exact ⟨fun _ _ _ h => h.elim, fun _ _ _ _ _ h => h.elim⟩
  · refine And.intro (fun u W A hW hBW hd hv hr => ?_) ?_
    · have t5 : A.eval (.tmp 5) = .pointer (some ⟨w.heap.size, 0, none⟩) := (hv 5 (by kernel_rfl)).trans (by kernel_rfl)
      clear hd hv
      have s5 := evalT t5
      clear t5
      refine fk_run ?_
      go_simp
    refine And.intro (fun u W A hW hBW hd hv hr => ?_) ?_
    · have e0 : u 0 = .pointer (some ⟨w.heap.size, 1, none⟩) := hd 0 (by decide) (by kernel_rfl)
      have t11 : A.eval (.tmp 11) = .pointer (some ⟨w.heap.size, 1, none⟩) := (hv 11 (by kernel_rfl)).trans ((by kernel_rfl : slotV _ _ _ u 11 = u 0).trans e0)
      have hW1 := below_undrew hW
      have hcl : W.cell? ⟨w.heap.size, 1, none⟩ = some (.slice aos 18 cs) := by rw [hW1.cell (p := ⟨w.heap.size, 1, none⟩) hz1, cell_of_row _ _ 1 _ _ _ HR1.out]; rfl
      clear hd hv
      have s11 := evalT t11
      clear t11
      refine fk_run ?_
      go_simp
    refine And.intro (fun u W A hW hBW hd hv hr => ?_) ?_
    · have e1 : u 1 = .slice aos 18 cs := hd 1 (by decide) (by kernel_rfl)
      have t12 : A.eval (.tmp 12) = .slice aos 18 cs := (hv 12 (by kernel_rfl)).trans ((by kernel_rfl : slotV _ _ _ u 12 = u 1).trans e1)
      clear hd hv
      have s12 := evalT t12
      clear t12
      refine fk_run ?_
      go_simp
    refine And.intro (fun u W A hW hBW hd hv hr => ?_) ?_
    · have e2 : u 2 = .int .i64 18 := hd 2 (by decide) (by kernel_rfl)
      have t13 : A.eval (.tmp 13) = .int .i64 18 := (hv 13 (by kernel_rfl)).trans ((by kernel_rfl : slotV _ _ _ u 13 = u 2).trans e2)
      clear hd hv
      have s13 := evalT t13
      clear t13
      refine fk_run ?_
      go_simp
    refine And.intro (fun u W A hW hBW hd hv hr => ?_) ?_
    · have e3 : u 3 = .bool false := hd 3 (by decide) (by kernel_rfl)
      have t14 : A.eval (.tmp 14) = .bool false := (hv 14 (by kernel_rfl)).trans ((by kernel_rfl : slotV _ _ _ u 14 = u 3).trans e3)
      clear hd hv
      have s14 := evalT t14
      clear t14
      refine fk_run ?_
      go_simp
    refine And.intro (fun u W A hW hBW hd hv hr => ?_) ?_
    · have e4 : u 4 = .bool false := hd 4 (by decide) (by kernel_rfl)
      have t5 : A.eval (.tmp 5) = .pointer (some ⟨w.heap.size, 0, none⟩) := (hv 5 (by kernel_rfl)).trans (by kernel_rfl)
      clear hd hv
      have s5 := evalT t5
      clear t5
      refine Or.inl ⟨e4, ?_⟩
      refine fk_run ?_
      go_simp
    refine And.intro (fun u W A hW hBW hd hv hr => ?_) ?_
    · have e4 : u 4 = .bool false := hd 4 (by decide) (by kernel_rfl)
      have e5 : u 5 = .pointer (some ⟨w.heap.size, 2, none⟩) := hd 5 (by decide) (by kernel_rfl)
      have t16 : A.eval (.tmp 16) = .pointer (some ⟨w.heap.size, 2, none⟩) := (hv 16 (by kernel_rfl)).trans ((by kernel_rfl : slotV _ _ _ u 16 = u 5).trans e5)
      have hW1 := below_undrew hW
      have hcl : W.cell? ⟨w.heap.size, 2, none⟩ = some (.slice aop lp cp) := by rw [hW1.cell (p := ⟨w.heap.size, 2, none⟩) hz1, cell_of_row _ _ 2 _ _ _ HR1.out]; rfl
      clear hd hv
      have s16 := evalT t16
      clear t16
      refine Or.inl ⟨e4, ?_⟩
      refine fk_run ?_
      go_simp
    refine And.intro (fun u W A hW hBW hd hv hr => ?_) ?_
    · have e4 : u 4 = .bool false := hd 4 (by decide) (by kernel_rfl)
      have e6 : u 6 = .slice aop lp cp := hd 6 (by decide) (by kernel_rfl)
      have t17 : A.eval (.tmp 17) = .slice aop lp cp := (hv 17 (by kernel_rfl)).trans ((by kernel_rfl : slotV _ _ _ u 17 = u 6).trans e6)
      clear hd hv
      have s17 := evalT t17
      clear t17
      refine Or.inl ⟨e4, ?_⟩
      refine fk_run ?_
      go_simp
    refine And.intro (fun u W A hW hBW hd hv hr => ?_) ?_
    · have e4 : u 4 = .bool false := hd 4 (by decide) (by kernel_rfl)
      have e7 : u 7 = .int .i64 (lp : Int) := hd 7 (by decide) (by kernel_rfl)
      have t18 : A.eval (.tmp 18) = .int .i64 (lp : Int) := (hv 18 (by kernel_rfl)).trans ((by kernel_rfl : slotV _ _ _ u 18 = u 7).trans e7)
      clear hd hv
      have s18 := evalT t18
      clear t18
      refine Or.inl ⟨e4, ?_⟩
      refine fk_run ?_
      go_simp
    refine And.intro (fun u W A hW hBW hd hv hr => ?_) ?_
    · have e4 : u 4 = .bool false := hd 4 (by decide) (by kernel_rfl)
      have e8 : u 8 = .bool true := hd 8 (by decide) (by kernel_rfl)
      have t15 : A.eval (.tmp 15) = .bool false := (hv 15 (by kernel_rfl)).trans ((by kernel_rfl : slotV _ _ _ u 15 = u 4).trans e4)
      have t19 : A.eval (.tmp 19) = .bool true := (hv 19 (by kernel_rfl)).trans ((by kernel_rfl : slotV _ _ _ u 19 = u 8).trans e8)
      clear hd hv
      have s15 := evalT t15
      have s19 := evalT t19
      clear t15 t19
      refine fk_run ?_
      go_simp
    refine And.intro (fun u W A hW hBW hd hv hr => ?_) ?_
    · have e9 : u 9 = .bool true := hd 9 (by decide) (by kernel_rfl)
      have t20 : A.eval (.tmp 20) = .bool true := (hv 20 (by kernel_rfl)).trans ((by kernel_rfl : slotV _ _ _ u 20 = u 9).trans e9)
      clear hd hv
      have s20 := evalT t20
      clear t20
      refine fk_run ?_
      go_simp
    refine And.intro (fun u W A hW hBW hd hv hr => ?_) ?_
    · have e10 : u 10 = .bool true := hd 10 (by decide) (by kernel_rfl)
      exact Or.inr ⟨e10, rfl, fun _ h => h⟩
    refine And.intro (fun u W A hW hBW hd hv hr => ?_) ?_
    · have e10 : u 10 = .bool true := hd 10 (by decide) (by kernel_rfl)
      have e11 : u 11 = undef := hd 11 (by decide) (by kernel_rfl)
      exact Or.inr ⟨e10, rfl, fun _ h => h⟩
    refine And.intro (fun u W A hW hBW hd hv hr => ?_) ?_
    · have e10 : u 10 = .bool true := hd 10 (by decide) (by kernel_rfl)
      have e12 : u 12 = undef := hd 12 (by decide) (by kernel_rfl)
      exact Or.inr ⟨e10, rfl, fun _ h => h⟩
    refine And.intro (fun u W A hW hBW hd hv hr => ?_) ?_
    · have e10 : u 10 = .bool true := hd 10 (by decide) (by kernel_rfl)
      have e13 : u 13 = undef := hd 13 (by decide) (by kernel_rfl)
      have t21 : A.eval (.tmp 21) = .bool true := (hv 21 (by kernel_rfl)).trans ((by kernel_rfl : slotV _ _ _ u 21 = u 10).trans e10)
      have t24 : A.eval (.tmp 24) = undef := (hv 24 (by kernel_rfl)).trans ((by kernel_rfl : slotV _ _ _ u 24 = u 13).trans e13)
      clear hd hv
      have s21 := evalT t21
      have s24 := evalT t24
      clear t21 t24
      refine fk_run ?_
      go_simp
    refine And.intro (fun u W A hW hBW hd hv hr => ?_) ?_
    · have e14 : u 14 = .bool true := hd 14 (by decide) (by kernel_rfl)
      have t25 : A.eval (.tmp 25) = .bool true := (hv 25 (by kernel_rfl)).trans ((by kernel_rfl : slotV _ _ _ u 25 = u 14).trans e14)
      clear hd hv
      have s25 := evalT t25
      clear t25
      refine fk_run ?_
      go_simp
    refine And.intro (fun u W A hW hBW hd hv hr => ?_) ?_
    · have e15 : u 15 = .bool true := hd 15 (by decide) (by kernel_rfl)
      exact Or.inr ⟨e15, rfl, fun _ h => h⟩
    refine And.intro (fun u W A hW hBW hd hv hr => ?_) ?_
    · have e15 : u 15 = .bool true := hd 15 (by decide) (by kernel_rfl)
      have e16 : u 16 = undef := hd 16 (by decide) (by kernel_rfl)
      exact Or.inr ⟨e15, rfl, fun _ h => h⟩
    refine And.intro (fun u W A hW hBW hd hv hr => ?_) ?_
    · have e15 : u 15 = .bool true := hd 15 (by decide) (by kernel_rfl)
      exact Or.inr ⟨e15, rfl, fun _ h => h⟩
    refine And.intro (fun u W A hW hBW hd hv hr => ?_) ?_
    · have e15 : u 15 = .bool true := hd 15 (by decide) (by kernel_rfl)
      have e18 : u 18 = undef := hd 18 (by decide) (by kernel_rfl)
      exact Or.inr ⟨e15, rfl, fun _ h => h⟩
    refine And.intro (fun u W A hW hBW hd hv hr => ?_) ?_
    · have e15 : u 15 = .bool true := hd 15 (by decide) (by kernel_rfl)
      have e19 : u 19 = undef := hd 19 (by decide) (by kernel_rfl)
      exact Or.inr ⟨e15, rfl, fun _ h => h⟩
    refine And.intro (fun u W A hW hBW hd hv hr => ?_) ?_
    · have e15 : u 15 = .bool true := hd 15 (by decide) (by kernel_rfl)
      have e20 : u 20 = undef := hd 20 (by decide) (by kernel_rfl)
      exact Or.inr ⟨e15, rfl, fun _ h => h⟩
    refine And.intro (fun u W A hW hBW hd hv hr => ?_) ?_
    · have e15 : u 15 = .bool true := hd 15 (by decide) (by kernel_rfl)
      have e17 : u 17 = undef := hd 17 (by decide) (by kernel_rfl)
      have e21 : u 21 = undef := hd 21 (by decide) (by kernel_rfl)
      exact Or.inr ⟨e15, rfl, fun _ h => h⟩
    refine And.intro (fun u W A hW hBW hd hv hr => ?_) ?_
    · have e15 : u 15 = .bool true := hd 15 (by decide) (by kernel_rfl)
      have e22 : u 22 = undef := hd 22 (by decide) (by kernel_rfl)
      have t26 : A.eval (.tmp 26) = .bool true := (hv 26 (by kernel_rfl)).trans ((by kernel_rfl : slotV _ _ _ u 26 = u 15).trans e15)
      have t33 : A.eval (.tmp 33) = undef := (hv 33 (by kernel_rfl)).trans ((by kernel_rfl : slotV _ _ _ u 33 = u 22).trans e22)
      clear hd hv
      have s26 := evalT t26
      have s33 := evalT t33
      clear t26 t33
      refine fk_run ?_
      go_simp
    exact trivial
  intro u w2 hb2 hk2 hf2
  have e23 : u 23 = .bool true := hf2 23 (by decide) (by decide)
  have hb3 := below_undrew hb2
  have H2 := Lib.hid (HB1.out.trans (hb3.mono HB1.out.size))
  have HSG2 := Lib.hid (HSG1.out.on hb3)
  have HPT2 := Lib.hid (HPT1.out.on hb3)
  have HR2 := Lib.hid ((hb3.block w.heap.size hz1).trans HR1.out)
  have hz2 : w.heap.size < w2.heap.size := Nat.lt_of_lt_of_le hz1 hb3.size
  clear hf2 hb2 hk2 hb3 HR1 HB1 HSG1 HPT1 hz1
  simp only [List.take, List.drop, wpList, lexPut, Nat.zero_add, Nat.reduceAdd, e23, Act.put, List.setIfInBounds_toArray, List.set_cons_succ, List.set_cons_zero]
  clear e23
  go_wp2
  go_ret
  exact ⟨rfl, H2.out⟩
set_option maxRecDepth 100000 in
set_option maxHeartbeats 4000000 in
theorem rver_no3 (pub m : ByteArray) (idx : Int) (vs vp : Value) (sig path : List ByteArray) (w : World) (hpub : pub.size ≤ 1099511627776) (hm : m.size ≤ 1099511627776) (hs : IsStrC w vs sig) (hp : IsStrC w vp path) (hss : ∀ s ∈ sig, s.size ≤ 1099511627776) (hps : ∀ s ∈ path, s.size ≤ 1099511627776) (hA : sig.length = 18) (hB : path.length ≤ 8) (hE : idx < 0) :
    Calls Tryz.prog 16 #[.string pub, .string m, .agg #[.int .i64 idx, vs, vp]] w fun e w' => e = .returned (.bool (false)) ∧ Below w.heap.size w w' := by
  have HSS := Lib.hid hss
  have HSP := Lib.hid hps
  obtain ⟨aos, cs, rfl⟩ := strc_form hs
  obtain ⟨aop, cp, rfl⟩ := strc_form hp
  have HSG := Lib.hid hs
  have HPT := Lib.hid hp
  clear hss hps hs hp
  rw [hA] at HSG
  rw [hA]
  have HLS := Lib.hid hA
  clear hA
  have hpm : path.length ≤ 9223372036854775807 := by obtain ⟨ao, c, e, h1, h2, _⟩ := HPT.out; have : c ≤ 9223372036854775807 := h2; omega
  obtain ⟨lp, hlp⟩ : ∃ lp, lp = path.length := ⟨_, rfl⟩
  rw [← hlp] at hpm hB
  rw [← hlp] at HPT
  rw [← hlp]
  have HLP := Lib.hid hlp
  clear hlp
  have hdB : decide ((8 : Int) < (lp : Int)) = false := decide_eq_false (by omega)
  have hdE : decide (idx < 0) = true := decide_eq_true hE
  obtain ⟨hbx, hB1, hz⟩ := box_one w #[.int .i64 idx, .slice aos 18 cs, .slice aop lp cp] 24
  have HR1 := Lib.hid hbx
  have HB1 := Lib.hid hB1
  have HSG1 := Lib.hid (HSG.out.on hB1)
  have HPT1 := Lib.hid (HPT.out.on hB1)
  have hz1 : w.heap.size < (w.alloc (.cells #[.int .i64 idx, .slice aos 18 cs, .slice aop lp cp] 24)).heap.size := by omega
  clear hbx hB1 hz HSG HPT
  go_enter Tryz.func16, Tryz.ntmps16
  go_wp2_with fail
  generalize hgw : w.alloc (.cells #[.int .i64 idx, .slice aos 18 cs, .slice aop lp cp] 24) = w1 at *
  clear hgw
  refine wp_region_res 24 (w1.heap.size) (fun ii u => [valF (.pointer (some ⟨w.heap.size, 1, none⟩)), valF (.slice aos 18 cs), valF (.int .i64 18), valF (.bool false), valF (.bool false), valF (.pointer (some ⟨w.heap.size, 2, none⟩)), valF (.slice aop lp cp), valF (.int .i64 (lp : Int)), valF (.bool false), valF (.bool false), valF (.bool false), valF (.pointer (some ⟨w.heap.size, 0, none⟩)), valF (.int .i64 idx), valF (.bool true), valF (.bool true), valF (.bool true), valF undef, valF undef, valF undef, valF undef, valF undef, valF undef, valF undef, valF (.bool true)].getD ii anyF) (fun jj ii => false) (fun jj bb => False) (by kernel_rfl) (by kernel_rfl) (by kernel_rfl) (by kernel_rfl) (by kernel_rfl) (Nat.le_refl _) ?_ ?_ ?_ ?_ ?_
  · intro ii u hii
    refine AllKStable.at ?_ ii
    exact ⟨.inl (valF_stable _ _), .inl (valF_stable _ _), .inl (valF_stable _ _), .inl (valF_stable _ _), .inl (valF_stable _ _), .inl (valF_stable _ _), .inl (valF_stable _ _), .inl (valF_stable _ _), .inl (valF_stable _ _), .inl (valF_stable _ _), .inl (valF_stable _ _), .inl (valF_stable _ _), .inl (valF_stable _ _), .inl (valF_stable _ _), .inl (valF_stable _ _), .inl (valF_stable _ _), .inl (valF_stable _ _), .inl (valF_stable _ _), .inl (valF_stable _ _), .inl (valF_stable _ _), .inl (valF_stable _ _), .inl (valF_stable _ _), .inl (valF_stable _ _), .inl (valF_stable _ _), trivial⟩
  · exact fun _ _ _ _ _ => rfl
  · exact ⟨fun _ _ _ h => h.elim, fun _ _ _ _ _ h => h.elim⟩
  · refine And.intro (fun u W A hW hBW hd hv hr => ?_) ?_
    · have t5 : A.eval (.tmp 5) = .pointer (some ⟨w.heap.size, 0, none⟩) := (hv 5 (by kernel_rfl)).trans (by kernel_rfl)
      clear hd hv
      have s5 := evalT t5
      clear t5
      refine fk_run ?_
      go_simp
    refine And.intro (fun u W A hW hBW hd hv hr => ?_) ?_
    · have e0 : u 0 = .pointer (some ⟨w.heap.size, 1, none⟩) := hd 0 (by decide) (by kernel_rfl)
      have t11 : A.eval (.tmp 11) = .pointer (some ⟨w.heap.size, 1, none⟩) := (hv 11 (by kernel_rfl)).trans ((by kernel_rfl : slotV _ _ _ u 11 = u 0).trans e0)
      have hW1 := below_undrew hW
      have hcl : W.cell? ⟨w.heap.size, 1, none⟩ = some (.slice aos 18 cs) := by rw [hW1.cell (p := ⟨w.heap.size, 1, none⟩) hz1, cell_of_row _ _ 1 _ _ _ HR1.out]; rfl
      clear hd hv
      have s11 := evalT t11
      clear t11
      refine fk_run ?_
      go_simp
    refine And.intro (fun u W A hW hBW hd hv hr => ?_) ?_
    · have e1 : u 1 = .slice aos 18 cs := hd 1 (by decide) (by kernel_rfl)
      have t12 : A.eval (.tmp 12) = .slice aos 18 cs := (hv 12 (by kernel_rfl)).trans ((by kernel_rfl : slotV _ _ _ u 12 = u 1).trans e1)
      clear hd hv
      have s12 := evalT t12
      clear t12
      refine fk_run ?_
      go_simp
    refine And.intro (fun u W A hW hBW hd hv hr => ?_) ?_
    · have e2 : u 2 = .int .i64 18 := hd 2 (by decide) (by kernel_rfl)
      have t13 : A.eval (.tmp 13) = .int .i64 18 := (hv 13 (by kernel_rfl)).trans ((by kernel_rfl : slotV _ _ _ u 13 = u 2).trans e2)
      clear hd hv
      have s13 := evalT t13
      clear t13
      refine fk_run ?_
      go_simp
    refine And.intro (fun u W A hW hBW hd hv hr => ?_) ?_
    · have e3 : u 3 = .bool false := hd 3 (by decide) (by kernel_rfl)
      have t14 : A.eval (.tmp 14) = .bool false := (hv 14 (by kernel_rfl)).trans ((by kernel_rfl : slotV _ _ _ u 14 = u 3).trans e3)
      clear hd hv
      have s14 := evalT t14
      clear t14
      refine fk_run ?_
      go_simp
    refine And.intro (fun u W A hW hBW hd hv hr => ?_) ?_
    · have e4 : u 4 = .bool false := hd 4 (by decide) (by kernel_rfl)
      have t5 : A.eval (.tmp 5) = .pointer (some ⟨w.heap.size, 0, none⟩) := (hv 5 (by kernel_rfl)).trans (by kernel_rfl)
      clear hd hv
      have s5 := evalT t5
      clear t5
      refine Or.inl ⟨e4, ?_⟩
      refine fk_run ?_
      go_simp
    refine And.intro (fun u W A hW hBW hd hv hr => ?_) ?_
    · have e4 : u 4 = .bool false := hd 4 (by decide) (by kernel_rfl)
      have e5 : u 5 = .pointer (some ⟨w.heap.size, 2, none⟩) := hd 5 (by decide) (by kernel_rfl)
      have t16 : A.eval (.tmp 16) = .pointer (some ⟨w.heap.size, 2, none⟩) := (hv 16 (by kernel_rfl)).trans ((by kernel_rfl : slotV _ _ _ u 16 = u 5).trans e5)
      have hW1 := below_undrew hW
      have hcl : W.cell? ⟨w.heap.size, 2, none⟩ = some (.slice aop lp cp) := by rw [hW1.cell (p := ⟨w.heap.size, 2, none⟩) hz1, cell_of_row _ _ 2 _ _ _ HR1.out]; rfl
      clear hd hv
      have s16 := evalT t16
      clear t16
      refine Or.inl ⟨e4, ?_⟩
      refine fk_run ?_
      go_simp
    refine And.intro (fun u W A hW hBW hd hv hr => ?_) ?_
    · have e4 : u 4 = .bool false := hd 4 (by decide) (by kernel_rfl)
      have e6 : u 6 = .slice aop lp cp := hd 6 (by decide) (by kernel_rfl)
      have t17 : A.eval (.tmp 17) = .slice aop lp cp := (hv 17 (by kernel_rfl)).trans ((by kernel_rfl : slotV _ _ _ u 17 = u 6).trans e6)
      clear hd hv
      have s17 := evalT t17
      clear t17
      refine Or.inl ⟨e4, ?_⟩
      refine fk_run ?_
      go_simp
    refine And.intro (fun u W A hW hBW hd hv hr => ?_) ?_
    · have e4 : u 4 = .bool false := hd 4 (by decide) (by kernel_rfl)
      have e7 : u 7 = .int .i64 (lp : Int) := hd 7 (by decide) (by kernel_rfl)
      have t18 : A.eval (.tmp 18) = .int .i64 (lp : Int) := (hv 18 (by kernel_rfl)).trans ((by kernel_rfl : slotV _ _ _ u 18 = u 7).trans e7)
      clear hd hv
      have s18 := evalT t18
      clear t18
      refine Or.inl ⟨e4, ?_⟩
      refine fk_run ?_
      go_simp
    refine And.intro (fun u W A hW hBW hd hv hr => ?_) ?_
    · have e4 : u 4 = .bool false := hd 4 (by decide) (by kernel_rfl)
      have e8 : u 8 = .bool false := hd 8 (by decide) (by kernel_rfl)
      have t15 : A.eval (.tmp 15) = .bool false := (hv 15 (by kernel_rfl)).trans ((by kernel_rfl : slotV _ _ _ u 15 = u 4).trans e4)
      have t19 : A.eval (.tmp 19) = .bool false := (hv 19 (by kernel_rfl)).trans ((by kernel_rfl : slotV _ _ _ u 19 = u 8).trans e8)
      clear hd hv
      have s15 := evalT t15
      have s19 := evalT t19
      clear t15 t19
      refine fk_run ?_
      go_simp
    refine And.intro (fun u W A hW hBW hd hv hr => ?_) ?_
    · have e9 : u 9 = .bool false := hd 9 (by decide) (by kernel_rfl)
      have t20 : A.eval (.tmp 20) = .bool false := (hv 20 (by kernel_rfl)).trans ((by kernel_rfl : slotV _ _ _ u 20 = u 9).trans e9)
      clear hd hv
      have s20 := evalT t20
      clear t20
      refine fk_run ?_
      go_simp
    refine And.intro (fun u W A hW hBW hd hv hr => ?_) ?_
    · have e10 : u 10 = .bool false := hd 10 (by decide) (by kernel_rfl)
      have t5 : A.eval (.tmp 5) = .pointer (some ⟨w.heap.size, 0, none⟩) := (hv 5 (by kernel_rfl)).trans (by kernel_rfl)
      clear hd hv
      have s5 := evalT t5
      clear t5
      refine Or.inl ⟨e10, ?_⟩
      refine fk_run ?_
      go_simp
    refine And.intro (fun u W A hW hBW hd hv hr => ?_) ?_
    · have e10 : u 10 = .bool false := hd 10 (by decide) (by kernel_rfl)
      have e11 : u 11 = .pointer (some ⟨w.heap.size, 0, none⟩) := hd 11 (by decide) (by kernel_rfl)
      have t22 : A.eval (.tmp 22) = .pointer (some ⟨w.heap.size, 0, none⟩) := (hv 22 (by kernel_rfl)).trans ((by kernel_rfl : slotV _ _ _ u 22 = u 11).trans e11)
      have hW1 := below_undrew hW
      have hcl : W.cell? ⟨w.heap.size, 0, none⟩ = some (.int .i64 idx) := by rw [hW1.cell (p := ⟨w.heap.size, 0, none⟩) hz1, cell_of_row _ _ 0 _ _ _ HR1.out]; rfl
      clear hd hv
      have s22 := evalT t22
      clear t22
      refine Or.inl ⟨e10, ?_⟩
      refine fk_run ?_
      go_simp
    refine And.intro (fun u W A hW hBW hd hv hr => ?_) ?_
    · have e10 : u 10 = .bool false := hd 10 (by decide) (by kernel_rfl)
      have e12 : u 12 = .int .i64 idx := hd 12 (by decide) (by kernel_rfl)
      have t23 : A.eval (.tmp 23) = .int .i64 idx := (hv 23 (by kernel_rfl)).trans ((by kernel_rfl : slotV _ _ _ u 23 = u 12).trans e12)
      clear hd hv
      have s23 := evalT t23
      clear t23
      refine Or.inl ⟨e10, ?_⟩
      refine fk_run ?_
      go_simp
    refine And.intro (fun u W A hW hBW hd hv hr => ?_) ?_
    · have e10 : u 10 = .bool false := hd 10 (by decide) (by kernel_rfl)
      have e13 : u 13 = .bool true := hd 13 (by decide) (by kernel_rfl)
      have t21 : A.eval (.tmp 21) = .bool false := (hv 21 (by kernel_rfl)).trans ((by kernel_rfl : slotV _ _ _ u 21 = u 10).trans e10)
      have t24 : A.eval (.tmp 24) = .bool true := (hv 24 (by kernel_rfl)).trans ((by kernel_rfl : slotV _ _ _ u 24 = u 13).trans e13)
      clear hd hv
      have s21 := evalT t21
      have s24 := evalT t24
      clear t21 t24
      refine fk_run ?_
      go_simp
    refine And.intro (fun u W A hW hBW hd hv hr => ?_) ?_
    · have e14 : u 14 = .bool true := hd 14 (by decide) (by kernel_rfl)
      have t25 : A.eval (.tmp 25) = .bool true := (hv 25 (by kernel_rfl)).trans ((by kernel_rfl : slotV _ _ _ u 25 = u 14).trans e14)
      clear hd hv
      have s25 := evalT t25
      clear t25
      refine fk_run ?_
      go_simp
    refine And.intro (fun u W A hW hBW hd hv hr => ?_) ?_
    · have e15 : u 15 = .bool true := hd 15 (by decide) (by kernel_rfl)
      exact Or.inr ⟨e15, rfl, fun _ h => h⟩
    refine And.intro (fun u W A hW hBW hd hv hr => ?_) ?_
    · have e15 : u 15 = .bool true := hd 15 (by decide) (by kernel_rfl)
      have e16 : u 16 = undef := hd 16 (by decide) (by kernel_rfl)
      exact Or.inr ⟨e15, rfl, fun _ h => h⟩
    refine And.intro (fun u W A hW hBW hd hv hr => ?_) ?_
    · have e15 : u 15 = .bool true := hd 15 (by decide) (by kernel_rfl)
      exact Or.inr ⟨e15, rfl, fun _ h => h⟩
    refine And.intro (fun u W A hW hBW hd hv hr => ?_) ?_
    · have e15 : u 15 = .bool true := hd 15 (by decide) (by kernel_rfl)
      have e18 : u 18 = undef := hd 18 (by decide) (by kernel_rfl)
      exact Or.inr ⟨e15, rfl, fun _ h => h⟩
    refine And.intro (fun u W A hW hBW hd hv hr => ?_) ?_
    · have e15 : u 15 = .bool true := hd 15 (by decide) (by kernel_rfl)
      have e19 : u 19 = undef := hd 19 (by decide) (by kernel_rfl)
      exact Or.inr ⟨e15, rfl, fun _ h => h⟩
    refine And.intro (fun u W A hW hBW hd hv hr => ?_) ?_
    · have e15 : u 15 = .bool true := hd 15 (by decide) (by kernel_rfl)
      have e20 : u 20 = undef := hd 20 (by decide) (by kernel_rfl)
      exact Or.inr ⟨e15, rfl, fun _ h => h⟩
    refine And.intro (fun u W A hW hBW hd hv hr => ?_) ?_
    · have e15 : u 15 = .bool true := hd 15 (by decide) (by kernel_rfl)
      have e17 : u 17 = undef := hd 17 (by decide) (by kernel_rfl)
      have e21 : u 21 = undef := hd 21 (by decide) (by kernel_rfl)
      exact Or.inr ⟨e15, rfl, fun _ h => h⟩
    refine And.intro (fun u W A hW hBW hd hv hr => ?_) ?_
    · have e15 : u 15 = .bool true := hd 15 (by decide) (by kernel_rfl)
      have e22 : u 22 = undef := hd 22 (by decide) (by kernel_rfl)
      have t26 : A.eval (.tmp 26) = .bool true := (hv 26 (by kernel_rfl)).trans ((by kernel_rfl : slotV _ _ _ u 26 = u 15).trans e15)
      have t33 : A.eval (.tmp 33) = undef := (hv 33 (by kernel_rfl)).trans ((by kernel_rfl : slotV _ _ _ u 33 = u 22).trans e22)
      clear hd hv
      have s26 := evalT t26
      have s33 := evalT t33
      clear t26 t33
      refine fk_run ?_
      go_simp
    exact trivial
  intro u w2 hb2 hk2 hf2
  have e23 : u 23 = .bool true := hf2 23 (by decide) (by decide)
  have hb3 := below_undrew hb2
  have H2 := Lib.hid (HB1.out.trans (hb3.mono HB1.out.size))
  have HSG2 := Lib.hid (HSG1.out.on hb3)
  have HPT2 := Lib.hid (HPT1.out.on hb3)
  have HR2 := Lib.hid ((hb3.block w.heap.size hz1).trans HR1.out)
  have hz2 : w.heap.size < w2.heap.size := Nat.lt_of_lt_of_le hz1 hb3.size
  clear hf2 hb2 hk2 hb3 HR1 HB1 HSG1 HPT1 hz1
  simp only [List.take, List.drop, wpList, lexPut, Nat.zero_add, Nat.reduceAdd, e23, Act.put, List.setIfInBounds_toArray, List.set_cons_succ, List.set_cons_zero]
  clear e23
  go_wp2
  go_ret
  exact ⟨rfl, H2.out⟩
set_option maxRecDepth 100000 in
set_option maxHeartbeats 4000000 in
theorem rver_no4 (pub m : ByteArray) (idx : Int) (vs vp : Value) (sig path : List ByteArray) (w : World) (hpub : pub.size ≤ 1099511627776) (hm : m.size ≤ 1099511627776) (hs : IsStrC w vs sig) (hp : IsStrC w vp path) (hss : ∀ s ∈ sig, s.size ≤ 1099511627776) (hps : ∀ s ∈ path, s.size ≤ 1099511627776) (hA : sig.length = 18) (hB : path.length ≤ 8) (hE : ¬ idx < 0) (hF : ((2 ^ path.length : Nat) : Int) ≤ idx) :
    Calls Tryz.prog 16 #[.string pub, .string m, .agg #[.int .i64 idx, vs, vp]] w fun e w' => e = .returned (.bool (false)) ∧ Below w.heap.size w w' := by
  have HSS := Lib.hid hss
  have HSP := Lib.hid hps
  obtain ⟨aos, cs, rfl⟩ := strc_form hs
  obtain ⟨aop, cp, rfl⟩ := strc_form hp
  have HSG := Lib.hid hs
  have HPT := Lib.hid hp
  clear hss hps hs hp
  rw [hA] at HSG
  rw [hA]
  have HLS := Lib.hid hA
  clear hA
  have hpm : path.length ≤ 9223372036854775807 := by obtain ⟨ao, c, e, h1, h2, _⟩ := HPT.out; have : c ≤ 9223372036854775807 := h2; omega
  obtain ⟨lp, hlp⟩ : ∃ lp, lp = path.length := ⟨_, rfl⟩
  rw [← hlp] at hpm hB hF
  rw [← hlp] at HPT
  rw [← hlp]
  have HLP := Lib.hid hlp
  clear hlp
  have hdB : decide ((8 : Int) < (lp : Int)) = false := decide_eq_false (by omega)
  have hdE : decide (idx < 0) = false := decide_eq_false hE
  obtain ⟨p, hp⟩ : ∃ p, p = 2 ^ lp := ⟨_, rfl⟩
  have hp8 : p ≤ 256 := by rw [hp]; exact Nat.pow_le_pow_right (n := 2) (by decide) hB
  have HPO : Hid (∀ W, Calls Tryz.prog 29 #[.int .i64 (lp : Int)] W fun e w' => e = .returned (.int .i64 (p : Int)) ∧ w' = W) := Lib.hid (fun W => by rw [hp]; exact power_calls lp (by omega) W)
  rw [← hp] at hF
  have HPP := Lib.hid hp
  clear hp
  have hdF : decide ((p : Int) ≤ idx) = true := decide_eq_true hF
  obtain ⟨hbx, hB1, hz⟩ := box_one w #[.int .i64 idx, .slice aos 18 cs, .slice aop lp cp] 24
  have HR1 := Lib.hid hbx
  have HB1 := Lib.hid hB1
  have HSG1 := Lib.hid (HSG.out.on hB1)
  have HPT1 := Lib.hid (HPT.out.on hB1)
  have hz1 : w.heap.size < (w.alloc (.cells #[.int .i64 idx, .slice aos 18 cs, .slice aop lp cp] 24)).heap.size := by omega
  clear hbx hB1 hz HSG HPT
  go_enter Tryz.func16, Tryz.ntmps16
  go_wp2_with fail
  generalize hgw : w.alloc (.cells #[.int .i64 idx, .slice aos 18 cs, .slice aop lp cp] 24) = w1 at *
  clear hgw
  refine wp_region_res 24 (w1.heap.size) (fun ii u => [valF (.pointer (some ⟨w.heap.size, 1, none⟩)), valF (.slice aos 18 cs), valF (.int .i64 18), valF (.bool false), valF (.bool false), valF (.pointer (some ⟨w.heap.size, 2, none⟩)), valF (.slice aop lp cp), valF (.int .i64 (lp : Int)), valF (.bool false), valF (.bool false), valF (.bool false), valF (.pointer (some ⟨w.heap.size, 0, none⟩)), valF (.int .i64 idx), valF (.bool false), valF (.bool false), valF (.bool false), valF (.pointer (some ⟨w.heap.size, 0, none⟩)), valF (.int .i64 idx), valF (.pointer (some ⟨w.heap.size, 2, none⟩)), valF (.slice aop lp cp), valF (.int .i64 (lp : Int)), valF (.int .i64 (p : Int)), valF (.bool true), valF (.bool true)].getD ii anyF) (fun jj ii => false) (fun jj bb => False) (by kernel_rfl) (by kernel_rfl) (by kernel_rfl) (by kernel_rfl) (by kernel_rfl) (Nat.le_refl _) ?_ ?_ ?_ ?_ ?_
  · intro ii u hii
    refine AllKStable.at ?_ ii
    exact ⟨.inl (valF_stable _ _), .inl (valF_stable _ _), .inl (valF_stable _ _), .inl (valF_stable _ _), .inl (valF_stable _ _), .inl (valF_stable _ _), .inl (valF_stable _ _), .inl (valF_stable _ _), .inl (valF_stable _ _), .inl (valF_stable _ _), .inl (valF_stable _ _), .inl (valF_stable _ _), .inl (valF_stable _ _), .inl (valF_stable _ _), .inl (valF_stable _ _), .inl (valF_stable _ _), .inl (valF_stable _ _), .inl (valF_stable _ _), .inl (valF_stable _ _), .inl (valF_stable _ _), .inl (valF_stable _ _), .inl (valF_stable _ _), .inl (valF_stable _ _), .inl (valF_stable _ _), trivial⟩
  · exact fun _ _ _ _ _ => rfl
  · exact ⟨fun _ _ _ h => h.elim, fun _ _ _ _ _ h => h.elim⟩
  · refine And.intro (fun u W A hW hBW hd hv hr => ?_) ?_
    · have t5 : A.eval (.tmp 5) = .pointer (some ⟨w.heap.size, 0, none⟩) := (hv 5 (by kernel_rfl)).trans (by kernel_rfl)
      clear hd hv
      have s5 := evalT t5
      clear t5
      refine fk_run ?_
      go_simp
    refine And.intro (fun u W A hW hBW hd hv hr => ?_) ?_
    · have e0 : u 0 = .pointer (some ⟨w.heap.size, 1, none⟩) := hd 0 (by decide) (by kernel_rfl)
      have t11 : A.eval (.tmp 11) = .pointer (some ⟨w.heap.size, 1, none⟩) := (hv 11 (by kernel_rfl)).trans ((by kernel_rfl : slotV _ _ _ u 11 = u 0).trans e0)
      have hW1 := below_undrew hW
      have hcl : W.cell? ⟨w.heap.size, 1, none⟩ = some (.slice aos 18 cs) := by rw [hW1.cell (p := ⟨w.heap.size, 1, none⟩) hz1, cell_of_row _ _ 1 _ _ _ HR1.out]; rfl
      clear hd hv
      have s11 := evalT t11
      clear t11
      refine fk_run ?_
      go_simp
    refine And.intro (fun u W A hW hBW hd hv hr => ?_) ?_
    · have e1 : u 1 = .slice aos 18 cs := hd 1 (by decide) (by kernel_rfl)
      have t12 : A.eval (.tmp 12) = .slice aos 18 cs := (hv 12 (by kernel_rfl)).trans ((by kernel_rfl : slotV _ _ _ u 12 = u 1).trans e1)
      clear hd hv
      have s12 := evalT t12
      clear t12
      refine fk_run ?_
      go_simp
    refine And.intro (fun u W A hW hBW hd hv hr => ?_) ?_
    · have e2 : u 2 = .int .i64 18 := hd 2 (by decide) (by kernel_rfl)
      have t13 : A.eval (.tmp 13) = .int .i64 18 := (hv 13 (by kernel_rfl)).trans ((by kernel_rfl : slotV _ _ _ u 13 = u 2).trans e2)
      clear hd hv
      have s13 := evalT t13
      clear t13
      refine fk_run ?_
      go_simp
    refine And.intro (fun u W A hW hBW hd hv hr => ?_) ?_
    · have e3 : u 3 = .bool false := hd 3 (by decide) (by kernel_rfl)
      have t14 : A.eval (.tmp 14) = .bool false := (hv 14 (by kernel_rfl)).trans ((by kernel_rfl : slotV _ _ _ u 14 = u 3).trans e3)
      clear hd hv
      have s14 := evalT t14
      clear t14
      refine fk_run ?_
      go_simp
    refine And.intro (fun u W A hW hBW hd hv hr => ?_) ?_
    · have e4 : u 4 = .bool false := hd 4 (by decide) (by kernel_rfl)
      have t5 : A.eval (.tmp 5) = .pointer (some ⟨w.heap.size, 0, none⟩) := (hv 5 (by kernel_rfl)).trans (by kernel_rfl)
      clear hd hv
      have s5 := evalT t5
      clear t5
      refine Or.inl ⟨e4, ?_⟩
      refine fk_run ?_
      go_simp
    refine And.intro (fun u W A hW hBW hd hv hr => ?_) ?_
    · have e4 : u 4 = .bool false := hd 4 (by decide) (by kernel_rfl)
      have e5 : u 5 = .pointer (some ⟨w.heap.size, 2, none⟩) := hd 5 (by decide) (by kernel_rfl)
      have t16 : A.eval (.tmp 16) = .pointer (some ⟨w.heap.size, 2, none⟩) := (hv 16 (by kernel_rfl)).trans ((by kernel_rfl : slotV _ _ _ u 16 = u 5).trans e5)
      have hW1 := below_undrew hW
      have hcl : W.cell? ⟨w.heap.size, 2, none⟩ = some (.slice aop lp cp) := by rw [hW1.cell (p := ⟨w.heap.size, 2, none⟩) hz1, cell_of_row _ _ 2 _ _ _ HR1.out]; rfl
      clear hd hv
      have s16 := evalT t16
      clear t16
      refine Or.inl ⟨e4, ?_⟩
      refine fk_run ?_
      go_simp
    refine And.intro (fun u W A hW hBW hd hv hr => ?_) ?_
    · have e4 : u 4 = .bool false := hd 4 (by decide) (by kernel_rfl)
      have e6 : u 6 = .slice aop lp cp := hd 6 (by decide) (by kernel_rfl)
      have t17 : A.eval (.tmp 17) = .slice aop lp cp := (hv 17 (by kernel_rfl)).trans ((by kernel_rfl : slotV _ _ _ u 17 = u 6).trans e6)
      clear hd hv
      have s17 := evalT t17
      clear t17
      refine Or.inl ⟨e4, ?_⟩
      refine fk_run ?_
      go_simp
    refine And.intro (fun u W A hW hBW hd hv hr => ?_) ?_
    · have e4 : u 4 = .bool false := hd 4 (by decide) (by kernel_rfl)
      have e7 : u 7 = .int .i64 (lp : Int) := hd 7 (by decide) (by kernel_rfl)
      have t18 : A.eval (.tmp 18) = .int .i64 (lp : Int) := (hv 18 (by kernel_rfl)).trans ((by kernel_rfl : slotV _ _ _ u 18 = u 7).trans e7)
      clear hd hv
      have s18 := evalT t18
      clear t18
      refine Or.inl ⟨e4, ?_⟩
      refine fk_run ?_
      go_simp
    refine And.intro (fun u W A hW hBW hd hv hr => ?_) ?_
    · have e4 : u 4 = .bool false := hd 4 (by decide) (by kernel_rfl)
      have e8 : u 8 = .bool false := hd 8 (by decide) (by kernel_rfl)
      have t15 : A.eval (.tmp 15) = .bool false := (hv 15 (by kernel_rfl)).trans ((by kernel_rfl : slotV _ _ _ u 15 = u 4).trans e4)
      have t19 : A.eval (.tmp 19) = .bool false := (hv 19 (by kernel_rfl)).trans ((by kernel_rfl : slotV _ _ _ u 19 = u 8).trans e8)
      clear hd hv
      have s15 := evalT t15
      have s19 := evalT t19
      clear t15 t19
      refine fk_run ?_
      go_simp
    refine And.intro (fun u W A hW hBW hd hv hr => ?_) ?_
    · have e9 : u 9 = .bool false := hd 9 (by decide) (by kernel_rfl)
      have t20 : A.eval (.tmp 20) = .bool false := (hv 20 (by kernel_rfl)).trans ((by kernel_rfl : slotV _ _ _ u 20 = u 9).trans e9)
      clear hd hv
      have s20 := evalT t20
      clear t20
      refine fk_run ?_
      go_simp
    refine And.intro (fun u W A hW hBW hd hv hr => ?_) ?_
    · have e10 : u 10 = .bool false := hd 10 (by decide) (by kernel_rfl)
      have t5 : A.eval (.tmp 5) = .pointer (some ⟨w.heap.size, 0, none⟩) := (hv 5 (by kernel_rfl)).trans (by kernel_rfl)
      clear hd hv
      have s5 := evalT t5
      clear t5
      refine Or.inl ⟨e10, ?_⟩
      refine fk_run ?_
      go_simp
    refine And.intro (fun u W A hW hBW hd hv hr => ?_) ?_
    · have e10 : u 10 = .bool false := hd 10 (by decide) (by kernel_rfl)
      have e11 : u 11 = .pointer (some ⟨w.heap.size, 0, none⟩) := hd 11 (by decide) (by kernel_rfl)
      have t22 : A.eval (.tmp 22) = .pointer (some ⟨w.heap.size, 0, none⟩) := (hv 22 (by kernel_rfl)).trans ((by kernel_rfl : slotV _ _ _ u 22 = u 11).trans e11)
      have hW1 := below_undrew hW
      have hcl : W.cell? ⟨w.heap.size, 0, none⟩ = some (.int .i64 idx) := by rw [hW1.cell (p := ⟨w.heap.size, 0, none⟩) hz1, cell_of_row _ _ 0 _ _ _ HR1.out]; rfl
      clear hd hv
      have s22 := evalT t22
      clear t22
      refine Or.inl ⟨e10, ?_⟩
      refine fk_run ?_
      go_simp
    refine And.intro (fun u W A hW hBW hd hv hr => ?_) ?_
    · have e10 : u 10 = .bool false := hd 10 (by decide) (by kernel_rfl)
      have e12 : u 12 = .int .i64 idx := hd 12 (by decide) (by kernel_rfl)
      have t23 : A.eval (.tmp 23) = .int .i64 idx := (hv 23 (by kernel_rfl)).trans ((by kernel_rfl : slotV _ _ _ u 23 = u 12).trans e12)
      clear hd hv
      have s23 := evalT t23
      clear t23
      refine Or.inl ⟨e10, ?_⟩
      refine fk_run ?_
      go_simp
    refine And.intro (fun u W A hW hBW hd hv hr => ?_) ?_
    · have e10 : u 10 = .bool false := hd 10 (by decide) (by kernel_rfl)
      have e13 : u 13 = .bool false := hd 13 (by decide) (by kernel_rfl)
      have t21 : A.eval (.tmp 21) = .bool false := (hv 21 (by kernel_rfl)).trans ((by kernel_rfl : slotV _ _ _ u 21 = u 10).trans e10)
      have t24 : A.eval (.tmp 24) = .bool false := (hv 24 (by kernel_rfl)).trans ((by kernel_rfl : slotV _ _ _ u 24 = u 13).trans e13)
      clear hd hv
      have s21 := evalT t21
      have s24 := evalT t24
      clear t21 t24
      refine fk_run ?_
      go_simp
    refine And.intro (fun u W A hW hBW hd hv hr => ?_) ?_
    · have e14 : u 14 = .bool false := hd 14 (by decide) (by kernel_rfl)
      have t25 : A.eval (.tmp 25) = .bool false := (hv 25 (by kernel_rfl)).trans ((by kernel_rfl : slotV _ _ _ u 25 = u 14).trans e14)
      clear hd hv
      have s25 := evalT t25
      clear t25
      refine fk_run ?_
      go_simp
    refine And.intro (fun u W A hW hBW hd hv hr => ?_) ?_
    · have e15 : u 15 = .bool false := hd 15 (by decide) (by kernel_rfl)
      have t5 : A.eval (.tmp 5) = .pointer (some ⟨w.heap.size, 0, none⟩) := (hv 5 (by kernel_rfl)).trans (by kernel_rfl)
      clear hd hv
      have s5 := evalT t5
      clear t5
      refine Or.inl ⟨e15, ?_⟩
      refine fk_run ?_
      go_simp
    refine And.intro (fun u W A hW hBW hd hv hr => ?_) ?_
    · have e15 : u 15 = .bool false := hd 15 (by decide) (by kernel_rfl)
      have e16 : u 16 = .pointer (some ⟨w.heap.size, 0, none⟩) := hd 16 (by decide) (by kernel_rfl)
      have t27 : A.eval (.tmp 27) = .pointer (some ⟨w.heap.size, 0, none⟩) := (hv 27 (by kernel_rfl)).trans ((by kernel_rfl : slotV _ _ _ u 27 = u 16).trans e16)
      have hW1 := below_undrew hW
      have hcl : W.cell? ⟨w.heap.size, 0, none⟩ = some (.int .i64 idx) := by rw [hW1.cell (p := ⟨w.heap.size, 0, none⟩) hz1, cell_of_row _ _ 0 _ _ _ HR1.out]; rfl
      clear hd hv
      have s27 := evalT t27
      clear t27
      refine Or.inl ⟨e15, ?_⟩
      refine fk_run ?_
      go_simp
    refine And.intro (fun u W A hW hBW hd hv hr => ?_) ?_
    · have e15 : u 15 = .bool false := hd 15 (by decide) (by kernel_rfl)
      have t5 : A.eval (.tmp 5) = .pointer (some ⟨w.heap.size, 0, none⟩) := (hv 5 (by kernel_rfl)).trans (by kernel_rfl)
      clear hd hv
      have s5 := evalT t5
      clear t5
      refine Or.inl ⟨e15, ?_⟩
      refine fk_run ?_
      go_simp
    refine And.intro (fun u W A hW hBW hd hv hr => ?_) ?_
    · have e15 : u 15 = .bool false := hd 15 (by decide) (by kernel_rfl)
      have e18 : u 18 = .pointer (some ⟨w.heap.size, 2, none⟩) := hd 18 (by decide) (by kernel_rfl)
      have t29 : A.eval (.tmp 29) = .pointer (some ⟨w.heap.size, 2, none⟩) := (hv 29 (by kernel_rfl)).trans ((by kernel_rfl : slotV _ _ _ u 29 = u 18).trans e18)
      have hW1 := below_undrew hW
      have hcl : W.cell? ⟨w.heap.size, 2, none⟩ = some (.slice aop lp cp) := by rw [hW1.cell (p := ⟨w.heap.size, 2, none⟩) hz1, cell_of_row _ _ 2 _ _ _ HR1.out]; rfl
      clear hd hv
      have s29 := evalT t29
      clear t29
      refine Or.inl ⟨e15, ?_⟩
      refine fk_run ?_
      go_simp
    refine And.intro (fun u W A hW hBW hd hv hr => ?_) ?_
    · have e15 : u 15 = .bool false := hd 15 (by decide) (by kernel_rfl)
      have e19 : u 19 = .slice aop lp cp := hd 19 (by decide) (by kernel_rfl)
      have t30 : A.eval (.tmp 30) = .slice aop lp cp := (hv 30 (by kernel_rfl)).trans ((by kernel_rfl : slotV _ _ _ u 30 = u 19).trans e19)
      clear hd hv
      have s30 := evalT t30
      clear t30
      refine Or.inl ⟨e15, ?_⟩
      refine fk_run ?_
      go_simp
    refine And.intro (fun u W A hW hBW hd hv hr => ?_) ?_
    · have e15 : u 15 = .bool false := hd 15 (by decide) (by kernel_rfl)
      have e20 : u 20 = .int .i64 (lp : Int) := hd 20 (by decide) (by kernel_rfl)
      have t31 : A.eval (.tmp 31) = .int .i64 (lp : Int) := (hv 31 (by kernel_rfl)).trans ((by kernel_rfl : slotV _ _ _ u 31 = u 20).trans e20)
      have hW1 := below_undrew hW
      clear hd hv
      have s31 := evalT t31
      clear t31
      refine Or.inl ⟨e15, ?_⟩
      refine fk_enter (f := 29) (args := #[.int .i64 (lp : Int)]) (by go_simp) (fk_val ?_)
      exact (HPO.out W).mono fun e w' ⟨he, hw⟩ => ⟨he, by rw [hw]; exact Below.refl _ _⟩
    refine And.intro (fun u W A hW hBW hd hv hr => ?_) ?_
    · have e15 : u 15 = .bool false := hd 15 (by decide) (by kernel_rfl)
      have e17 : u 17 = .int .i64 idx := hd 17 (by decide) (by kernel_rfl)
      have e21 : u 21 = .int .i64 (p : Int) := hd 21 (by decide) (by kernel_rfl)
      have t28 : A.eval (.tmp 28) = .int .i64 idx := (hv 28 (by kernel_rfl)).trans ((by kernel_rfl : slotV _ _ _ u 28 = u 17).trans e17)
      have t32 : A.eval (.tmp 32) = .int .i64 (p : Int) := (hv 32 (by kernel_rfl)).trans ((by kernel_rfl : slotV _ _ _ u 32 = u 21).trans e21)
      clear hd hv
      have s28 := evalT t28
      have s32 := evalT t32
      clear t28 t32
      refine Or.inl ⟨e15, ?_⟩
      refine fk_run ?_
      go_simp
    refine And.intro (fun u W A hW hBW hd hv hr => ?_) ?_
    · have e15 : u 15 = .bool false := hd 15 (by decide) (by kernel_rfl)
      have e22 : u 22 = .bool true := hd 22 (by decide) (by kernel_rfl)
      have t26 : A.eval (.tmp 26) = .bool false := (hv 26 (by kernel_rfl)).trans ((by kernel_rfl : slotV _ _ _ u 26 = u 15).trans e15)
      have t33 : A.eval (.tmp 33) = .bool true := (hv 33 (by kernel_rfl)).trans ((by kernel_rfl : slotV _ _ _ u 33 = u 22).trans e22)
      clear hd hv
      have s26 := evalT t26
      have s33 := evalT t33
      clear t26 t33
      refine fk_run ?_
      go_simp
    exact trivial
  intro u w2 hb2 hk2 hf2
  have e23 : u 23 = .bool true := hf2 23 (by decide) (by decide)
  have hb3 := below_undrew hb2
  have H2 := Lib.hid (HB1.out.trans (hb3.mono HB1.out.size))
  have HSG2 := Lib.hid (HSG1.out.on hb3)
  have HPT2 := Lib.hid (HPT1.out.on hb3)
  have HR2 := Lib.hid ((hb3.block w.heap.size hz1).trans HR1.out)
  have hz2 : w.heap.size < w2.heap.size := Nat.lt_of_lt_of_le hz1 hb3.size
  clear hf2 hb2 hk2 hb3 HR1 HB1 HSG1 HPT1 hz1
  simp only [List.take, List.drop, wpList, lexPut, Nat.zero_add, Nat.reduceAdd, e23, Act.put, List.setIfInBounds_toArray, List.set_cons_succ, List.set_cons_zero]
  clear e23
  go_wp2
  go_ret
  exact ⟨rfl, H2.out⟩
end Go.Proofs.YtpogffdbencfnaaGreatDoor

namespace Go.Proofs.YtpogffdbencfnaaGreatDoor
open Go Go.RowKit

theorem all_not {l : List ByteArray} {k : Nat} (h : k < l.length) (hn : isS (l.getD k ByteArray.empty) = false) : l.all isS = false := by
  cases hq : l.all isS with
  | false => rfl
  | true =>
    have := List.all_eq_true.1 hq (l.getD k ByteArray.empty) (by simp [List.getD, h])
    rw [hn] at this; cases this
theorem ver_false1 {pub m : ByteArray} {idx : Int} {sig path : List ByteArray} (h : sig.all isS = false) : verT pub m idx sig path = false := by unfold verT; rw [h]; simp
theorem ver_false2 {pub m : ByteArray} {idx : Int} {sig path : List ByteArray} (h : path.all isS = false) : verT pub m idx sig path = false := by unfold verT; rw [h]; simp
theorem all_is {l : List ByteArray} (h : ∀ j, j < l.length → isS (l.getD j ByteArray.empty) = true) : l.all isS = true := by
  rw [List.all_eq_true]
  intro s hs
  obtain ⟨j, hj, rfl⟩ := List.mem_iff_getElem.1 hs
  have := h j hj
  rwa [show l.getD j ByteArray.empty = l[j] by simp [List.getD, hj]] at this
/-- the ends so far, all of them digests' ends -/
def REnd (w2 : World) (m : ByteArray) (sig : List ByteArray) (k : Nat) (v : Value) (W : World) : Prop :=
  Own w2.heap.size W v ((sealEnds m sig).take k) ∧ Below w2.heap.size w2 W ∧ ∀ j, j < k → isS (sig.getD j ByteArray.empty) = true
set_option maxRecDepth 100000 in
set_option maxHeartbeats 4000000 in
theorem rver_on (pub m : ByteArray) (idx : Int) (vs vp : Value) (sig path : List ByteArray) (w : World) (hpub : pub.size ≤ 1099511627776) (hm : m.size ≤ 1099511627776) (hs : IsStrC w vs sig) (hp : IsStrC w vp path) (hss : ∀ s ∈ sig, s.size ≤ 1099511627776) (hps : ∀ s ∈ path, s.size ≤ 1099511627776) (hA : sig.length = 18) (hB : path.length ≤ 8) (hE : ¬ idx < 0) (hF : ¬ ((2 ^ path.length : Nat) : Int) ≤ idx) :
    Calls Tryz.prog 16 #[.string pub, .string m, .agg #[.int .i64 idx, vs, vp]] w fun e w' => e = .returned (.bool (verT pub m idx sig path)) ∧ Below w.heap.size w w' := by
  have HSS := Lib.hid hss
  have HSP := Lib.hid hps
  obtain ⟨aos, cs, rfl⟩ := strc_form hs
  obtain ⟨aop, cp, rfl⟩ := strc_form hp
  have HSG := Lib.hid hs
  have HPT := Lib.hid hp
  clear hss hps hs hp
  rw [hA] at HSG
  rw [hA]
  have HLS := Lib.hid hA
  clear hA
  have hpm : path.length ≤ 9223372036854775807 := by obtain ⟨ao, c, e, h1, h2, _⟩ := HPT.out; have : c ≤ 9223372036854775807 := h2; omega
  obtain ⟨lp, hlp⟩ : ∃ lp, lp = path.length := ⟨_, rfl⟩
  rw [← hlp] at hpm hB hF
  rw [← hlp] at HPT
  rw [← hlp]
  have HLP := Lib.hid hlp
  clear hlp
  have hdB : decide ((8 : Int) < (lp : Int)) = false := decide_eq_false (by omega)
  have hdE : decide (idx < 0) = false := decide_eq_false hE
  obtain ⟨p, hp⟩ : ∃ p, p = 2 ^ lp := ⟨_, rfl⟩
  have hp8 : p ≤ 256 := by rw [hp]; exact Nat.pow_le_pow_right (n := 2) (by decide) hB
  have HPO : Hid (∀ W, Calls Tryz.prog 29 #[.int .i64 (lp : Int)] W fun e w' => e = .returned (.int .i64 (p : Int)) ∧ w' = W) := Lib.hid (fun W => by rw [hp]; exact power_calls lp (by omega) W)
  rw [← hp] at hF
  have HPP := Lib.hid hp
  clear hp
  have hdF : decide ((p : Int) ≤ idx) = false := decide_eq_false hF
  obtain ⟨hbx, hB1, hz⟩ := box_one w #[.int .i64 idx, .slice aos 18 cs, .slice aop lp cp] 24
  have HR1 := Lib.hid hbx
  have HB1 := Lib.hid hB1
  have HSG1 := Lib.hid (HSG.out.on hB1)
  have HPT1 := Lib.hid (HPT.out.on hB1)
  have hz1 : w.heap.size < (w.alloc (.cells #[.int .i64 idx, .slice aos 18 cs, .slice aop lp cp] 24)).heap.size := by omega
  clear hbx hB1 hz HSG HPT
  go_enter Tryz.func16, Tryz.ntmps16
  go_wp2_with fail
  generalize hgw : w.alloc (.cells #[.int .i64 idx, .slice aos 18 cs, .slice aop lp cp] 24) = w1 at *
  clear hgw
  refine wp_region_res 24 (w1.heap.size) (fun ii u => [valF (.pointer (some ⟨w.heap.size, 1, none⟩)), valF (.slice aos 18 cs), valF (.int .i64 18), valF (.bool false), valF (.bool false), valF (.pointer (some ⟨w.heap.size, 2, none⟩)), valF (.slice aop lp cp), valF (.int .i64 (lp : Int)), valF (.bool false), valF (.bool false), valF (.bool false), valF (.pointer (some ⟨w.heap.size, 0, none⟩)), valF (.int .i64 idx), valF (.bool false), valF (.bool false), valF (.bool false), valF (.pointer (some ⟨w.heap.size, 0, none⟩)), valF (.int .i64 idx), valF (.pointer (some ⟨w.heap.size, 2, none⟩)), valF (.slice aop lp cp), valF (.int .i64 (lp : Int)), valF (.int .i64 (p : Int)), valF (.bool false), valF (.bool false)].getD ii anyF) (fun jj ii => false) (fun jj bb => False) (by kernel_rfl) (by kernel_rfl) (by kernel_rfl) (by kernel_rfl) (by kernel_rfl) (Nat.le_refl _) ?_ ?_ ?_ ?_ ?_
  · intro ii u hii
    refine AllKStable.at ?_ ii
    exact ⟨.inl (valF_stable _ _), .inl (valF_stable _ _), .inl (valF_stable _ _), .inl (valF_stable _ _), .inl (valF_stable _ _), .inl (valF_stable _ _), .inl (valF_stable _ _), .inl (valF_stable _ _), .inl (valF_stable _ _), .inl (valF_stable _ _), .inl (valF_stable _ _), .inl (valF_stable _ _), .inl (valF_stable _ _), .inl (valF_stable _ _), .inl (valF_stable _ _), .inl (valF_stable _ _), .inl (valF_stable _ _), .inl (valF_stable _ _), .inl (valF_stable _ _), .inl (valF_stable _ _), .inl (valF_stable _ _), .inl (valF_stable _ _), .inl (valF_stable _ _), .inl (valF_stable _ _), trivial⟩
  · exact fun _ _ _ _ _ => rfl
  · exact ⟨fun _ _ _ h => h.elim, fun _ _ _ _ _ h => h.elim⟩
  · refine And.intro (fun u W A hW hBW hd hv hr => ?_) ?_
    · have t5 : A.eval (.tmp 5) = .pointer (some ⟨w.heap.size, 0, none⟩) := (hv 5 (by kernel_rfl)).trans (by kernel_rfl)
      clear hd hv
      have s5 := evalT t5
      clear t5
      refine fk_run ?_
      go_simp
    refine And.intro (fun u W A hW hBW hd hv hr => ?_) ?_
    · have e0 : u 0 = .pointer (some ⟨w.heap.size, 1, none⟩) := hd 0 (by decide) (by kernel_rfl)
      have t11 : A.eval (.tmp 11) = .pointer (some ⟨w.heap.size, 1, none⟩) := (hv 11 (by kernel_rfl)).trans ((by kernel_rfl : slotV _ _ _ u 11 = u 0).trans e0)
      have hW1 := below_undrew hW
      have hcl : W.cell? ⟨w.heap.size, 1, none⟩ = some (.slice aos 18 cs) := by rw [hW1.cell (p := ⟨w.heap.size, 1, none⟩) hz1, cell_of_row _ _ 1 _ _ _ HR1.out]; rfl
      clear hd hv
      have s11 := evalT t11
      clear t11
      refine fk_run ?_
      go_simp
    refine And.intro (fun u W A hW hBW hd hv hr => ?_) ?_
    · have e1 : u 1 = .slice aos 18 cs := hd 1 (by decide) (by kernel_rfl)
      have t12 : A.eval (.tmp 12) = .slice aos 18 cs := (hv 12 (by kernel_rfl)).trans ((by kernel_rfl : slotV _ _ _ u 12 = u 1).trans e1)
      clear hd hv
      have s12 := evalT t12
      clear t12
      refine fk_run ?_
      go_simp
    refine And.intro (fun u W A hW hBW hd hv hr => ?_) ?_
    · have e2 : u 2 = .int .i64 18 := hd 2 (by decide) (by kernel_rfl)
      have t13 : A.eval (.tmp 13) = .int .i64 18 := (hv 13 (by kernel_rfl)).trans ((by kernel_rfl : slotV _ _ _ u 13 = u 2).trans e2)
      clear hd hv
      have s13 := evalT t13
      clear t13
      refine fk_run ?_
      go_simp
    refine And.intro (fun u W A hW hBW hd hv hr => ?_) ?_
    · have e3 : u 3 = .bool false := hd 3 (by decide) (by kernel_rfl)
      have t14 : A.eval (.tmp 14) = .bool false := (hv 14 (by kernel_rfl)).trans ((by kernel_rfl : slotV _ _ _ u 14 = u 3).trans e3)
      clear hd hv
      have s14 := evalT t14
      clear t14
      refine fk_run ?_
      go_simp
    refine And.intro (fun u W A hW hBW hd hv hr => ?_) ?_
    · have e4 : u 4 = .bool false := hd 4 (by decide) (by kernel_rfl)
      have t5 : A.eval (.tmp 5) = .pointer (some ⟨w.heap.size, 0, none⟩) := (hv 5 (by kernel_rfl)).trans (by kernel_rfl)
      clear hd hv
      have s5 := evalT t5
      clear t5
      refine Or.inl ⟨e4, ?_⟩
      refine fk_run ?_
      go_simp
    refine And.intro (fun u W A hW hBW hd hv hr => ?_) ?_
    · have e4 : u 4 = .bool false := hd 4 (by decide) (by kernel_rfl)
      have e5 : u 5 = .pointer (some ⟨w.heap.size, 2, none⟩) := hd 5 (by decide) (by kernel_rfl)
      have t16 : A.eval (.tmp 16) = .pointer (some ⟨w.heap.size, 2, none⟩) := (hv 16 (by kernel_rfl)).trans ((by kernel_rfl : slotV _ _ _ u 16 = u 5).trans e5)
      have hW1 := below_undrew hW
      have hcl : W.cell? ⟨w.heap.size, 2, none⟩ = some (.slice aop lp cp) := by rw [hW1.cell (p := ⟨w.heap.size, 2, none⟩) hz1, cell_of_row _ _ 2 _ _ _ HR1.out]; rfl
      clear hd hv
      have s16 := evalT t16
      clear t16
      refine Or.inl ⟨e4, ?_⟩
      refine fk_run ?_
      go_simp
    refine And.intro (fun u W A hW hBW hd hv hr => ?_) ?_
    · have e4 : u 4 = .bool false := hd 4 (by decide) (by kernel_rfl)
      have e6 : u 6 = .slice aop lp cp := hd 6 (by decide) (by kernel_rfl)
      have t17 : A.eval (.tmp 17) = .slice aop lp cp := (hv 17 (by kernel_rfl)).trans ((by kernel_rfl : slotV _ _ _ u 17 = u 6).trans e6)
      clear hd hv
      have s17 := evalT t17
      clear t17
      refine Or.inl ⟨e4, ?_⟩
      refine fk_run ?_
      go_simp
    refine And.intro (fun u W A hW hBW hd hv hr => ?_) ?_
    · have e4 : u 4 = .bool false := hd 4 (by decide) (by kernel_rfl)
      have e7 : u 7 = .int .i64 (lp : Int) := hd 7 (by decide) (by kernel_rfl)
      have t18 : A.eval (.tmp 18) = .int .i64 (lp : Int) := (hv 18 (by kernel_rfl)).trans ((by kernel_rfl : slotV _ _ _ u 18 = u 7).trans e7)
      clear hd hv
      have s18 := evalT t18
      clear t18
      refine Or.inl ⟨e4, ?_⟩
      refine fk_run ?_
      go_simp
    refine And.intro (fun u W A hW hBW hd hv hr => ?_) ?_
    · have e4 : u 4 = .bool false := hd 4 (by decide) (by kernel_rfl)
      have e8 : u 8 = .bool false := hd 8 (by decide) (by kernel_rfl)
      have t15 : A.eval (.tmp 15) = .bool false := (hv 15 (by kernel_rfl)).trans ((by kernel_rfl : slotV _ _ _ u 15 = u 4).trans e4)
      have t19 : A.eval (.tmp 19) = .bool false := (hv 19 (by kernel_rfl)).trans ((by kernel_rfl : slotV _ _ _ u 19 = u 8).trans e8)
      clear hd hv
      have s15 := evalT t15
      have s19 := evalT t19
      clear t15 t19
      refine fk_run ?_
      go_simp
    refine And.intro (fun u W A hW hBW hd hv hr => ?_) ?_
    · have e9 : u 9 = .bool false := hd 9 (by decide) (by kernel_rfl)
      have t20 : A.eval (.tmp 20) = .bool false := (hv 20 (by kernel_rfl)).trans ((by kernel_rfl : slotV _ _ _ u 20 = u 9).trans e9)
      clear hd hv
      have s20 := evalT t20
      clear t20
      refine fk_run ?_
      go_simp
    refine And.intro (fun u W A hW hBW hd hv hr => ?_) ?_
    · have e10 : u 10 = .bool false := hd 10 (by decide) (by kernel_rfl)
      have t5 : A.eval (.tmp 5) = .pointer (some ⟨w.heap.size, 0, none⟩) := (hv 5 (by kernel_rfl)).trans (by kernel_rfl)
      clear hd hv
      have s5 := evalT t5
      clear t5
      refine Or.inl ⟨e10, ?_⟩
      refine fk_run ?_
      go_simp
    refine And.intro (fun u W A hW hBW hd hv hr => ?_) ?_
    · have e10 : u 10 = .bool false := hd 10 (by decide) (by kernel_rfl)
      have e11 : u 11 = .pointer (some ⟨w.heap.size, 0, none⟩) := hd 11 (by decide) (by kernel_rfl)
      have t22 : A.eval (.tmp 22) = .pointer (some ⟨w.heap.size, 0, none⟩) := (hv 22 (by kernel_rfl)).trans ((by kernel_rfl : slotV _ _ _ u 22 = u 11).trans e11)
      have hW1 := below_undrew hW
      have hcl : W.cell? ⟨w.heap.size, 0, none⟩ = some (.int .i64 idx) := by rw [hW1.cell (p := ⟨w.heap.size, 0, none⟩) hz1, cell_of_row _ _ 0 _ _ _ HR1.out]; rfl
      clear hd hv
      have s22 := evalT t22
      clear t22
      refine Or.inl ⟨e10, ?_⟩
      refine fk_run ?_
      go_simp
    refine And.intro (fun u W A hW hBW hd hv hr => ?_) ?_
    · have e10 : u 10 = .bool false := hd 10 (by decide) (by kernel_rfl)
      have e12 : u 12 = .int .i64 idx := hd 12 (by decide) (by kernel_rfl)
      have t23 : A.eval (.tmp 23) = .int .i64 idx := (hv 23 (by kernel_rfl)).trans ((by kernel_rfl : slotV _ _ _ u 23 = u 12).trans e12)
      clear hd hv
      have s23 := evalT t23
      clear t23
      refine Or.inl ⟨e10, ?_⟩
      refine fk_run ?_
      go_simp
    refine And.intro (fun u W A hW hBW hd hv hr => ?_) ?_
    · have e10 : u 10 = .bool false := hd 10 (by decide) (by kernel_rfl)
      have e13 : u 13 = .bool false := hd 13 (by decide) (by kernel_rfl)
      have t21 : A.eval (.tmp 21) = .bool false := (hv 21 (by kernel_rfl)).trans ((by kernel_rfl : slotV _ _ _ u 21 = u 10).trans e10)
      have t24 : A.eval (.tmp 24) = .bool false := (hv 24 (by kernel_rfl)).trans ((by kernel_rfl : slotV _ _ _ u 24 = u 13).trans e13)
      clear hd hv
      have s21 := evalT t21
      have s24 := evalT t24
      clear t21 t24
      refine fk_run ?_
      go_simp
    refine And.intro (fun u W A hW hBW hd hv hr => ?_) ?_
    · have e14 : u 14 = .bool false := hd 14 (by decide) (by kernel_rfl)
      have t25 : A.eval (.tmp 25) = .bool false := (hv 25 (by kernel_rfl)).trans ((by kernel_rfl : slotV _ _ _ u 25 = u 14).trans e14)
      clear hd hv
      have s25 := evalT t25
      clear t25
      refine fk_run ?_
      go_simp
    refine And.intro (fun u W A hW hBW hd hv hr => ?_) ?_
    · have e15 : u 15 = .bool false := hd 15 (by decide) (by kernel_rfl)
      have t5 : A.eval (.tmp 5) = .pointer (some ⟨w.heap.size, 0, none⟩) := (hv 5 (by kernel_rfl)).trans (by kernel_rfl)
      clear hd hv
      have s5 := evalT t5
      clear t5
      refine Or.inl ⟨e15, ?_⟩
      refine fk_run ?_
      go_simp
    refine And.intro (fun u W A hW hBW hd hv hr => ?_) ?_
    · have e15 : u 15 = .bool false := hd 15 (by decide) (by kernel_rfl)
      have e16 : u 16 = .pointer (some ⟨w.heap.size, 0, none⟩) := hd 16 (by decide) (by kernel_rfl)
      have t27 : A.eval (.tmp 27) = .pointer (some ⟨w.heap.size, 0, none⟩) := (hv 27 (by kernel_rfl)).trans ((by kernel_rfl : slotV _ _ _ u 27 = u 16).trans e16)
      have hW1 := below_undrew hW
      have hcl : W.cell? ⟨w.heap.size, 0, none⟩ = some (.int .i64 idx) := by rw [hW1.cell (p := ⟨w.heap.size, 0, none⟩) hz1, cell_of_row _ _ 0 _ _ _ HR1.out]; rfl
      clear hd hv
      have s27 := evalT t27
      clear t27
      refine Or.inl ⟨e15, ?_⟩
      refine fk_run ?_
      go_simp
    refine And.intro (fun u W A hW hBW hd hv hr => ?_) ?_
    · have e15 : u 15 = .bool false := hd 15 (by decide) (by kernel_rfl)
      have t5 : A.eval (.tmp 5) = .pointer (some ⟨w.heap.size, 0, none⟩) := (hv 5 (by kernel_rfl)).trans (by kernel_rfl)
      clear hd hv
      have s5 := evalT t5
      clear t5
      refine Or.inl ⟨e15, ?_⟩
      refine fk_run ?_
      go_simp
    refine And.intro (fun u W A hW hBW hd hv hr => ?_) ?_
    · have e15 : u 15 = .bool false := hd 15 (by decide) (by kernel_rfl)
      have e18 : u 18 = .pointer (some ⟨w.heap.size, 2, none⟩) := hd 18 (by decide) (by kernel_rfl)
      have t29 : A.eval (.tmp 29) = .pointer (some ⟨w.heap.size, 2, none⟩) := (hv 29 (by kernel_rfl)).trans ((by kernel_rfl : slotV _ _ _ u 29 = u 18).trans e18)
      have hW1 := below_undrew hW
      have hcl : W.cell? ⟨w.heap.size, 2, none⟩ = some (.slice aop lp cp) := by rw [hW1.cell (p := ⟨w.heap.size, 2, none⟩) hz1, cell_of_row _ _ 2 _ _ _ HR1.out]; rfl
      clear hd hv
      have s29 := evalT t29
      clear t29
      refine Or.inl ⟨e15, ?_⟩
      refine fk_run ?_
      go_simp
    refine And.intro (fun u W A hW hBW hd hv hr => ?_) ?_
    · have e15 : u 15 = .bool false := hd 15 (by decide) (by kernel_rfl)
      have e19 : u 19 = .slice aop lp cp := hd 19 (by decide) (by kernel_rfl)
      have t30 : A.eval (.tmp 30) = .slice aop lp cp := (hv 30 (by kernel_rfl)).trans ((by kernel_rfl : slotV _ _ _ u 30 = u 19).trans e19)
      clear hd hv
      have s30 := evalT t30
      clear t30
      refine Or.inl ⟨e15, ?_⟩
      refine fk_run ?_
      go_simp
    refine And.intro (fun u W A hW hBW hd hv hr => ?_) ?_
    · have e15 : u 15 = .bool false := hd 15 (by decide) (by kernel_rfl)
      have e20 : u 20 = .int .i64 (lp : Int) := hd 20 (by decide) (by kernel_rfl)
      have t31 : A.eval (.tmp 31) = .int .i64 (lp : Int) := (hv 31 (by kernel_rfl)).trans ((by kernel_rfl : slotV _ _ _ u 31 = u 20).trans e20)
      have hW1 := below_undrew hW
      clear hd hv
      have s31 := evalT t31
      clear t31
      refine Or.inl ⟨e15, ?_⟩
      refine fk_enter (f := 29) (args := #[.int .i64 (lp : Int)]) (by go_simp) (fk_val ?_)
      exact (HPO.out W).mono fun e w' ⟨he, hw⟩ => ⟨he, by rw [hw]; exact Below.refl _ _⟩
    refine And.intro (fun u W A hW hBW hd hv hr => ?_) ?_
    · have e15 : u 15 = .bool false := hd 15 (by decide) (by kernel_rfl)
      have e17 : u 17 = .int .i64 idx := hd 17 (by decide) (by kernel_rfl)
      have e21 : u 21 = .int .i64 (p : Int) := hd 21 (by decide) (by kernel_rfl)
      have t28 : A.eval (.tmp 28) = .int .i64 idx := (hv 28 (by kernel_rfl)).trans ((by kernel_rfl : slotV _ _ _ u 28 = u 17).trans e17)
      have t32 : A.eval (.tmp 32) = .int .i64 (p : Int) := (hv 32 (by kernel_rfl)).trans ((by kernel_rfl : slotV _ _ _ u 32 = u 21).trans e21)
      clear hd hv
      have s28 := evalT t28
      have s32 := evalT t32
      clear t28 t32
      refine Or.inl ⟨e15, ?_⟩
      refine fk_run ?_
      go_simp
    refine And.intro (fun u W A hW hBW hd hv hr => ?_) ?_
    · have e15 : u 15 = .bool false := hd 15 (by decide) (by kernel_rfl)
      have e22 : u 22 = .bool false := hd 22 (by decide) (by kernel_rfl)
      have t26 : A.eval (.tmp 26) = .bool false := (hv 26 (by kernel_rfl)).trans ((by kernel_rfl : slotV _ _ _ u 26 = u 15).trans e15)
      have t33 : A.eval (.tmp 33) = .bool false := (hv 33 (by kernel_rfl)).trans ((by kernel_rfl : slotV _ _ _ u 33 = u 22).trans e22)
      clear hd hv
      have s26 := evalT t26
      have s33 := evalT t33
      clear t26 t33
      refine fk_run ?_
      go_simp
    exact trivial
  intro u w2 hb2 hk2 hf2
  have e23 : u 23 = .bool false := hf2 23 (by decide) (by decide)
  have hb3 := below_undrew hb2
  have H2 := Lib.hid (HB1.out.trans (hb3.mono HB1.out.size))
  have HSG2 := Lib.hid (HSG1.out.on hb3)
  have HPT2 := Lib.hid (HPT1.out.on hb3)
  have HR2 := Lib.hid ((hb3.block w.heap.size hz1).trans HR1.out)
  have hz2 : w.heap.size < w2.heap.size := Nat.lt_of_lt_of_le hz1 hb3.size
  clear hf2 hb2 hk2 hb3 HR1 HB1 HSG1 HPT1 hz1
  simp only [List.take, List.drop, wpList, lexPut, Nat.zero_add, Nat.reduceAdd, e23, Act.put, List.setIfInBounds_toArray, List.set_cons_succ, List.set_cons_zero]
  clear e23
  go_wp2_with fail
  refine (rdigits_calls m w2 (by omega)).mono ?_
  rintro e w3 ⟨vd, rfl, hod, hB⟩
  have HD := Lib.hid hod.nats
  have HDL := Lib.hid (digsT_len m)
  have H3 := Lib.hid (H2.out.trans (hB.mono H2.out.size))
  have HSG3 := Lib.hid (HSG2.out.on hB)
  have HPT3 := Lib.hid (HPT2.out.on hB)
  have HR3 := Lib.hid ((hB.block w.heap.size hz2).trans HR2.out)
  have hz3 : w.heap.size < w3.heap.size := Nat.lt_of_lt_of_le hz2 hB.size
  obtain ⟨bd, od, cd, rfl, _, _⟩ := nats_cell HD.out 0 (by rw [HDL.out]; decide)
  rw [HDL.out] at HD ⊢
  clear hod hB H2 HSG2 HPT2 HR2 hz2
  go_wp2_with fail
  go_loopw [8, 9] (fun v8 v9 W => ∃ k : Nat, v9 = .int .i64 (k : Int) ∧ k ≤ 18 ∧ Hid (REnd w3 m sig k v8 W)) (fun _ v9 _ => 18 - (RowKit.intOf v9).toNat)
  case atStart => exact ⟨0, rfl, by omega, Lib.hid ⟨Own.nil _ _, Below.refl _ _, fun j hj => absurd hj (Nat.not_lt_zero j)⟩⟩
  case round =>
    obtain ⟨k, rfl, hk, HK⟩ := hrel
    have HRW : Hid (wr.heap[w.heap.size]? = some (.cells #[.int .i64 idx, .slice aos 18 cs, .slice aop lp cp] 24 (0, 0))) := Lib.hid ((HK.out.2.1.block _ hz3).trans HR3.out)
    have HBW : Hid (Below w.heap.size w wr) := Lib.hid (H3.out.trans (HK.out.2.1.mono H3.out.size))
    have c1 : wr.cell? ⟨w.heap.size, 1, none⟩ = some (.slice aos 18 cs) := by rw [cell_of_row _ _ 1 _ _ _ HRW.out]; rfl
    have hzw : w.heap.size < wr.heap.size := Nat.lt_of_lt_of_le hz3 HK.out.2.1.size
    by_cases hlt : k < 18
    · obtain ⟨bs, os, csx, he, hbs3, hcs3⟩ := strc_lt HSG3.out k (by rw [HLS.out]; exact hlt)
      simp only [Value.slice.injEq] at he
      obtain ⟨rfl, he2, he3⟩ := he
      have hbs : bs < wr.heap.size := Nat.lt_of_lt_of_le hbs3 HK.out.2.1.size
      have hcs : wr.cell? ⟨bs, os + k, none⟩ = some (.string (sig.getD k ByteArray.empty)) := by rw [HK.out.2.1.cell (p := ⟨bs, os + k, none⟩) hbs3]; exact hcs3
      have HBS := Lib.hid hbs3
      clear hbs3 hcs3
      have hsz := getD_size HSS.out k
      have hk18 : (k : Int) < 18 := by omega
      cases his : isS (sig.getD k ByteArray.empty) with
      | false =>
        have HV : Hid (verT pub m idx sig path = false) := Lib.hid (ver_false1 (all_not (by rw [HLS.out]; exact hlt) his))
        have HI := Lib.hid his
        have hcs2 := hcs
        clear his hcs he2 he3
        generalize sig.getD k ByteArray.empty = s at *
        go_wp2_with fail
        refine (ris_calls s (by omega) wr).mono ?_
        rintro e wr ⟨rfl, rfl⟩
        rw [HI.out]
        go_wp2
        go_ret
        exact ⟨congrArg (fun b => Ending.returned (Value.bool b)) HV.out.symm, HBW.out⟩
      | true =>
        have HES := Lib.hid (sealEnds_succ m sig k hlt)
        have hel : ((sealEnds m sig).take k).length ≤ 18 := by rw [List.length_take]; omega
        have hdle := dig_le m k
        obtain ⟨bd2, od2, cdx, hed, hbd, hcd⟩ := nats_cell HD.out k (by rw [HDL.out]; exact hlt)
        simp only [Value.slice.injEq, Option.some.injEq, Addr.mk.injEq] at hed
        obtain ⟨⟨rfl, rfl, _⟩, hd2', hd3'⟩ := hed
        have HCD : Hid (wr.cell? ⟨bd, od + k, none⟩ = some (.int .i64 ((digsT m).getD k 0 : Int))) := Lib.hid (by rw [HK.out.2.1.cell (p := ⟨bd, od + k, none⟩) hbd]; exact hcd)
        have hbdw : bd < wr.heap.size := Nat.lt_of_lt_of_le hbd HK.out.2.1.size
        have HCS := Lib.hid hcs
        have HI := Lib.hid his
        have HIK : Hid (∀ j, j < k + 1 → isS (sig.getD j ByteArray.empty) = true) := Lib.hid (fun j hj => by
          rcases Nat.lt_or_ge j k with h | h
          · exact HK.out.2.2 j h
          · have : j = k := by omega
            rw [this]; exact HI.out)
        have HK1 := Lib.hid HK.out.1
        have HK2 := Lib.hid HK.out.2.1
        have hw3s : w3.heap.size ≤ wr.heap.size := HK.out.2.1.size
        have hcs2 := hcs
        have HBD : Hid (bd < w3.heap.size) := Lib.hid hbd
        clear his hcs hd2' hd3' hcd hbd HK he2 he3
        obtain ⟨s, hsE⟩ : ∃ s, s = sig.getD k ByteArray.empty := ⟨_, rfl⟩
        obtain ⟨d, hdE⟩ : ∃ d, d = (digsT m).getD k 0 := ⟨_, rfl⟩
        rw [← hsE] at HES HCS HI hsz hcs2
        rw [← hdE] at HES HCD hdle
        clear hsE hdE
        generalize (sealEnds m sig).take k = acc at *
        go_wp2_with fail
        refine (ris_calls s (by omega) wr).mono ?_
        rintro e wr ⟨rfl, rfl⟩
        rw [HI.out]
        clear hcs2
        go_wp2_with fail
        refine wp_region_res2 14 (w3.heap.size) (fun ii u => [OwnF w3.heap.size (acc), valF (.pointer (some ⟨w.heap.size, 1, none⟩)), valF (.slice (some ⟨bs, os, none⟩) 18 cs), valF (.int .i64 (k : Int)), valF (.pointer (some ⟨bs, os + k, none⟩)), valF (.string s), valF (.slice (some ⟨bd, od, none⟩) 18 cd), valF (.int .i64 (k : Int)), valF (.pointer (some ⟨bd, od + k, none⟩)), valF (.int .i64 (d : Int)), valF (.int .i64 (15 - (d : Int))), valF (.string (chainS s (15 - d))), OwnF w3.heap.size ([chainS s (15 - d)]), OwnF w3.heap.size (acc ++ [chainS s (15 - d)])].getD ii anyF) (fun jj ii => (jj == 13 && ii == 0)) (fun jj bb => (jj = 0 ∧ u8.ownBlock = some bb)) (by kernel_rfl) (by kernel_rfl) (by kernel_rfl) (by kernel_rfl) (by kernel_rfl) (hw3s) ?_ ?_ ?_ ?_ ?_
        · intro ii u hii
          refine AllKStable.at ?_ ii
          exact ⟨.inl (ownF_st _ _ _), .inl (valF_stable _ _), .inl (valF_stable _ _), .inl (valF_stable _ _), .inl (valF_stable _ _), .inl (valF_stable _ _), .inl (valF_stable _ _), .inl (valF_stable _ _), .inl (valF_stable _ _), .inl (valF_stable _ _), .inl (valF_stable _ _), .inl (valF_stable _ _), .inl (ownF_st _ _ _), .inl (ownF_st _ _ _), trivial⟩
        · exact fun _ _ _ _ _ => rfl
        · refine ⟨fun j b _ h => ?_, fun j j2 b _ _ h h2 => ?_⟩
          · obtain ⟨_, h⟩ := h
            have := own_block HK1.out b h; omega
          · obtain ⟨h, _⟩ := h; obtain ⟨h2, _⟩ := h2; omega
        · refine And.intro (fun u W A hW hBW hd hv hr hkq => ?_) ?_
          · have t8 : A.eval (.tmp 8) = u8 := (hv 8 (by kernel_rfl)).trans (by kernel_rfl)
            have hW1 := below_undrew hW
            have hsz : wr.heap.size ≤ W.heap.size := hW1.size
            have ho : Own w3.heap.size W u8 acc := ownF_st w3.heap.size w3.heap.size acc _ W u8 hW1 (fun b hb => hr 0 b (by decide) (.inl rfl) ⟨rfl, hb⟩) HK1.out
            clear hd hv
            have s8 := evalT t8
            clear t8
            exact fk_load_own (v := u8) (by go_simp) ho (fun b hb => .inr ⟨rfl, hb⟩)
          refine And.intro (fun u W A hW hBW hd hv hr hkq => ?_) ?_
          · have t5 : A.eval (.tmp 5) = .pointer (some ⟨w.heap.size, 0, none⟩) := (hv 5 (by kernel_rfl)).trans (by kernel_rfl)
            clear hd hv
            have s5 := evalT t5
            clear t5
            refine fk_run ?_
            go_simp
          refine And.intro (fun u W A hW hBW hd hv hr hkq => ?_) ?_
          · have e1 : u 1 = .pointer (some ⟨w.heap.size, 1, none⟩) := hd 1 (by decide) (by kernel_rfl)
            have t49 : A.eval (.tmp 49) = .pointer (some ⟨w.heap.size, 1, none⟩) := (hv 49 (by kernel_rfl)).trans ((by kernel_rfl : slotV _ _ _ u 49 = u 1).trans e1)
            have hW1 := below_undrew hW
            have hsz : wr.heap.size ≤ W.heap.size := hW1.size
            have hcl : W.cell? ⟨w.heap.size, 1, none⟩ = some (.slice (some ⟨bs, os, none⟩) 18 cs) := by rw [hW1.cell (p := ⟨w.heap.size, 1, none⟩) hz3, cell_of_row _ _ 1 _ _ _ HRW.out]; rfl
            clear hd hv
            have s49 := evalT t49
            clear t49
            refine fk_run ?_
            go_simp
          refine And.intro (fun u W A hW hBW hd hv hr hkq => ?_) ?_
          · have t9 : A.eval (.tmp 9) = .int .i64 (k : Int) := (hv 9 (by kernel_rfl)).trans (by kernel_rfl)
            clear hd hv
            have s9 := evalT t9
            clear t9
            refine fk_run ?_
            go_simp
          refine And.intro (fun u W A hW hBW hd hv hr hkq => ?_) ?_
          · have e2 : u 2 = .slice (some ⟨bs, os, none⟩) 18 cs := hd 2 (by decide) (by kernel_rfl)
            have e3 : u 3 = .int .i64 (k : Int) := hd 3 (by decide) (by kernel_rfl)
            have t50 : A.eval (.tmp 50) = .slice (some ⟨bs, os, none⟩) 18 cs := (hv 50 (by kernel_rfl)).trans ((by kernel_rfl : slotV _ _ _ u 50 = u 2).trans e2)
            have t51 : A.eval (.tmp 51) = .int .i64 (k : Int) := (hv 51 (by kernel_rfl)).trans ((by kernel_rfl : slotV _ _ _ u 51 = u 3).trans e3)
            clear hd hv
            have s50 := evalT t50
            have s51 := evalT t51
            clear t50 t51
            refine fk_run ?_
            go_simp
          refine And.intro (fun u W A hW hBW hd hv hr hkq => ?_) ?_
          · have e4 : u 4 = .pointer (some ⟨bs, os + k, none⟩) := hd 4 (by decide) (by kernel_rfl)
            have t52 : A.eval (.tmp 52) = .pointer (some ⟨bs, os + k, none⟩) := (hv 52 (by kernel_rfl)).trans ((by kernel_rfl : slotV _ _ _ u 52 = u 4).trans e4)
            have hW1 := below_undrew hW
            have hsz : wr.heap.size ≤ W.heap.size := hW1.size
            have hz := hkq bs hbs (fun j _ h => by have := (own_block HK1.out bs h.2).1; have := HBS.out; omega)
            have hcl : W.cell? ⟨bs, os + k, none⟩ = some (.string s) := (World.cell?_of_block (a := ⟨bs, os + k, none⟩) hz).trans HCS.out
            clear hd hv
            have s52 := evalT t52
            clear t52
            refine fk_run ?_
            go_simp
          refine And.intro (fun u W A hW hBW hd hv hr hkq => ?_) ?_
          · have t7 : A.eval (.tmp 7) = .slice (some ⟨bd, od, none⟩) 18 cd := (hv 7 (by kernel_rfl)).trans (by kernel_rfl)
            clear hd hv
            have s7 := evalT t7
            clear t7
            refine fk_run ?_
            go_simp
          refine And.intro (fun u W A hW hBW hd hv hr hkq => ?_) ?_
          · have t9 : A.eval (.tmp 9) = .int .i64 (k : Int) := (hv 9 (by kernel_rfl)).trans (by kernel_rfl)
            clear hd hv
            have s9 := evalT t9
            clear t9
            refine fk_run ?_
            go_simp
          refine And.intro (fun u W A hW hBW hd hv hr hkq => ?_) ?_
          · have e6 : u 6 = .slice (some ⟨bd, od, none⟩) 18 cd := hd 6 (by decide) (by kernel_rfl)
            have e7 : u 7 = .int .i64 (k : Int) := hd 7 (by decide) (by kernel_rfl)
            have t54 : A.eval (.tmp 54) = .slice (some ⟨bd, od, none⟩) 18 cd := (hv 54 (by kernel_rfl)).trans ((by kernel_rfl : slotV _ _ _ u 54 = u 6).trans e6)
            have t55 : A.eval (.tmp 55) = .int .i64 (k : Int) := (hv 55 (by kernel_rfl)).trans ((by kernel_rfl : slotV _ _ _ u 55 = u 7).trans e7)
            clear hd hv
            have s54 := evalT t54
            have s55 := evalT t55
            clear t54 t55
            refine fk_run ?_
            go_simp
          refine And.intro (fun u W A hW hBW hd hv hr hkq => ?_) ?_
          · have e8 : u 8 = .pointer (some ⟨bd, od + k, none⟩) := hd 8 (by decide) (by kernel_rfl)
            have t56 : A.eval (.tmp 56) = .pointer (some ⟨bd, od + k, none⟩) := (hv 56 (by kernel_rfl)).trans ((by kernel_rfl : slotV _ _ _ u 56 = u 8).trans e8)
            have hW1 := below_undrew hW
            have hsz : wr.heap.size ≤ W.heap.size := hW1.size
            have hcl : W.cell? ⟨bd, od + k, none⟩ = some (.int .i64 (d : Int)) := by rw [hW1.cell (p := ⟨bd, od + k, none⟩) HBD.out]; exact HCD.out
            clear hd hv
            have s56 := evalT t56
            clear t56
            refine fk_run ?_
            go_simp
          refine And.intro (fun u W A hW hBW hd hv hr hkq => ?_) ?_
          · have e9 : u 9 = .int .i64 (d : Int) := hd 9 (by decide) (by kernel_rfl)
            have t57 : A.eval (.tmp 57) = .int .i64 (d : Int) := (hv 57 (by kernel_rfl)).trans ((by kernel_rfl : slotV _ _ _ u 57 = u 9).trans e9)
            clear hd hv
            have s57 := evalT t57
            clear t57
            refine fk_run ?_
            go_simp
            exact IntWalk.i64_in _ (by omega)
          refine And.intro (fun u W A hW hBW hd hv hr hkq => ?_) ?_
          · have e5 : u 5 = .string s := hd 5 (by decide) (by kernel_rfl)
            have e10 : u 10 = .int .i64 (15 - (d : Int)) := hd 10 (by decide) (by kernel_rfl)
            have t53 : A.eval (.tmp 53) = .string s := (hv 53 (by kernel_rfl)).trans ((by kernel_rfl : slotV _ _ _ u 53 = u 5).trans e5)
            have t58 : A.eval (.tmp 58) = .int .i64 (15 - (d : Int)) := (hv 58 (by kernel_rfl)).trans ((by kernel_rfl : slotV _ _ _ u 58 = u 10).trans e10)
            have hW1 := below_undrew hW
            have hsz : wr.heap.size ≤ W.heap.size := hW1.size
            clear hd hv
            have s53 := evalT t53
            have s58 := evalT t58
            clear t53 t58
            refine fk_enter (f := 31) (args := #[.string s, .int .i64 (15 - (d : Int))]) (by go_simp) (fk_val ?_)
            have hch := rchain_calls s (by omega) ((15 - d : Nat) : Int) W
            rw [chainN_nat (15 - d) (by omega)] at hch
            rw [show (15 : Int) - (d : Int) = ((15 - d : Nat) : Int) by omega]
            exact hch.mono fun e w' ⟨he, hw⟩ => ⟨he, by rw [hw]; exact Below.refl _ _⟩
          refine And.intro (fun u W A hW hBW hd hv hr hkq => ?_) ?_
          · have e11 : u 11 = .string (chainS s (15 - d)) := hd 11 (by decide) (by kernel_rfl)
            have t59 : A.eval (.tmp 59) = .string (chainS s (15 - d)) := (hv 59 (by kernel_rfl)).trans ((by kernel_rfl : slotV _ _ _ u 59 = u 11).trans e11)
            have hW1 := below_undrew hW
            have hsz : wr.heap.size ≤ W.heap.size := hW1.size
            clear hd hv
            have s59 := evalT t59
            clear t59
            exact fk_step (v := .slice (some ⟨W.heap.size, 0, none⟩) 1 1) (w' := W.alloc (.cells #[.string (chainS s (15 - d))] 9)) (by go_simp) (fk_own_of (by omega) (own_lit W [chainS s (15 - d)] (show 1 ≤ maxLen by decide)) ((Below.refl _ _).alloc (Nat.le_refl _) _))
          refine And.intro (fun u W A hW hBW hd hv hr hkq => ?_) ?_
          · have e0 : Own w3.heap.size W (u 0) (acc) := hd 0 (by decide) (by kernel_rfl)
            have e12 : Own w3.heap.size W (u 12) ([chainS s (15 - d)]) := hd 12 (by decide) (by kernel_rfl)
            have t48 : A.eval (.tmp 48) = u 0 := (hv 48 (by kernel_rfl)).trans (by kernel_rfl)
            have t60 : A.eval (.tmp 60) = u 12 := (hv 60 (by kernel_rfl)).trans (by kernel_rfl)
            have hW1 := below_undrew hW
            have hsz : wr.heap.size ≤ W.heap.size := hW1.size
            clear hd hv
            exact fk_append (.tmp 48) (.tmp 60) rfl t48 t60 e0 e12.strc (by omega) (by simp <;> omega) (fun c hc => .inl ⟨0, by decide, by decide, hc⟩)
          exact trivial
        intro u W' hb hk2 hf
        have e13 : Own w3.heap.size W' (u 13) (acc ++ [chainS s (15 - d)]) := hf 13 (by decide) (by decide)
        have hb1 := below_undrew hb
        have HKN : Hid (REnd w3 m sig (k + 1) (u 13) W') := Lib.hid ⟨by rw [HES.out]; exact e13, ⟨hb1.os.trans HK2.out.os, hb1.tape.trans HK2.out.tape, hb1.output.trans HK2.out.output, Nat.le_trans HK2.out.size hb1.size, fun b hb2 => (hk2 b (by omega) (fun j _ h => by
          obtain ⟨_, h⟩ := h
          have := (own_block HK1.out b h).1; omega)).trans (HK2.out.block b hb2)⟩, HIK.out⟩
        clear hf hb hk2 hb1 e13 HK1 HK2 HCD HES HCS HIK HI
        simp only [List.take, List.drop, lexPut, Nat.zero_add, Nat.reduceAdd, Act.put, List.setIfInBounds_toArray, List.set_cons_succ, List.set_cons_zero]
        generalize u 13 = v13 at *
        clear c1
        go_wp2
        go_round
        case rel => exact ⟨k + 1, by go_num, by omega, HKN⟩
        case measure => simp only [RowKit.intOf]; omega
    · obtain rfl : k = 18 := by omega
      have HAS : Hid (sig.all isS = true) := Lib.hid (all_is (fun j hj => HK.out.2.2 j (by have := HLS.out; omega)))
      have HK1 : Hid (Own w3.heap.size wr u8 (sealEnds m sig)) := Lib.hid (by have := HK.out.1; rwa [List.take_of_length_le (by simp [sealEnds])] at this)
      have HSW := Lib.hid (HPT3.out.on HK.out.2.1)
      clear HK HSG3 HD HDL c1
      rw [show ((18 : Nat) : Int) = 18 from rfl]
      obtain ⟨aou, nu, cu, rfl⟩ := own_form HK1.out
      generalize wr = w4 at *
      go_wp2_with fail
      go_loopw [10] (fun v10 W => ∃ k : Nat, v10 = .int .i64 (k : Int) ∧ k ≤ lp ∧ Hid (Below w4.heap.size w4 W ∧ ∀ j, j < k → isS (path.getD j ByteArray.empty) = true)) (fun v10 _ => lp - (RowKit.intOf v10).toNat)
      case atStart => exact ⟨0, rfl, by omega, Lib.hid ⟨Below.refl _ _, fun j hj => absurd hj (Nat.not_lt_zero j)⟩⟩
      case round =>
        obtain ⟨k, rfl, hk2, HL⟩ := hrel
        have HRQ : Hid (wr.heap[w.heap.size]? = some (.cells #[.int .i64 idx, .slice aos 18 cs, .slice aop lp cp] 24 (0, 0))) := Lib.hid ((HL.out.1.block _ hzw).trans HRW.out)
        have HBQ : Hid (Below w.heap.size w wr) := Lib.hid (HBW.out.trans (HL.out.1.mono HBW.out.size))
        have HPQ := Lib.hid (HSW.out.on HL.out.1)
        have hzq : w.heap.size < wr.heap.size := Nat.lt_of_lt_of_le hzw HL.out.1.size
        have c2 : wr.cell? ⟨w.heap.size, 2, none⟩ = some (.slice aop lp cp) := by rw [cell_of_row _ _ 2 _ _ _ HRQ.out]; rfl
        by_cases hlt : k < lp
        · obtain ⟨bs, os, csx, he, hbs, hcs⟩ := strc_lt HPQ.out k (by rw [← HLP.out]; exact hlt)
          simp only [Value.slice.injEq] at he
          obtain ⟨rfl, he2, he3⟩ := he
          have hsz := getD_size HSP.out k
          have hkl : (k : Int) < (lp : Int) := by omega
          clear he2 he3
          cases his : isS (path.getD k ByteArray.empty) with
          | false =>
            have HV : Hid (verT pub m idx sig path = false) := Lib.hid (ver_false2 (all_not (by rw [← HLP.out]; exact hlt) his))
            have HI := Lib.hid his
            clear his
            generalize path.getD k ByteArray.empty = s at *
            go_wp2_with fail
            refine (ris_calls s (by omega) wr).mono ?_
            rintro e wr ⟨rfl, rfl⟩
            rw [HI.out]
            go_wp2
            go_ret
            exact ⟨congrArg (fun b => Ending.returned (Value.bool b)) HV.out.symm, HBQ.out⟩
          | true =>
            have HI := Lib.hid his
            have HIK : Hid (∀ j, j < k + 1 → isS (path.getD j ByteArray.empty) = true) := Lib.hid (fun j hj => by
              rcases Nat.lt_or_ge j k with h | h
              · exact HL.out.2 j h
              · have : j = k := by omega
                rw [this]; exact HI.out)
            have HL1 := Lib.hid HL.out.1
            clear his HL
            generalize path.getD k ByteArray.empty = s at *
            go_wp2_with fail
            refine (ris_calls s (by omega) wr).mono ?_
            rintro e wr ⟨rfl, rfl⟩
            rw [HI.out]
            clear c2
            go_wp2
            go_round
            case rel => exact ⟨k + 1, by go_num, by omega, Lib.hid ⟨HL1.out, HIK.out⟩⟩
            case measure => simp only [RowKit.intOf]; omega
        · obtain rfl : lp = k := by omega
          have HAP : Hid (path.all isS = true) := Lib.hid (all_is (fun j hj => HL.out.2 j (by have := HLP.out; omega)))
          have HVE : Hid (verT pub m idx sig path = checkT pub (p : Int) idx (dg (sealEnds m sig)) path) := Lib.hid (by
            rw [ver_yes HLS.out (by rw [← HLP.out]; exact hB) HAS.out HAP.out (by omega) (by rw [← HLP.out, ← HPP.out]; omega), ← HLP.out, ← HPP.out])
          have HKE : Hid (Own w3.heap.size wr (.slice aou nu cu) (sealEnds m sig)) := Lib.hid (HK1.out.on HL.out.1)
          have HE16 : Hid (∀ s ∈ sealEnds m sig, s.size = 16) := Lib.hid (ends16 m HAS.out HLS.out)
          have HJ : Hid (needN (sealEnds m sig) ≤ 70368744177664 ∧ (joinB (sealEnds m sig)).length ≤ 70368744177664) := Lib.hid (by
            have hz : ∀ s ∈ sealEnds m sig, s.size ≤ 16 := fun s h => by rw [HE16.out s h]; omega
            have hl : (sealEnds m sig).length = 18 := by simp [sealEnds]
            have h1 := need_le 16 (sealEnds m sig) hz
            have h2 := join_le 16 (sealEnds m sig) hz (by decide)
            rw [hl] at h1 h2
            omega)
          have hdgs := dg_size (sealEnds m sig)
          clear HL HK1 HAS HAP
          obtain ⟨cb, hcb⟩ : ∃ cb, checkT pub (p : Int) idx (dg (sealEnds m sig)) path = cb := ⟨_, rfl⟩
          have HCB := Lib.hid hcb
          clear hcb
          go_wp2_with fail
          clear c2
          refine wp_region_res 13 (wr.heap.size) (fun ii u => [valF (.string pub), valF (.pointer (some ⟨w.heap.size, 2, none⟩)), valF (.slice aop lp cp), valF (.int .i64 (lp : Int)), valF (.int .i64 (p : Int)), valF (.pointer (some ⟨w.heap.size, 0, none⟩)), valF (.int .i64 idx), valF (.slice aou nu cu), valF (.string (dg (sealEnds m sig))), valF (.pointer (some ⟨w.heap.size, 2, none⟩)), valF (.slice aop lp cp), valF (.bool cb), valF (.bool cb)].getD ii anyF) (fun jj ii => false) (fun jj bb => False) (by kernel_rfl) (by kernel_rfl) (by kernel_rfl) (by kernel_rfl) (by kernel_rfl) (Nat.le_refl _) ?_ ?_ ?_ ?_ ?_
          · intro ii u hii
            refine AllKStable.at ?_ ii
            exact ⟨.inl (valF_stable _ _), .inl (valF_stable _ _), .inl (valF_stable _ _), .inl (valF_stable _ _), .inl (valF_stable _ _), .inl (valF_stable _ _), .inl (valF_stable _ _), .inl (valF_stable _ _), .inl (valF_stable _ _), .inl (valF_stable _ _), .inl (valF_stable _ _), .inl (valF_stable _ _), .inl (valF_stable _ _), trivial⟩
          · exact fun _ _ _ _ _ => rfl
          · exact ⟨fun _ _ _ h => h.elim, fun _ _ _ _ _ h => h.elim⟩
          · refine And.intro (fun u W A hW hBW hd hv hr => ?_) ?_
            · have t0 : A.eval (.tmp 0) = .string pub := (hv 0 (by kernel_rfl)).trans (by kernel_rfl)
              clear hd hv
              have s0 := evalT t0
              clear t0
              refine fk_run ?_
              go_simp
            refine And.intro (fun u W A hW hBW hd hv hr => ?_) ?_
            · have t5 : A.eval (.tmp 5) = .pointer (some ⟨w.heap.size, 0, none⟩) := (hv 5 (by kernel_rfl)).trans (by kernel_rfl)
              clear hd hv
              have s5 := evalT t5
              clear t5
              refine fk_run ?_
              go_simp
            refine And.intro (fun u W A hW hBW hd hv hr => ?_) ?_
            · have e1 : u 1 = .pointer (some ⟨w.heap.size, 2, none⟩) := hd 1 (by decide) (by kernel_rfl)
              have t77 : A.eval (.tmp 77) = .pointer (some ⟨w.heap.size, 2, none⟩) := (hv 77 (by kernel_rfl)).trans ((by kernel_rfl : slotV _ _ _ u 77 = u 1).trans e1)
              have hW1 := below_undrew hW
              have hcl : W.cell? ⟨w.heap.size, 2, none⟩ = some (.slice aop lp cp) := by rw [hW1.cell (p := ⟨w.heap.size, 2, none⟩) hzq, cell_of_row _ _ 2 _ _ _ HRQ.out]; rfl
              clear hd hv
              have s77 := evalT t77
              clear t77
              refine fk_run ?_
              go_simp
            refine And.intro (fun u W A hW hBW hd hv hr => ?_) ?_
            · have e2 : u 2 = .slice aop lp cp := hd 2 (by decide) (by kernel_rfl)
              have t78 : A.eval (.tmp 78) = .slice aop lp cp := (hv 78 (by kernel_rfl)).trans ((by kernel_rfl : slotV _ _ _ u 78 = u 2).trans e2)
              clear hd hv
              have s78 := evalT t78
              clear t78
              refine fk_run ?_
              go_simp
            refine And.intro (fun u W A hW hBW hd hv hr => ?_) ?_
            · have e3 : u 3 = .int .i64 (lp : Int) := hd 3 (by decide) (by kernel_rfl)
              have t79 : A.eval (.tmp 79) = .int .i64 (lp : Int) := (hv 79 (by kernel_rfl)).trans ((by kernel_rfl : slotV _ _ _ u 79 = u 3).trans e3)
              have hW1 := below_undrew hW
              clear hd hv
              have s79 := evalT t79
              clear t79
              refine fk_enter (f := 29) (args := #[.int .i64 (lp : Int)]) (by go_simp) (fk_val ?_)
              exact (HPO.out W).mono fun e w' ⟨he, hw⟩ => ⟨he, by rw [hw]; exact Below.refl _ _⟩
            refine And.intro (fun u W A hW hBW hd hv hr => ?_) ?_
            · have t5 : A.eval (.tmp 5) = .pointer (some ⟨w.heap.size, 0, none⟩) := (hv 5 (by kernel_rfl)).trans (by kernel_rfl)
              clear hd hv
              have s5 := evalT t5
              clear t5
              refine fk_run ?_
              go_simp
            refine And.intro (fun u W A hW hBW hd hv hr => ?_) ?_
            · have e5 : u 5 = .pointer (some ⟨w.heap.size, 0, none⟩) := hd 5 (by decide) (by kernel_rfl)
              have t81 : A.eval (.tmp 81) = .pointer (some ⟨w.heap.size, 0, none⟩) := (hv 81 (by kernel_rfl)).trans ((by kernel_rfl : slotV _ _ _ u 81 = u 5).trans e5)
              have hW1 := below_undrew hW
              have hcl : W.cell? ⟨w.heap.size, 0, none⟩ = some (.int .i64 idx) := by rw [hW1.cell (p := ⟨w.heap.size, 0, none⟩) hzq, cell_of_row _ _ 0 _ _ _ HRQ.out]; rfl
              clear hd hv
              have s81 := evalT t81
              clear t81
              refine fk_run ?_
              go_simp
            refine And.intro (fun u W A hW hBW hd hv hr => ?_) ?_
            · have t8 : A.eval (.tmp 8) = .slice aou nu cu := (hv 8 (by kernel_rfl)).trans (by kernel_rfl)
              clear hd hv
              have s8 := evalT t8
              clear t8
              refine fk_run ?_
              go_simp
            refine And.intro (fun u W A hW hBW hd hv hr => ?_) ?_
            · have e7 : u 7 = .slice aou nu cu := hd 7 (by decide) (by kernel_rfl)
              have t83 : A.eval (.tmp 83) = .slice aou nu cu := (hv 83 (by kernel_rfl)).trans ((by kernel_rfl : slotV _ _ _ u 83 = u 7).trans e7)
              have hW1 := below_undrew hW
              clear hd hv
              have s83 := evalT t83
              clear t83
              refine fk_enter (f := 43) (args := #[.slice aou nu cu]) (by go_simp) (fk_val ?_)
              exact rlist_calls _ (sealEnds m sig) W (HKE.out.on hW1).strc.strs HJ.out.1 HJ.out.2
            refine And.intro (fun u W A hW hBW hd hv hr => ?_) ?_
            · have t5 : A.eval (.tmp 5) = .pointer (some ⟨w.heap.size, 0, none⟩) := (hv 5 (by kernel_rfl)).trans (by kernel_rfl)
              clear hd hv
              have s5 := evalT t5
              clear t5
              refine fk_run ?_
              go_simp
            refine And.intro (fun u W A hW hBW hd hv hr => ?_) ?_
            · have e9 : u 9 = .pointer (some ⟨w.heap.size, 2, none⟩) := hd 9 (by decide) (by kernel_rfl)
              have t85 : A.eval (.tmp 85) = .pointer (some ⟨w.heap.size, 2, none⟩) := (hv 85 (by kernel_rfl)).trans ((by kernel_rfl : slotV _ _ _ u 85 = u 9).trans e9)
              have hW1 := below_undrew hW
              have hcl : W.cell? ⟨w.heap.size, 2, none⟩ = some (.slice aop lp cp) := by rw [hW1.cell (p := ⟨w.heap.size, 2, none⟩) hzq, cell_of_row _ _ 2 _ _ _ HRQ.out]; rfl
              clear hd hv
              have s85 := evalT t85
              clear t85
              refine fk_run ?_
              go_simp
            refine And.intro (fun u W A hW hBW hd hv hr => ?_) ?_
            · have e0 : u 0 = .string pub := hd 0 (by decide) (by kernel_rfl)
              have e4 : u 4 = .int .i64 (p : Int) := hd 4 (by decide) (by kernel_rfl)
              have e6 : u 6 = .int .i64 idx := hd 6 (by decide) (by kernel_rfl)
              have e8 : u 8 = .string (dg (sealEnds m sig)) := hd 8 (by decide) (by kernel_rfl)
              have e10 : u 10 = .slice aop lp cp := hd 10 (by decide) (by kernel_rfl)
              have t76 : A.eval (.tmp 76) = .string pub := (hv 76 (by kernel_rfl)).trans ((by kernel_rfl : slotV _ _ _ u 76 = u 0).trans e0)
              have t80 : A.eval (.tmp 80) = .int .i64 (p : Int) := (hv 80 (by kernel_rfl)).trans ((by kernel_rfl : slotV _ _ _ u 80 = u 4).trans e4)
              have t82 : A.eval (.tmp 82) = .int .i64 idx := (hv 82 (by kernel_rfl)).trans ((by kernel_rfl : slotV _ _ _ u 82 = u 6).trans e6)
              have t84 : A.eval (.tmp 84) = .string (dg (sealEnds m sig)) := (hv 84 (by kernel_rfl)).trans ((by kernel_rfl : slotV _ _ _ u 84 = u 8).trans e8)
              have t86 : A.eval (.tmp 86) = .slice aop lp cp := (hv 86 (by kernel_rfl)).trans ((by kernel_rfl : slotV _ _ _ u 86 = u 10).trans e10)
              have hW1 := below_undrew hW
              clear hd hv
              have s76 := evalT t76
              have s80 := evalT t80
              have s82 := evalT t82
              have s84 := evalT t84
              have s86 := evalT t86
              clear t76 t80 t82 t84 t86
              refine fk_enter (f := 42) (args := #[.string pub, .int .i64 (p : Int), .int .i64 idx, .string (dg (sealEnds m sig)), .slice aop lp cp]) (by go_simp) (fk_val ?_)
              have hck := rcheck_calls pub (p : Int) idx (dg (sealEnds m sig)) _ path W (HPQ.out.on hW1) (by have := HLP.out; omega) HSP.out (by omega)
              rw [HCB.out] at hck
              exact hck
            refine And.intro (fun u W A hW hBW hd hv hr => ?_) ?_
            · have e11 : u 11 = .bool cb := hd 11 (by decide) (by kernel_rfl)
              have t87 : A.eval (.tmp 87) = .bool cb := (hv 87 (by kernel_rfl)).trans ((by kernel_rfl : slotV _ _ _ u 87 = u 11).trans e11)
              clear hd hv
              have s87 := evalT t87
              clear t87
              refine fk_run ?_
              go_simp
            exact trivial
          intro u W' hb hk2' hf
          have e12 : u 12 = .bool cb := hf 12 (by decide) (by decide)
          have hb1 := below_undrew hb
          have HBF := Lib.hid (HBQ.out.trans (hb1.mono HBQ.out.size))
          clear hf hb hk2' hb1
          simp only [List.take, List.drop, wpList, lexPut, Nat.zero_add, Nat.reduceAdd, e12, Act.put, List.setIfInBounds_toArray, List.set_cons_succ, List.set_cons_zero]
          clear e12
          go_wp2
          go_ret
          exact ⟨congrArg (fun b => Ending.returned (Value.bool b)) (HVE.out.trans HCB.out).symm, HBF.out⟩
theorem rverify_calls (pub m : ByteArray) (idx : Int) (vs vp : Value) (sig path : List ByteArray) (w : World) (hpub : pub.size ≤ 1099511627776) (hm : m.size ≤ 1099511627776) (hs : IsStrC w vs sig) (hp : IsStrC w vp path) (hss : ∀ s ∈ sig, s.size ≤ 1099511627776) (hps : ∀ s ∈ path, s.size ≤ 1099511627776) :
    Calls Tryz.prog 16 #[.string pub, .string m, .agg #[.int .i64 idx, vs, vp]] w fun e w' => e = .returned (.bool (verT pub m idx sig path)) ∧ Below w.heap.size w w' := by
  by_cases hA : sig.length = 18
  · by_cases hB : path.length ≤ 8
    · by_cases hE : idx < 0
      · rw [ver_no (fun h => by omega)]; exact rver_no3 pub m idx vs vp sig path w hpub hm hs hp hss hps hA hB hE
      · by_cases hF : ((2 ^ path.length : Nat) : Int) ≤ idx
        · rw [ver_no (fun h => by omega)]; exact rver_no4 pub m idx vs vp sig path w hpub hm hs hp hss hps hA hB hE hF
        · exact rver_on pub m idx vs vp sig path w hpub hm hs hp hss hps hA hB hE hF
    · rw [ver_no (fun h => hB h.2.1)]; exact rver_no2 pub m idx vs vp sig path w hpub hm hs hp hss hps hA hB
  · rw [ver_no (fun h => hA h.1)]; exact rver_no1 pub m idx vs vp sig path w hpub hm hs hp hss hps hA
end Go.Proofs.YtpogffdbencfnaaGreatDoor

namespace Go.Proofs.YtpogffdbencfnaaGreatDoor
open Go Go.RowKit Go.ChangeShapes Go.WideShapes Go.Deep Go.Joins

set_option maxRecDepth 100000 in
theorem strc_of_trod {H : Type} {enc : TypeId × Value → H} {w : World} {n : Nat} {v : Value} {y : DataW H × List MemPlace} (hf : DataW.trod enc Tryz.prog w 0 (fun _ => true) true n 22 [v] = some y) :
    ∃ l, IsStrC w v l ∧ ∀ s ∈ l, s.size ≤ 9223372036854775807 := by
  rcases open_strs Tryz.underlying22 Tryz.underlying9 (by kernel_rfl) hf with ⟨hcs, _⟩ | ⟨a, len, cap, m, Sx, hcs, hb, hl, hm, hmm, hx, hi⟩
  · simp at hcs
    subst hcs
    exact ⟨[], ⟨none, 0, rfl, Nat.le_refl _, Nat.zero_le _, fun i hi => by simp at hi⟩, by simp⟩
  · simp at hcs
    subst hcs
    have hmc : m = cap := by simpa using hmm
    have hsp : ∀ i, i < len → a.spot = none := by
      intro i hlt
      have := World.cell?_spot (hi 0 (by omega)).1
      simpa [Addr.add] using this
    refine ⟨(List.range len).map Sx, ⟨some a, cap, by simp, by simp; omega, hm, fun i hlt => ?_⟩, fun s hs => ?_⟩
    · simp at hlt
      have hg : ((List.range len).map Sx).getD i ByteArray.empty = Sx i := by simp [List.getD, hlt]
      rw [hg]
      have hc := (hi i (by omega)).1
      obtain ⟨b, o, sp⟩ := a
      obtain rfl : sp = none := hsp i hlt
      rw [add_plain] at hc
      exact ⟨b, o, rfl, World.block_lt_of_cell? w _ hc, hc⟩
    · obtain ⟨i, hi2, rfl⟩ := List.mem_map.1 hs
      exact (hi i (by have := List.mem_range.1 hi2; omega)).2
/-- what a seal that comes in is -/
structure IsSeal (w : World) (v : Value) (idx : Int) (sig path : List ByteArray) : Prop where
  ex : ∃ vs vp, v = .agg #[.int .i64 idx, vs, vp] ∧ IsStrC w vs sig ∧ IsStrC w vp path
  lo : -9223372036854775808 ≤ idx
  hi : idx ≤ 9223372036854775807
  sz1 : ∀ s ∈ sig, s.size ≤ 9223372036854775807
  sz2 : ∀ s ∈ path, s.size ≤ 9223372036854775807
def SealIn (w : World) (v : Value) (x : Int × List ByteArray × List ByteArray) : Prop := IsSeal w v x.1 x.2.1 x.2.2
set_option maxRecDepth 100000 in
theorem open_seal {H : Type} {enc : TypeId × Value → H} {w : World} {b0 : Nat} {v : Value} {d : DataW H} {p : List MemPlace} (hv : Value.okWide Tryz.prog w .any b0 24 v) (h : DataW.Trod enc Tryz.prog w 0 (fun _ => true) true 24 v d p) :
    ∃ x, SealIn w v x := by
  obtain ⟨v0, v1, v2, y0, y1, y2, n, rfl, _, _, h0, h1, h2⟩ := open_agg3 Tryz.underlying24 (by kernel_rfl) (by kernel_rfl) hv h
  obtain ⟨idx, e0, _, wf⟩ := DataW.trod_int Tryz.underlying3 h0
  simp at e0
  subst e0
  obtain ⟨sig, hs, hz1⟩ := strc_of_trod h1
  obtain ⟨path, hp, hz2⟩ := strc_of_trod h2
  have hw : -9223372036854775808 ≤ idx ∧ idx ≤ 9223372036854775807 := by simpa [Lit.wf, IntKind.min, IntKind.max, IntKind.signed, IntKind.bits] using wf
  exact ⟨(idx, sig, path), ⟨v1, v2, rfl, hs, hp⟩, hw.1, hw.2, hz1, hz2⟩
end Go.Proofs.YtpogffdbencfnaaGreatDoor

namespace Go.Proofs.YtpogffdbencfnaaGreatDoor
open Go Go.RowKit

theorem same3_rfl (i : Int) (a c : List ByteArray) : same3 i i a a c c = true := by simp [same3, sameB]
theorem short3_callsM (a b c : ByteArray) (w : World) (ha : a.size ≤ 9223372036854775807) (hb : b.size ≤ 9223372036854775807) (hc : c.size ≤ 9223372036854775807) :
    Calls Tryz.prog 8 #[.slice (some ⟨w.heap.size, 0, none⟩) 3 3] (w.alloc (.cells #[.string a, .string b, .string c] 9)) fun e w' => e = .returned (.bool (shortB [a, b, c])) ∧ Below w.heap.size w w' := by
  refine (short_calls _ [a, b, c] _ (strc_lit w [a, b, c] (show 3 ≤ maxLen by decide)) (by simp; exact ⟨ha, hb, hc⟩)).mono ?_
  rintro e w' ⟨rfl, rfl⟩
  exact ⟨rfl, (Below.refl _ _).alloc (Nat.le_refl _) _⟩
theorem short_szM {l : List ByteArray} (h : shortB l = true) : ∀ s ∈ l, s.size ≤ 300 := by
  unfold shortB at h
  simpa using h
set_option maxRecDepth 100000 in
set_option maxHeartbeats 16000000 in
theorem match03_law (secret m pub : ByteArray) (h i : Int) (idx : Int) (vs vp : Value) (sig path : List ByteArray) (w : World) (hsec : secret.size ≤ 9223372036854775807) (hm : m.size ≤ 9223372036854775807) (hpu : pub.size ≤ 9223372036854775807) (hs : IsStrC w vs sig) (hp : IsStrC w vp path)
    (hss : ∀ s ∈ sig, s.size ≤ 9223372036854775807) (hps : ∀ s ∈ path, s.size ≤ 9223372036854775807) (hT : Tabs w) :
    Calls Tryz.prog 3 #[.string secret, .int .i64 h, .int .i64 i, .string m, .string pub, .agg #[.int .i64 idx, vs, vp]] w (HeadPost w) := by
  have HT := Lib.hid hT
  have HSS := Lib.hid hss
  have HPS := Lib.hid hps
  obtain ⟨aos, cs, rfl⟩ := strc_form hs
  obtain ⟨aop, cp, rfl⟩ := strc_form hp
  obtain ⟨ls, hls⟩ : ∃ ls, ls = sig.length := ⟨_, rfl⟩
  obtain ⟨lp, hlp⟩ : ∃ lp, lp = path.length := ⟨_, rfl⟩
  rw [← hls] at hs ⊢
  rw [← hlp] at hp ⊢
  have HVS := Lib.hid hs
  have HVP := Lib.hid hp
  clear hT hss hps hs hp hls hlp
  cases hsh : shortB [secret, m, pub] with
  | false =>
    have HSH := Lib.hid hsh
    clear hsh
    have H0 : Hid (Below w.heap.size w w) := Lib.hid (Below.refl w.heap.size w)
    go_enter Tryz.func3, Tryz.ntmps3
    have WS0 := Lib.hid (HVS.out)
    have WP0 := Lib.hid (HVP.out)
    go_wp2_with fail
    have hq : Below w.heap.size w (w.alloc (.cells #[.int .i64 idx, .slice aos ls cs, .slice aop lp cp] 24)) := (Below.refl _ _).alloc (Nat.le_refl _) _
    have H1 := Lib.hid (H0.out.trans (hq.mono H0.out.size))
    have WS1 := Lib.hid (WS0.out.on hq)
    have WP1 := Lib.hid (WP0.out.on hq)
    have R111 := Lib.hid (RowIs.new w #[.int .i64 idx, .slice aos ls cs, .slice aop lp cp] 24)
    obtain ⟨b11, hb11⟩ : ∃ b, b = w.heap.size := ⟨_, rfl⟩
    rw [← hb11] at R111 ⊢
    have Z11 : Hid ((w.alloc (.cells #[.int .i64 idx, .slice aos ls cs, .slice aop lp cp] 24)).heap.size = b11 + 1) := Lib.hid (by rw [World.size_alloc, hb11])
    generalize hgw : w.alloc (.cells #[.int .i64 idx, .slice aos ls cs, .slice aop lp cp] 24) = w1 at *
    clear hq hgw hb11 H0 WS0 WP0
    refine (head_calls w1 (HT.out.on H1.out)).mono ?_
    rintro e w2 ⟨rfl, hB⟩
    have H2 := Lib.hid (H1.out.trans (hB.mono H1.out.size))
    have WS2 := Lib.hid (WS1.out.on hB)
    have WP2 := Lib.hid (WP1.out.on hB)
    have R112 := Lib.hid (R111.out.on hB)
    clear hB H1 WS1 WP1 R111
    go_wp2_with fail
    refine (short3_callsM secret m pub w2 hsec hm hpu).mono ?_
    rintro e w3 ⟨rfl, hB⟩
    have H3 := Lib.hid (H2.out.trans (hB.mono H2.out.size))
    have WS3 := Lib.hid (WS2.out.on hB)
    have WP3 := Lib.hid (WP2.out.on hB)
    have R113 := Lib.hid (R112.out.on hB)
    clear hB H2 WS2 WP2 R112
    rw [HSH.out]
    go_wp2
    go_ret
    exact ⟨rfl, H3.out⟩
  | true =>
    have hsz := short_szM hsh
    have hs3 : secret.size ≤ 300 := hsz secret (by simp)
    have hm3 : m.size ≤ 300 := hsz m (by simp)
    have hp3 : pub.size ≤ 300 := hsz pub (by simp)
    have HSH := Lib.hid hsh
    clear hsh hsz
    cases hfw : fewS sig path with
    | false =>
      have HFW := Lib.hid hfw
      clear hfw
      have H0 : Hid (Below w.heap.size w w) := Lib.hid (Below.refl w.heap.size w)
      go_enter Tryz.func3, Tryz.ntmps3
      have WS0 := Lib.hid (HVS.out)
      have WP0 := Lib.hid (HVP.out)
      go_wp2_with fail
      have hq : Below w.heap.size w (w.alloc (.cells #[.int .i64 idx, .slice aos ls cs, .slice aop lp cp] 24)) := (Below.refl _ _).alloc (Nat.le_refl _) _
      have H1 := Lib.hid (H0.out.trans (hq.mono H0.out.size))
      have WS1 := Lib.hid (WS0.out.on hq)
      have WP1 := Lib.hid (WP0.out.on hq)
      have R111 := Lib.hid (RowIs.new w #[.int .i64 idx, .slice aos ls cs, .slice aop lp cp] 24)
      obtain ⟨b11, hb11⟩ : ∃ b, b = w.heap.size := ⟨_, rfl⟩
      rw [← hb11] at R111 ⊢
      have Z11 : Hid ((w.alloc (.cells #[.int .i64 idx, .slice aos ls cs, .slice aop lp cp] 24)).heap.size = b11 + 1) := Lib.hid (by rw [World.size_alloc, hb11])
      generalize hgw : w.alloc (.cells #[.int .i64 idx, .slice aos ls cs, .slice aop lp cp] 24) = w1 at *
      clear hq hgw hb11 H0 WS0 WP0
      refine (head_calls w1 (HT.out.on H1.out)).mono ?_
      rintro e w2 ⟨rfl, hB⟩
      have H2 := Lib.hid (H1.out.trans (hB.mono H1.out.size))
      have WS2 := Lib.hid (WS1.out.on hB)
      have WP2 := Lib.hid (WP1.out.on hB)
      have R112 := Lib.hid (R111.out.on hB)
      clear hB H1 WS1 WP1 R111
      go_wp2_with fail
      refine (short3_callsM secret m pub w2 hsec hm hpu).mono ?_
      rintro e w3 ⟨rfl, hB⟩
      have H3 := Lib.hid (H2.out.trans (hB.mono H2.out.size))
      have WS3 := Lib.hid (WS2.out.on hB)
      have WP3 := Lib.hid (WP2.out.on hB)
      have R113 := Lib.hid (R112.out.on hB)
      clear hB H2 WS2 WP2 R112
      rw [HSH.out]
      have c110 : w3.cell? ⟨b11, 0, none⟩ = some (.int .i64 idx) := (R113.out.cell 0).trans rfl
      have c111 : w3.cell? ⟨b11, 1, none⟩ = some (.slice aos ls cs) := (R113.out.cell 1).trans rfl
      have c112 : w3.cell? ⟨b11, 2, none⟩ = some (.slice aop lp cp) := (R113.out.cell 2).trans rfl
      go_wp2_with fail
      refine (few03_calls idx _ _ sig path w3 WS3.out WP3.out HSS.out HPS.out).mono ?_
      rintro e w4 ⟨rfl, hB⟩
      clear c110 c111 c112
      have H4 := Lib.hid (H3.out.trans (hB.mono H3.out.size))
      have WS4 := Lib.hid (WS3.out.on hB)
      have WP4 := Lib.hid (WP3.out.on hB)
      have R114 := Lib.hid (R113.out.on hB)
      clear hB H3 WS3 WP3 R113
      rw [HFW.out]
      go_wp2
      go_ret
      exact ⟨rfl, H4.out⟩
    | true =>
      obtain ⟨hf1, hf2, hf3, hf4⟩ := few_facts hfw
      have HFW := Lib.hid hfw
      have HSZ : Hid (∀ s ∈ sig, s.size ≤ 1099511627776) := Lib.hid (fun s hs => Nat.le_trans (hf3 s hs) (by decide))
      have HPZ : Hid (∀ s ∈ path, s.size ≤ 1099511627776) := Lib.hid (fun s hs => Nat.le_trans (hf4 s hs) (by decide))
      clear hfw hf1 hf2 hf3 hf4
      by_cases hbig : 3 < h ∧ h ≤ 8
      · obtain ⟨hb1, hb2⟩ := hbig
        have hd1 : decide (3 < h) = true := decide_eq_true hb1
        have hd2 : decide (h ≤ 8) = true := decide_eq_true hb2
        have H0 : Hid (Below w.heap.size w w) := Lib.hid (Below.refl w.heap.size w)
        go_enter Tryz.func3, Tryz.ntmps3
        have WS0 := Lib.hid (HVS.out)
        have WP0 := Lib.hid (HVP.out)
        go_wp2_with fail
        have hq : Below w.heap.size w (w.alloc (.cells #[.int .i64 idx, .slice aos ls cs, .slice aop lp cp] 24)) := (Below.refl _ _).alloc (Nat.le_refl _) _
        have H1 := Lib.hid (H0.out.trans (hq.mono H0.out.size))
        have WS1 := Lib.hid (WS0.out.on hq)
        have WP1 := Lib.hid (WP0.out.on hq)
        have R111 := Lib.hid (RowIs.new w #[.int .i64 idx, .slice aos ls cs, .slice aop lp cp] 24)
        obtain ⟨b11, hb11⟩ : ∃ b, b = w.heap.size := ⟨_, rfl⟩
        rw [← hb11] at R111 ⊢
        have Z11 : Hid ((w.alloc (.cells #[.int .i64 idx, .slice aos ls cs, .slice aop lp cp] 24)).heap.size = b11 + 1) := Lib.hid (by rw [World.size_alloc, hb11])
        generalize hgw : w.alloc (.cells #[.int .i64 idx, .slice aos ls cs, .slice aop lp cp] 24) = w1 at *
        clear hq hgw hb11 H0 WS0 WP0
        refine (head_calls w1 (HT.out.on H1.out)).mono ?_
        rintro e w2 ⟨rfl, hB⟩
        have H2 := Lib.hid (H1.out.trans (hB.mono H1.out.size))
        have WS2 := Lib.hid (WS1.out.on hB)
        have WP2 := Lib.hid (WP1.out.on hB)
        have R112 := Lib.hid (R111.out.on hB)
        clear hB H1 WS1 WP1 R111
        go_wp2_with fail
        refine (short3_callsM secret m pub w2 hsec hm hpu).mono ?_
        rintro e w3 ⟨rfl, hB⟩
        have H3 := Lib.hid (H2.out.trans (hB.mono H2.out.size))
        have WS3 := Lib.hid (WS2.out.on hB)
        have WP3 := Lib.hid (WP2.out.on hB)
        have R113 := Lib.hid (R112.out.on hB)
        clear hB H2 WS2 WP2 R112
        rw [HSH.out]
        have c110 : w3.cell? ⟨b11, 0, none⟩ = some (.int .i64 idx) := (R113.out.cell 0).trans rfl
        have c111 : w3.cell? ⟨b11, 1, none⟩ = some (.slice aos ls cs) := (R113.out.cell 1).trans rfl
        have c112 : w3.cell? ⟨b11, 2, none⟩ = some (.slice aop lp cp) := (R113.out.cell 2).trans rfl
        go_wp2_with fail
        refine (few03_calls idx _ _ sig path w3 WS3.out WP3.out HSS.out HPS.out).mono ?_
        rintro e w4 ⟨rfl, hB⟩
        clear c110 c111 c112
        have H4 := Lib.hid (H3.out.trans (hB.mono H3.out.size))
        have WS4 := Lib.hid (WS3.out.on hB)
        have WP4 := Lib.hid (WP3.out.on hB)
        have R114 := Lib.hid (R113.out.on hB)
        clear hB H3 WS3 WP3 R113
        rw [HFW.out]
        go_wp2
        go_ret
        exact ⟨rfl, H4.out⟩
      · have hdb : (decide (3 < h) && decide (h ≤ 8)) = false := by
          rw [Bool.and_eq_false_iff, decide_eq_false_iff_not, decide_eq_false_iff_not]; omega
        by_cases hok : 0 ≤ h ∧ h ≤ 8
        · obtain ⟨n, rfl⟩ := Int.eq_ofNat_of_zero_le hok.1
          have hn3 : n ≤ 3 := by omega
          have hd1 : decide ((3 : Int) < (n : Int)) = false := decide_eq_false (by omega)
          have HRS : Hid ((pubT secret n).size = 16) := Lib.hid (root_size _)
          have HKZ : Hid ((pubT secret n).size ≤ 1099511627776) := Lib.hid (by rw [HRS.out]; decide)
          clear hbig hok hdb
          by_cases hin : 0 ≤ i ∧ i < ((2 ^ n : Nat) : Int)
          · obtain ⟨q, rfl⟩ := Int.eq_ofNat_of_zero_le hin.1
            have HI : Hid (q < 2 ^ n) := Lib.hid (by omega)
            clear hin
            have HSL := Lib.hid (sigT_len secret q m)
            have HPL : Hid ((pathT (keysT secret n) q).length = n) := Lib.hid (by rw [path_length, keysT_len, lenT_pow n q HI.out])
            have H0 : Hid (Below w.heap.size w w) := Lib.hid (Below.refl w.heap.size w)
            go_enter Tryz.func3, Tryz.ntmps3
            have WS0 := Lib.hid (HVS.out)
            have WP0 := Lib.hid (HVP.out)
            go_wp2_with fail
            have hq : Below w.heap.size w (w.alloc (.cells #[.int .i64 idx, .slice aos ls cs, .slice aop lp cp] 24)) := (Below.refl _ _).alloc (Nat.le_refl _) _
            have H1 := Lib.hid (H0.out.trans (hq.mono H0.out.size))
            have WS1 := Lib.hid (WS0.out.on hq)
            have WP1 := Lib.hid (WP0.out.on hq)
            have R111 := Lib.hid (RowIs.new w #[.int .i64 idx, .slice aos ls cs, .slice aop lp cp] 24)
            obtain ⟨b11, hb11⟩ : ∃ b, b = w.heap.size := ⟨_, rfl⟩
            rw [← hb11] at R111 ⊢
            have Z11 : Hid ((w.alloc (.cells #[.int .i64 idx, .slice aos ls cs, .slice aop lp cp] 24)).heap.size = b11 + 1) := Lib.hid (by rw [World.size_alloc, hb11])
            generalize hgw : w.alloc (.cells #[.int .i64 idx, .slice aos ls cs, .slice aop lp cp] 24) = w1 at *
            clear hq hgw hb11 H0 WS0 WP0
            refine (head_calls w1 (HT.out.on H1.out)).mono ?_
            rintro e w2 ⟨rfl, hB⟩
            have H2 := Lib.hid (H1.out.trans (hB.mono H1.out.size))
            have WS2 := Lib.hid (WS1.out.on hB)
            have WP2 := Lib.hid (WP1.out.on hB)
            have R112 := Lib.hid (R111.out.on hB)
            clear hB H1 WS1 WP1 R111
            go_wp2_with fail
            refine (short3_callsM secret m pub w2 hsec hm hpu).mono ?_
            rintro e w3 ⟨rfl, hB⟩
            have H3 := Lib.hid (H2.out.trans (hB.mono H2.out.size))
            have WS3 := Lib.hid (WS2.out.on hB)
            have WP3 := Lib.hid (WP2.out.on hB)
            have R113 := Lib.hid (R112.out.on hB)
            clear hB H2 WS2 WP2 R112
            rw [HSH.out]
            have c110 : w3.cell? ⟨b11, 0, none⟩ = some (.int .i64 idx) := (R113.out.cell 0).trans rfl
            have c111 : w3.cell? ⟨b11, 1, none⟩ = some (.slice aos ls cs) := (R113.out.cell 1).trans rfl
            have c112 : w3.cell? ⟨b11, 2, none⟩ = some (.slice aop lp cp) := (R113.out.cell 2).trans rfl
            go_wp2_with fail
            refine (few03_calls idx _ _ sig path w3 WS3.out WP3.out HSS.out HPS.out).mono ?_
            rintro e w4 ⟨rfl, hB⟩
            clear c110 c111 c112
            have H4 := Lib.hid (H3.out.trans (hB.mono H3.out.size))
            have WS4 := Lib.hid (WS3.out.on hB)
            have WP4 := Lib.hid (WP3.out.on hB)
            have R114 := Lib.hid (R113.out.on hB)
            clear hB H3 WS3 WP3 R113
            rw [HFW.out]
            go_wp2_with fail
            refine (public_calls secret n w4 (by omega) (by omega) (HT.out.on H4.out)).mono ?_
            rintro e w5 ⟨rfl, hB⟩
            have H5 := Lib.hid (H4.out.trans (hB.mono H4.out.size))
            have WS5 := Lib.hid (WS4.out.on hB)
            have WP5 := Lib.hid (WP4.out.on hB)
            have R115 := Lib.hid (R114.out.on hB)
            clear hB H4 WS4 WP4 R114
            go_wp2_with fail
            refine (rpublic_calls secret n w5 (by omega) (by omega)).mono ?_
            rintro e w6 ⟨rfl, hB⟩
            have H6 := Lib.hid (H5.out.trans (hB.mono H5.out.size))
            have WS6 := Lib.hid (WS5.out.on hB)
            have WP6 := Lib.hid (WP5.out.on hB)
            have R116 := Lib.hid (R115.out.on hB)
            clear hB H5 WS5 WP5 R115
            go_wp2_with fail
            refine (sign_ok secret m n q w6 (by omega) (by omega) (by omega) (by omega) HI.out (HT.out.on H6.out)).mono ?_
            rintro e w7 ⟨vsa, vpa, rfl, hsa, hpa, hB⟩
            have H7 := Lib.hid (H6.out.trans (hB.mono H6.out.size))
            have WS7 := Lib.hid (WS6.out.on hB)
            have WP7 := Lib.hid (WP6.out.on hB)
            have R117 := Lib.hid (R116.out.on hB)
            clear hB H6 WS6 WP6 R116
            obtain ⟨aosa, csa, rfl⟩ := strc_form hsa
            obtain ⟨aopa, cpa, rfl⟩ := strc_form hpa
            rw [HSL.out] at hsa ⊢
            rw [HPL.out] at hpa ⊢
            have VSa7 := Lib.hid (hsa)
            have VPa7 := Lib.hid (hpa)
            clear hsa hpa
            go_wp2_with fail
            have hq : Below w7.heap.size w7 (w7.alloc (.cells #[.int .i64 (q : Int), .slice aosa 18 csa, .slice aopa n cpa] 24)) := (Below.refl _ _).alloc (Nat.le_refl _) _
            have H8 := Lib.hid (H7.out.trans (hq.mono H7.out.size))
            have WS8 := Lib.hid (WS7.out.on hq)
            have WP8 := Lib.hid (WP7.out.on hq)
            have R118 := Lib.hid (R117.out.on hq)
            have VSa8 := Lib.hid (VSa7.out.on hq)
            have VPa8 := Lib.hid (VPa7.out.on hq)
            have R188 := Lib.hid (RowIs.new w7 #[.int .i64 (q : Int), .slice aosa 18 csa, .slice aopa n cpa] 24)
            obtain ⟨b18, hb18⟩ : ∃ b, b = w7.heap.size := ⟨_, rfl⟩
            rw [← hb18] at R188 ⊢
            have Z18 : Hid ((w7.alloc (.cells #[.int .i64 (q : Int), .slice aosa 18 csa, .slice aopa n cpa] 24)).heap.size = b18 + 1) := Lib.hid (by rw [World.size_alloc, hb18])
            generalize hgw : w7.alloc (.cells #[.int .i64 (q : Int), .slice aosa 18 csa, .slice aopa n cpa] 24) = w8 at *
            clear hq hgw hb18 H7 WS7 WP7 R117 VSa7 VPa7
            refine (rsign_ok secret m n q w8 (by omega) (by omega) (by omega) HI.out).mono ?_
            rintro e w9 ⟨vsb, vpb, rfl, hsb, hpb, hB⟩
            have H9 := Lib.hid (H8.out.trans (hB.mono H8.out.size))
            have WS9 := Lib.hid (WS8.out.on hB)
            have WP9 := Lib.hid (WP8.out.on hB)
            have R119 := Lib.hid (R118.out.on hB)
            have VSa9 := Lib.hid (VSa8.out.on hB)
            have VPa9 := Lib.hid (VPa8.out.on hB)
            have R189 := Lib.hid (R188.out.on hB)
            clear hB H8 WS8 WP8 R118 VSa8 VPa8 R188
            obtain ⟨aosb, csb, rfl⟩ := strc_form hsb
            obtain ⟨aopb, cpb, rfl⟩ := strc_form hpb
            rw [HSL.out] at hsb ⊢
            rw [HPL.out] at hpb ⊢
            have VSb9 := Lib.hid (hsb)
            have VPb9 := Lib.hid (hpb)
            clear hsb hpb
            have c180 : w9.cell? ⟨b18, 0, none⟩ = some (.int .i64 (q : Int)) := (R189.out.cell 0).trans rfl
            have c181 : w9.cell? ⟨b18, 1, none⟩ = some (.slice aosa 18 csa) := (R189.out.cell 1).trans rfl
            have c182 : w9.cell? ⟨b18, 2, none⟩ = some (.slice aopa n cpa) := (R189.out.cell 2).trans rfl
            have c180_1 : ∀ o0 : Obj, (w9.alloc o0).cell? ⟨b18, 0, none⟩ = some (.int .i64 (q : Int)) := fun o0 => ((R189.out.on (below_new (Below.refl w9.heap.size w9) o0)).cell 0).trans rfl
            have c181_1 : ∀ o0 : Obj, (w9.alloc o0).cell? ⟨b18, 1, none⟩ = some (.slice aosa 18 csa) := fun o0 => ((R189.out.on (below_new (Below.refl w9.heap.size w9) o0)).cell 1).trans rfl
            have c182_1 : ∀ o0 : Obj, (w9.alloc o0).cell? ⟨b18, 2, none⟩ = some (.slice aopa n cpa) := fun o0 => ((R189.out.on (below_new (Below.refl w9.heap.size w9) o0)).cell 2).trans rfl
            go_wp2_with fail
            clear c180 c181 c182 c180_1 c181_1 c182_1
            have hq : Below w9.heap.size w9 (w9.alloc (.cells #[.int .i64 (q : Int), .slice aosb 18 csb, .slice aopb n cpb] 24)) := (Below.refl _ _).alloc (Nat.le_refl _) _
            have H10 := Lib.hid (H9.out.trans (hq.mono H9.out.size))
            have WS10 := Lib.hid (WS9.out.on hq)
            have WP10 := Lib.hid (WP9.out.on hq)
            have R1110 := Lib.hid (R119.out.on hq)
            have VSa10 := Lib.hid (VSa9.out.on hq)
            have VPa10 := Lib.hid (VPa9.out.on hq)
            have R1810 := Lib.hid (R189.out.on hq)
            have VSb10 := Lib.hid (VSb9.out.on hq)
            have VPb10 := Lib.hid (VPb9.out.on hq)
            have R2010 := Lib.hid (RowIs.new w9 #[.int .i64 (q : Int), .slice aosb 18 csb, .slice aopb n cpb] 24)
            obtain ⟨b20, hb20⟩ : ∃ b, b = w9.heap.size := ⟨_, rfl⟩
            rw [← hb20] at R2010 ⊢
            have Z20 : Hid ((w9.alloc (.cells #[.int .i64 (q : Int), .slice aosb 18 csb, .slice aopb n cpb] 24)).heap.size = b20 + 1) := Lib.hid (by rw [World.size_alloc, hb20])
            generalize hgw : w9.alloc (.cells #[.int .i64 (q : Int), .slice aosb 18 csb, .slice aopb n cpb] 24) = w10 at *
            clear hq hgw hb20 H9 WS9 WP9 R119 VSa9 VPa9 R189 VSb9 VPb9
            refine (same03_calls (q : Int) (q : Int) _ _ _ _ (sigT secret q m) (sigT secret q m) (pathT (keysT secret n) q) (pathT (keysT secret n) q) w10 VSa10.out VSb10.out VPa10.out VPb10.out).mono ?_
            rintro e w11 ⟨rfl, hB⟩
            have H11 := Lib.hid (H10.out.trans (hB.mono H10.out.size))
            have WS11 := Lib.hid (WS10.out.on hB)
            have WP11 := Lib.hid (WP10.out.on hB)
            have R1111 := Lib.hid (R1110.out.on hB)
            have VSa11 := Lib.hid (VSa10.out.on hB)
            have VPa11 := Lib.hid (VPa10.out.on hB)
            have R1811 := Lib.hid (R1810.out.on hB)
            have VSb11 := Lib.hid (VSb10.out.on hB)
            have VPb11 := Lib.hid (VPb10.out.on hB)
            have R2011 := Lib.hid (R2010.out.on hB)
            clear hB H10 WS10 WP10 R1110 VSa10 VPa10 R1810 VSb10 VPb10 R2010
            rw [same3_rfl]
            go_wp2_with fail
            refine wp_region_res 27 (w11.heap.size) (fun ii u => [valF (.bool true), valF (.bool true), valF (.bool true), valF (.bool true), valF (.bool true), valF (.string pub), valF (.string m), valF (.agg #[.int .i64 idx, .slice aos ls cs, .slice aop lp cp]), valF (.bool (verT pub m idx sig path)), valF (.string pub), valF (.string m), valF (.agg #[.int .i64 idx, .slice aos ls cs, .slice aop lp cp]), valF (.bool (verT pub m idx sig path)), valF (.bool true), valF (.bool true), valF (.bool true), valF (.string (pubT secret n)), valF (.string m), valF (.agg #[.int .i64 idx, .slice aos ls cs, .slice aop lp cp]), valF (.bool (verT (pubT secret n) m idx sig path)), valF (.string (pubT secret n)), valF (.string m), valF (.agg #[.int .i64 idx, .slice aos ls cs, .slice aop lp cp]), valF (.bool (verT (pubT secret n) m idx sig path)), valF (.bool true), valF (.bool true), valF (.bool true)].getD ii anyF) (fun jj ii => false) (fun jj bb => False) (by kernel_rfl) (by kernel_rfl) (by kernel_rfl) (by kernel_rfl) (by kernel_rfl) (Nat.le_refl _) ?_ ?_ ?_ ?_ ?_
            · intro ii u hii
              refine AllKStable.at ?_ ii
              exact ⟨.inl (valF_stable _ _), .inl (valF_stable _ _), .inl (valF_stable _ _), .inl (valF_stable _ _), .inl (valF_stable _ _), .inl (valF_stable _ _), .inl (valF_stable _ _), .inl (valF_stable _ _), .inl (valF_stable _ _), .inl (valF_stable _ _), .inl (valF_stable _ _), .inl (valF_stable _ _), .inl (valF_stable _ _), .inl (valF_stable _ _), .inl (valF_stable _ _), .inl (valF_stable _ _), .inl (valF_stable _ _), .inl (valF_stable _ _), .inl (valF_stable _ _), .inl (valF_stable _ _), .inl (valF_stable _ _), .inl (valF_stable _ _), .inl (valF_stable _ _), .inl (valF_stable _ _), .inl (valF_stable _ _), .inl (valF_stable _ _), .inl (valF_stable _ _), trivial⟩
            · exact fun _ _ _ _ _ => rfl
            · exact ⟨fun _ _ _ h => h.elim, fun _ _ _ _ _ h => h.elim⟩
            · refine And.intro (fun u W A hW hBW hd hv hr => ?_) ?_
              · have t13 : A.eval (.tmp 13) = .bool true := (hv 13 (by kernel_rfl)).trans (by kernel_rfl)
                clear hd hv
                have s13 := evalT t13
                clear t13
                refine fk_run ?_
                go_simp
              refine And.intro (fun u W A hW hBW hd hv hr => ?_) ?_
              · have e0 : u 0 = .bool true := hd 0 (by decide) (by kernel_rfl)
                have t90 : A.eval (.tmp 90) = .bool true := (hv 90 (by kernel_rfl)).trans ((by kernel_rfl : slotV _ _ _ u 90 = u 0).trans e0)
                clear hd hv
                have s90 := evalT t90
                clear t90
                refine fk_run ?_
                go_simp
              refine And.intro (fun u W A hW hBW hd hv hr => ?_) ?_
              · have e1 : u 1 = .bool true := hd 1 (by decide) (by kernel_rfl)
                have t22 : A.eval (.tmp 22) = .bool true := (hv 22 (by kernel_rfl)).trans (by kernel_rfl)
                clear hd hv
                have s22 := evalT t22
                clear t22
                refine Or.inl ⟨e1, ?_⟩
                refine fk_run ?_
                go_simp
              refine And.intro (fun u W A hW hBW hd hv hr => ?_) ?_
              · have e1 : u 1 = .bool true := hd 1 (by decide) (by kernel_rfl)
                have e2 : u 2 = .bool true := hd 2 (by decide) (by kernel_rfl)
                have t91 : A.eval (.tmp 91) = .bool true := (hv 91 (by kernel_rfl)).trans ((by kernel_rfl : slotV _ _ _ u 91 = u 1).trans e1)
                have t92 : A.eval (.tmp 92) = .bool true := (hv 92 (by kernel_rfl)).trans ((by kernel_rfl : slotV _ _ _ u 92 = u 2).trans e2)
                clear hd hv
                have s91 := evalT t91
                have s92 := evalT t92
                clear t91 t92
                refine fk_run ?_
                go_simp
              refine And.intro (fun u W A hW hBW hd hv hr => ?_) ?_
              · have e3 : u 3 = .bool true := hd 3 (by decide) (by kernel_rfl)
                have t93 : A.eval (.tmp 93) = .bool true := (hv 93 (by kernel_rfl)).trans ((by kernel_rfl : slotV _ _ _ u 93 = u 3).trans e3)
                clear hd hv
                have s93 := evalT t93
                clear t93
                refine fk_run ?_
                go_simp
              refine And.intro (fun u W A hW hBW hd hv hr => ?_) ?_
              · have e4 : u 4 = .bool true := hd 4 (by decide) (by kernel_rfl)
                have t4 : A.eval (.tmp 4) = .string pub := (hv 4 (by kernel_rfl)).trans (by kernel_rfl)
                clear hd hv
                have s4 := evalT t4
                clear t4
                refine Or.inl ⟨e4, ?_⟩
                refine fk_run ?_
                go_simp
              refine And.intro (fun u W A hW hBW hd hv hr => ?_) ?_
              · have e4 : u 4 = .bool true := hd 4 (by decide) (by kernel_rfl)
                have t3 : A.eval (.tmp 3) = .string m := (hv 3 (by kernel_rfl)).trans (by kernel_rfl)
                clear hd hv
                have s3 := evalT t3
                clear t3
                refine Or.inl ⟨e4, ?_⟩
                refine fk_run ?_
                go_simp
              refine And.intro (fun u W A hW hBW hd hv hr => ?_) ?_
              · have e4 : u 4 = .bool true := hd 4 (by decide) (by kernel_rfl)
                have t11 : A.eval (.tmp 11) = .pointer (some ⟨b11, 0, none⟩) := (hv 11 (by kernel_rfl)).trans (by kernel_rfl)
                have hW1 := below_undrew hW
                have hcl0 : W.cell? ⟨b11, 0, none⟩ = some (.int .i64 idx) := ((R1111.out.on hW1).cell 0).trans rfl
                have hcl1 : W.cell? ⟨b11, 1, none⟩ = some (.slice aos ls cs) := ((R1111.out.on hW1).cell 1).trans rfl
                have hcl2 : W.cell? ⟨b11, 2, none⟩ = some (.slice aop lp cp) := ((R1111.out.on hW1).cell 2).trans rfl
                clear hd hv
                have s11 := evalT t11
                clear t11
                refine Or.inl ⟨e4, ?_⟩
                refine fk_run ?_
                go_simp
              refine And.intro (fun u W A hW hBW hd hv hr => ?_) ?_
              · have e4 : u 4 = .bool true := hd 4 (by decide) (by kernel_rfl)
                have e5 : u 5 = .string pub := hd 5 (by decide) (by kernel_rfl)
                have e6 : u 6 = .string m := hd 6 (by decide) (by kernel_rfl)
                have e7 : u 7 = .agg #[.int .i64 idx, .slice aos ls cs, .slice aop lp cp] := hd 7 (by decide) (by kernel_rfl)
                have t95 : A.eval (.tmp 95) = .string pub := (hv 95 (by kernel_rfl)).trans ((by kernel_rfl : slotV _ _ _ u 95 = u 5).trans e5)
                have t96 : A.eval (.tmp 96) = .string m := (hv 96 (by kernel_rfl)).trans ((by kernel_rfl : slotV _ _ _ u 96 = u 6).trans e6)
                have t97 : A.eval (.tmp 97) = .agg #[.int .i64 idx, .slice aos ls cs, .slice aop lp cp] := (hv 97 (by kernel_rfl)).trans ((by kernel_rfl : slotV _ _ _ u 97 = u 7).trans e7)
                have hW1 := below_undrew hW
                clear hd hv
                have s95 := evalT t95
                have s96 := evalT t96
                have s97 := evalT t97
                clear t95 t96 t97
                refine Or.inl ⟨e4, ?_⟩
                refine fk_enter (f := 15) (args := #[.string pub, .string m, .agg #[.int .i64 idx, .slice aos ls cs, .slice aop lp cp]]) (by go_simp) (fk_val ?_)
                exact verify_calls pub m idx _ _ sig path W (by omega) (by omega) (WS11.out.on hW1) (WP11.out.on hW1) HSZ.out HPZ.out (HT.out.on (H11.out.trans (hW1.mono H11.out.size)))
              refine And.intro (fun u W A hW hBW hd hv hr => ?_) ?_
              · have e4 : u 4 = .bool true := hd 4 (by decide) (by kernel_rfl)
                have t4 : A.eval (.tmp 4) = .string pub := (hv 4 (by kernel_rfl)).trans (by kernel_rfl)
                clear hd hv
                have s4 := evalT t4
                clear t4
                refine Or.inl ⟨e4, ?_⟩
                refine fk_run ?_
                go_simp
              refine And.intro (fun u W A hW hBW hd hv hr => ?_) ?_
              · have e4 : u 4 = .bool true := hd 4 (by decide) (by kernel_rfl)
                have t3 : A.eval (.tmp 3) = .string m := (hv 3 (by kernel_rfl)).trans (by kernel_rfl)
                clear hd hv
                have s3 := evalT t3
                clear t3
                refine Or.inl ⟨e4, ?_⟩
                refine fk_run ?_
                go_simp
              refine And.intro (fun u W A hW hBW hd hv hr => ?_) ?_
              · have e4 : u 4 = .bool true := hd 4 (by decide) (by kernel_rfl)
                have t11 : A.eval (.tmp 11) = .pointer (some ⟨b11, 0, none⟩) := (hv 11 (by kernel_rfl)).trans (by kernel_rfl)
                have hW1 := below_undrew hW
                have hcl0 : W.cell? ⟨b11, 0, none⟩ = some (.int .i64 idx) := ((R1111.out.on hW1).cell 0).trans rfl
                have hcl1 : W.cell? ⟨b11, 1, none⟩ = some (.slice aos ls cs) := ((R1111.out.on hW1).cell 1).trans rfl
                have hcl2 : W.cell? ⟨b11, 2, none⟩ = some (.slice aop lp cp) := ((R1111.out.on hW1).cell 2).trans rfl
                clear hd hv
                have s11 := evalT t11
                clear t11
                refine Or.inl ⟨e4, ?_⟩
                refine fk_run ?_
                go_simp
              refine And.intro (fun u W A hW hBW hd hv hr => ?_) ?_
              · have e4 : u 4 = .bool true := hd 4 (by decide) (by kernel_rfl)
                have e9 : u 9 = .string pub := hd 9 (by decide) (by kernel_rfl)
                have e10 : u 10 = .string m := hd 10 (by decide) (by kernel_rfl)
                have e11 : u 11 = .agg #[.int .i64 idx, .slice aos ls cs, .slice aop lp cp] := hd 11 (by decide) (by kernel_rfl)
                have t99 : A.eval (.tmp 99) = .string pub := (hv 99 (by kernel_rfl)).trans ((by kernel_rfl : slotV _ _ _ u 99 = u 9).trans e9)
                have t100 : A.eval (.tmp 100) = .string m := (hv 100 (by kernel_rfl)).trans ((by kernel_rfl : slotV _ _ _ u 100 = u 10).trans e10)
                have t101 : A.eval (.tmp 101) = .agg #[.int .i64 idx, .slice aos ls cs, .slice aop lp cp] := (hv 101 (by kernel_rfl)).trans ((by kernel_rfl : slotV _ _ _ u 101 = u 11).trans e11)
                have hW1 := below_undrew hW
                clear hd hv
                have s99 := evalT t99
                have s100 := evalT t100
                have s101 := evalT t101
                clear t99 t100 t101
                refine Or.inl ⟨e4, ?_⟩
                refine fk_enter (f := 16) (args := #[.string pub, .string m, .agg #[.int .i64 idx, .slice aos ls cs, .slice aop lp cp]]) (by go_simp) (fk_val ?_)
                exact rverify_calls pub m idx _ _ sig path W (by omega) (by omega) (WS11.out.on hW1) (WP11.out.on hW1) HSZ.out HPZ.out
              refine And.intro (fun u W A hW hBW hd hv hr => ?_) ?_
              · have e4 : u 4 = .bool true := hd 4 (by decide) (by kernel_rfl)
                have e8 : u 8 = .bool (verT pub m idx sig path) := hd 8 (by decide) (by kernel_rfl)
                have e12 : u 12 = .bool (verT pub m idx sig path) := hd 12 (by decide) (by kernel_rfl)
                have t98 : A.eval (.tmp 98) = .bool (verT pub m idx sig path) := (hv 98 (by kernel_rfl)).trans ((by kernel_rfl : slotV _ _ _ u 98 = u 8).trans e8)
                have t102 : A.eval (.tmp 102) = .bool (verT pub m idx sig path) := (hv 102 (by kernel_rfl)).trans ((by kernel_rfl : slotV _ _ _ u 102 = u 12).trans e12)
                clear hd hv
                have s98 := evalT t98
                have s102 := evalT t102
                clear t98 t102
                refine Or.inl ⟨e4, ?_⟩
                refine fk_run ?_
                go_simp
              refine And.intro (fun u W A hW hBW hd hv hr => ?_) ?_
              · have e4 : u 4 = .bool true := hd 4 (by decide) (by kernel_rfl)
                have e13 : u 13 = .bool true := hd 13 (by decide) (by kernel_rfl)
                have t94 : A.eval (.tmp 94) = .bool true := (hv 94 (by kernel_rfl)).trans ((by kernel_rfl : slotV _ _ _ u 94 = u 4).trans e4)
                have t103 : A.eval (.tmp 103) = .bool true := (hv 103 (by kernel_rfl)).trans ((by kernel_rfl : slotV _ _ _ u 103 = u 13).trans e13)
                clear hd hv
                have s94 := evalT t94
                have s103 := evalT t103
                clear t94 t103
                refine fk_run ?_
                go_simp
              refine And.intro (fun u W A hW hBW hd hv hr => ?_) ?_
              · have e14 : u 14 = .bool true := hd 14 (by decide) (by kernel_rfl)
                have t104 : A.eval (.tmp 104) = .bool true := (hv 104 (by kernel_rfl)).trans ((by kernel_rfl : slotV _ _ _ u 104 = u 14).trans e14)
                clear hd hv
                have s104 := evalT t104
                clear t104
                refine fk_run ?_
                go_simp
              refine And.intro (fun u W A hW hBW hd hv hr => ?_) ?_
              · have e15 : u 15 = .bool true := hd 15 (by decide) (by kernel_rfl)
                have t14 : A.eval (.tmp 14) = .string (pubT secret n) := (hv 14 (by kernel_rfl)).trans (by kernel_rfl)
                clear hd hv
                have s14 := evalT t14
                clear t14
                refine Or.inl ⟨e15, ?_⟩
                refine fk_run ?_
                go_simp
              refine And.intro (fun u W A hW hBW hd hv hr => ?_) ?_
              · have e15 : u 15 = .bool true := hd 15 (by decide) (by kernel_rfl)
                have t3 : A.eval (.tmp 3) = .string m := (hv 3 (by kernel_rfl)).trans (by kernel_rfl)
                clear hd hv
                have s3 := evalT t3
                clear t3
                refine Or.inl ⟨e15, ?_⟩
                refine fk_run ?_
                go_simp
              refine And.intro (fun u W A hW hBW hd hv hr => ?_) ?_
              · have e15 : u 15 = .bool true := hd 15 (by decide) (by kernel_rfl)
                have t11 : A.eval (.tmp 11) = .pointer (some ⟨b11, 0, none⟩) := (hv 11 (by kernel_rfl)).trans (by kernel_rfl)
                have hW1 := below_undrew hW
                have hcl0 : W.cell? ⟨b11, 0, none⟩ = some (.int .i64 idx) := ((R1111.out.on hW1).cell 0).trans rfl
                have hcl1 : W.cell? ⟨b11, 1, none⟩ = some (.slice aos ls cs) := ((R1111.out.on hW1).cell 1).trans rfl
                have hcl2 : W.cell? ⟨b11, 2, none⟩ = some (.slice aop lp cp) := ((R1111.out.on hW1).cell 2).trans rfl
                clear hd hv
                have s11 := evalT t11
                clear t11
                refine Or.inl ⟨e15, ?_⟩
                refine fk_run ?_
                go_simp
              refine And.intro (fun u W A hW hBW hd hv hr => ?_) ?_
              · have e15 : u 15 = .bool true := hd 15 (by decide) (by kernel_rfl)
                have e16 : u 16 = .string (pubT secret n) := hd 16 (by decide) (by kernel_rfl)
                have e17 : u 17 = .string m := hd 17 (by decide) (by kernel_rfl)
                have e18 : u 18 = .agg #[.int .i64 idx, .slice aos ls cs, .slice aop lp cp] := hd 18 (by decide) (by kernel_rfl)
                have t106 : A.eval (.tmp 106) = .string (pubT secret n) := (hv 106 (by kernel_rfl)).trans ((by kernel_rfl : slotV _ _ _ u 106 = u 16).trans e16)
                have t107 : A.eval (.tmp 107) = .string m := (hv 107 (by kernel_rfl)).trans ((by kernel_rfl : slotV _ _ _ u 107 = u 17).trans e17)
                have t108 : A.eval (.tmp 108) = .agg #[.int .i64 idx, .slice aos ls cs, .slice aop lp cp] := (hv 108 (by kernel_rfl)).trans ((by kernel_rfl : slotV _ _ _ u 108 = u 18).trans e18)
                have hW1 := below_undrew hW
                clear hd hv
                have s106 := evalT t106
                have s107 := evalT t107
                have s108 := evalT t108
                clear t106 t107 t108
                refine Or.inl ⟨e15, ?_⟩
                refine fk_enter (f := 15) (args := #[.string (pubT secret n), .string m, .agg #[.int .i64 idx, .slice aos ls cs, .slice aop lp cp]]) (by go_simp) (fk_val ?_)
                exact verify_calls (pubT secret n) m idx _ _ sig path W HKZ.out (by omega) (WS11.out.on hW1) (WP11.out.on hW1) HSZ.out HPZ.out (HT.out.on (H11.out.trans (hW1.mono H11.out.size)))
              refine And.intro (fun u W A hW hBW hd hv hr => ?_) ?_
              · have e15 : u 15 = .bool true := hd 15 (by decide) (by kernel_rfl)
                have t16 : A.eval (.tmp 16) = .string (pubT secret n) := (hv 16 (by kernel_rfl)).trans (by kernel_rfl)
                clear hd hv
                have s16 := evalT t16
                clear t16
                refine Or.inl ⟨e15, ?_⟩
                refine fk_run ?_
                go_simp
              refine And.intro (fun u W A hW hBW hd hv hr => ?_) ?_
              · have e15 : u 15 = .bool true := hd 15 (by decide) (by kernel_rfl)
                have t3 : A.eval (.tmp 3) = .string m := (hv 3 (by kernel_rfl)).trans (by kernel_rfl)
                clear hd hv
                have s3 := evalT t3
                clear t3
                refine Or.inl ⟨e15, ?_⟩
                refine fk_run ?_
                go_simp
              refine And.intro (fun u W A hW hBW hd hv hr => ?_) ?_
              · have e15 : u 15 = .bool true := hd 15 (by decide) (by kernel_rfl)
                have t11 : A.eval (.tmp 11) = .pointer (some ⟨b11, 0, none⟩) := (hv 11 (by kernel_rfl)).trans (by kernel_rfl)
                have hW1 := below_undrew hW
                have hcl0 : W.cell? ⟨b11, 0, none⟩ = some (.int .i64 idx) := ((R1111.out.on hW1).cell 0).trans rfl
                have hcl1 : W.cell? ⟨b11, 1, none⟩ = some (.slice aos ls cs) := ((R1111.out.on hW1).cell 1).trans rfl
                have hcl2 : W.cell? ⟨b11, 2, none⟩ = some (.slice aop lp cp) := ((R1111.out.on hW1).cell 2).trans rfl
                clear hd hv
                have s11 := evalT t11
                clear t11
                refine Or.inl ⟨e15, ?_⟩
                refine fk_run ?_
                go_simp
              refine And.intro (fun u W A hW hBW hd hv hr => ?_) ?_
              · have e15 : u 15 = .bool true := hd 15 (by decide) (by kernel_rfl)
                have e20 : u 20 = .string (pubT secret n) := hd 20 (by decide) (by kernel_rfl)
                have e21 : u 21 = .string m := hd 21 (by decide) (by kernel_rfl)
                have e22 : u 22 = .agg #[.int .i64 idx, .slice aos ls cs, .slice aop lp cp] := hd 22 (by decide) (by kernel_rfl)
                have t110 : A.eval (.tmp 110) = .string (pubT secret n) := (hv 110 (by kernel_rfl)).trans ((by kernel_rfl : slotV _ _ _ u 110 = u 20).trans e20)
                have t111 : A.eval (.tmp 111) = .string m := (hv 111 (by kernel_rfl)).trans ((by kernel_rfl : slotV _ _ _ u 111 = u 21).trans e21)
                have t112 : A.eval (.tmp 112) = .agg #[.int .i64 idx, .slice aos ls cs, .slice aop lp cp] := (hv 112 (by kernel_rfl)).trans ((by kernel_rfl : slotV _ _ _ u 112 = u 22).trans e22)
                have hW1 := below_undrew hW
                clear hd hv
                have s110 := evalT t110
                have s111 := evalT t111
                have s112 := evalT t112
                clear t110 t111 t112
                refine Or.inl ⟨e15, ?_⟩
                refine fk_enter (f := 16) (args := #[.string (pubT secret n), .string m, .agg #[.int .i64 idx, .slice aos ls cs, .slice aop lp cp]]) (by go_simp) (fk_val ?_)
                exact rverify_calls (pubT secret n) m idx _ _ sig path W HKZ.out (by omega) (WS11.out.on hW1) (WP11.out.on hW1) HSZ.out HPZ.out
              refine And.intro (fun u W A hW hBW hd hv hr => ?_) ?_
              · have e15 : u 15 = .bool true := hd 15 (by decide) (by kernel_rfl)
                have e19 : u 19 = .bool (verT (pubT secret n) m idx sig path) := hd 19 (by decide) (by kernel_rfl)
                have e23 : u 23 = .bool (verT (pubT secret n) m idx sig path) := hd 23 (by decide) (by kernel_rfl)
                have t109 : A.eval (.tmp 109) = .bool (verT (pubT secret n) m idx sig path) := (hv 109 (by kernel_rfl)).trans ((by kernel_rfl : slotV _ _ _ u 109 = u 19).trans e19)
                have t113 : A.eval (.tmp 113) = .bool (verT (pubT secret n) m idx sig path) := (hv 113 (by kernel_rfl)).trans ((by kernel_rfl : slotV _ _ _ u 113 = u 23).trans e23)
                clear hd hv
                have s109 := evalT t109
                have s113 := evalT t113
                clear t109 t113
                refine Or.inl ⟨e15, ?_⟩
                refine fk_run ?_
                go_simp
              refine And.intro (fun u W A hW hBW hd hv hr => ?_) ?_
              · have e15 : u 15 = .bool true := hd 15 (by decide) (by kernel_rfl)
                have e24 : u 24 = .bool true := hd 24 (by decide) (by kernel_rfl)
                have t105 : A.eval (.tmp 105) = .bool true := (hv 105 (by kernel_rfl)).trans ((by kernel_rfl : slotV _ _ _ u 105 = u 15).trans e15)
                have t114 : A.eval (.tmp 114) = .bool true := (hv 114 (by kernel_rfl)).trans ((by kernel_rfl : slotV _ _ _ u 114 = u 24).trans e24)
                clear hd hv
                have s105 := evalT t105
                have s114 := evalT t114
                clear t105 t114
                refine fk_run ?_
                go_simp
              refine And.intro (fun u W A hW hBW hd hv hr => ?_) ?_
              · have e25 : u 25 = .bool true := hd 25 (by decide) (by kernel_rfl)
                have t115 : A.eval (.tmp 115) = .bool true := (hv 115 (by kernel_rfl)).trans ((by kernel_rfl : slotV _ _ _ u 115 = u 25).trans e25)
                clear hd hv
                have s115 := evalT t115
                clear t115
                refine fk_run ?_
                go_simp
              exact trivial
            intro u w12 hb hk2 hf
            have e26 : u 26 = .bool true := hf 26 (by decide) (by decide)
            have hb1 := below_undrew hb
            clear hf hb hk2
            have H12 := Lib.hid (H11.out.trans (hb1.mono H11.out.size))
            have WS12 := Lib.hid (WS11.out.on hb1)
            have WP12 := Lib.hid (WP11.out.on hb1)
            have R1112 := Lib.hid (R1111.out.on hb1)
            have VSa12 := Lib.hid (VSa11.out.on hb1)
            have VPa12 := Lib.hid (VPa11.out.on hb1)
            have R1812 := Lib.hid (R1811.out.on hb1)
            have VSb12 := Lib.hid (VSb11.out.on hb1)
            have VPb12 := Lib.hid (VPb11.out.on hb1)
            have R2012 := Lib.hid (R2011.out.on hb1)
            clear hb1
            clear H11 WS11 WP11 R1111 VSa11 VPa11 R1811 VSb11 VPb11 R2011
            generalize w12 = w12 at *
            simp only [List.take, List.drop, wpList, lexPut, Nat.zero_add, Nat.reduceAdd, e26, Act.put, List.setIfInBounds_toArray, List.set_cons_succ, List.set_cons_zero]
            clear e26
            go_wp2
            go_ret
            exact ⟨rfl, H12.out⟩
          · have HNB : Hid (¬ (0 ≤ (n : Int) ∧ (n : Int) ≤ 8 ∧ 0 ≤ i ∧ i < ((2 ^ (n : Int).toNat : Nat) : Int))) := Lib.hid (by rw [Int.toNat_natCast]; omega)
            clear hin
            have H0 : Hid (Below w.heap.size w w) := Lib.hid (Below.refl w.heap.size w)
            go_enter Tryz.func3, Tryz.ntmps3
            have WS0 := Lib.hid (HVS.out)
            have WP0 := Lib.hid (HVP.out)
            go_wp2_with fail
            have hq : Below w.heap.size w (w.alloc (.cells #[.int .i64 idx, .slice aos ls cs, .slice aop lp cp] 24)) := (Below.refl _ _).alloc (Nat.le_refl _) _
            have H1 := Lib.hid (H0.out.trans (hq.mono H0.out.size))
            have WS1 := Lib.hid (WS0.out.on hq)
            have WP1 := Lib.hid (WP0.out.on hq)
            have R111 := Lib.hid (RowIs.new w #[.int .i64 idx, .slice aos ls cs, .slice aop lp cp] 24)
            obtain ⟨b11, hb11⟩ : ∃ b, b = w.heap.size := ⟨_, rfl⟩
            rw [← hb11] at R111 ⊢
            have Z11 : Hid ((w.alloc (.cells #[.int .i64 idx, .slice aos ls cs, .slice aop lp cp] 24)).heap.size = b11 + 1) := Lib.hid (by rw [World.size_alloc, hb11])
            generalize hgw : w.alloc (.cells #[.int .i64 idx, .slice aos ls cs, .slice aop lp cp] 24) = w1 at *
            clear hq hgw hb11 H0 WS0 WP0
            refine (head_calls w1 (HT.out.on H1.out)).mono ?_
            rintro e w2 ⟨rfl, hB⟩
            have H2 := Lib.hid (H1.out.trans (hB.mono H1.out.size))
            have WS2 := Lib.hid (WS1.out.on hB)
            have WP2 := Lib.hid (WP1.out.on hB)
            have R112 := Lib.hid (R111.out.on hB)
            clear hB H1 WS1 WP1 R111
            go_wp2_with fail
            refine (short3_callsM secret m pub w2 hsec hm hpu).mono ?_
            rintro e w3 ⟨rfl, hB⟩
            have H3 := Lib.hid (H2.out.trans (hB.mono H2.out.size))
            have WS3 := Lib.hid (WS2.out.on hB)
            have WP3 := Lib.hid (WP2.out.on hB)
            have R113 := Lib.hid (R112.out.on hB)
            clear hB H2 WS2 WP2 R112
            rw [HSH.out]
            have c110 : w3.cell? ⟨b11, 0, none⟩ = some (.int .i64 idx) := (R113.out.cell 0).trans rfl
            have c111 : w3.cell? ⟨b11, 1, none⟩ = some (.slice aos ls cs) := (R113.out.cell 1).trans rfl
            have c112 : w3.cell? ⟨b11, 2, none⟩ = some (.slice aop lp cp) := (R113.out.cell 2).trans rfl
            go_wp2_with fail
            refine (few03_calls idx _ _ sig path w3 WS3.out WP3.out HSS.out HPS.out).mono ?_
            rintro e w4 ⟨rfl, hB⟩
            clear c110 c111 c112
            have H4 := Lib.hid (H3.out.trans (hB.mono H3.out.size))
            have WS4 := Lib.hid (WS3.out.on hB)
            have WP4 := Lib.hid (WP3.out.on hB)
            have R114 := Lib.hid (R113.out.on hB)
            clear hB H3 WS3 WP3 R113
            rw [HFW.out]
            go_wp2_with fail
            refine (public_calls secret n w4 (by omega) (by omega) (HT.out.on H4.out)).mono ?_
            rintro e w5 ⟨rfl, hB⟩
            have H5 := Lib.hid (H4.out.trans (hB.mono H4.out.size))
            have WS5 := Lib.hid (WS4.out.on hB)
            have WP5 := Lib.hid (WP4.out.on hB)
            have R115 := Lib.hid (R114.out.on hB)
            clear hB H4 WS4 WP4 R114
            go_wp2_with fail
            refine (rpublic_calls secret n w5 (by omega) (by omega)).mono ?_
            rintro e w6 ⟨rfl, hB⟩
            have H6 := Lib.hid (H5.out.trans (hB.mono H5.out.size))
            have WS6 := Lib.hid (WS5.out.on hB)
            have WP6 := Lib.hid (WP5.out.on hB)
            have R116 := Lib.hid (R115.out.on hB)
            clear hB H5 WS5 WP5 R115
            go_wp2_with fail
            refine (sign_bad secret m (n : Int) i w6 HNB.out).mono ?_
            rintro e w7 ⟨rfl, hB⟩
            have H7 := Lib.hid (H6.out.trans (hB.mono H6.out.size))
            have WS7 := Lib.hid (WS6.out.on hB)
            have WP7 := Lib.hid (WP6.out.on hB)
            have R117 := Lib.hid (R116.out.on hB)
            clear hB H6 WS6 WP6 R116
            go_wp2_with fail
            have hq : Below w7.heap.size w7 (w7.alloc (.cells #[.int .i64 0, .slice none 0 0, .slice none 0 0] 24)) := (Below.refl _ _).alloc (Nat.le_refl _) _
            have H8 := Lib.hid (H7.out.trans (hq.mono H7.out.size))
            have WS8 := Lib.hid (WS7.out.on hq)
            have WP8 := Lib.hid (WP7.out.on hq)
            have R118 := Lib.hid (R117.out.on hq)
            have R188 := Lib.hid (RowIs.new w7 #[.int .i64 0, .slice none 0 0, .slice none 0 0] 24)
            obtain ⟨b18, hb18⟩ : ∃ b, b = w7.heap.size := ⟨_, rfl⟩
            rw [← hb18] at R188 ⊢
            have Z18 : Hid ((w7.alloc (.cells #[.int .i64 0, .slice none 0 0, .slice none 0 0] 24)).heap.size = b18 + 1) := Lib.hid (by rw [World.size_alloc, hb18])
            generalize hgw : w7.alloc (.cells #[.int .i64 0, .slice none 0 0, .slice none 0 0] 24) = w8 at *
            clear hq hgw hb18 H7 WS7 WP7 R117
            refine (rsign_bad secret m (n : Int) i w8 HNB.out).mono ?_
            rintro e w9 ⟨rfl, hB⟩
            have H9 := Lib.hid (H8.out.trans (hB.mono H8.out.size))
            have WS9 := Lib.hid (WS8.out.on hB)
            have WP9 := Lib.hid (WP8.out.on hB)
            have R119 := Lib.hid (R118.out.on hB)
            have R189 := Lib.hid (R188.out.on hB)
            clear hB H8 WS8 WP8 R118 R188
            have c180 : w9.cell? ⟨b18, 0, none⟩ = some (.int .i64 0) := (R189.out.cell 0).trans rfl
            have c181 : w9.cell? ⟨b18, 1, none⟩ = some (.slice none 0 0) := (R189.out.cell 1).trans rfl
            have c182 : w9.cell? ⟨b18, 2, none⟩ = some (.slice none 0 0) := (R189.out.cell 2).trans rfl
            have c180_1 : ∀ o0 : Obj, (w9.alloc o0).cell? ⟨b18, 0, none⟩ = some (.int .i64 0) := fun o0 => ((R189.out.on (below_new (Below.refl w9.heap.size w9) o0)).cell 0).trans rfl
            have c181_1 : ∀ o0 : Obj, (w9.alloc o0).cell? ⟨b18, 1, none⟩ = some (.slice none 0 0) := fun o0 => ((R189.out.on (below_new (Below.refl w9.heap.size w9) o0)).cell 1).trans rfl
            have c182_1 : ∀ o0 : Obj, (w9.alloc o0).cell? ⟨b18, 2, none⟩ = some (.slice none 0 0) := fun o0 => ((R189.out.on (below_new (Below.refl w9.heap.size w9) o0)).cell 2).trans rfl
            go_wp2_with fail
            clear c180 c181 c182 c180_1 c181_1 c182_1
            have hq : Below w9.heap.size w9 (w9.alloc (.cells #[.int .i64 0, .slice none 0 0, .slice none 0 0] 24)) := (Below.refl _ _).alloc (Nat.le_refl _) _
            have H10 := Lib.hid (H9.out.trans (hq.mono H9.out.size))
            have WS10 := Lib.hid (WS9.out.on hq)
            have WP10 := Lib.hid (WP9.out.on hq)
            have R1110 := Lib.hid (R119.out.on hq)
            have R1810 := Lib.hid (R189.out.on hq)
            have R2010 := Lib.hid (RowIs.new w9 #[.int .i64 0, .slice none 0 0, .slice none 0 0] 24)
            obtain ⟨b20, hb20⟩ : ∃ b, b = w9.heap.size := ⟨_, rfl⟩
            rw [← hb20] at R2010 ⊢
            have Z20 : Hid ((w9.alloc (.cells #[.int .i64 0, .slice none 0 0, .slice none 0 0] 24)).heap.size = b20 + 1) := Lib.hid (by rw [World.size_alloc, hb20])
            generalize hgw : w9.alloc (.cells #[.int .i64 0, .slice none 0 0, .slice none 0 0] 24) = w10 at *
            clear hq hgw hb20 H9 WS9 WP9 R119 R189
            refine (same03_calls 0 0 _ _ _ _ [] [] [] [] w10 (strc_nil _) (strc_nil _) (strc_nil _) (strc_nil _)).mono ?_
            rintro e w11 ⟨rfl, hB⟩
            have H11 := Lib.hid (H10.out.trans (hB.mono H10.out.size))
            have WS11 := Lib.hid (WS10.out.on hB)
            have WP11 := Lib.hid (WP10.out.on hB)
            have R1111 := Lib.hid (R1110.out.on hB)
            have R1811 := Lib.hid (R1810.out.on hB)
            have R2011 := Lib.hid (R2010.out.on hB)
            clear hB H10 WS10 WP10 R1110 R1810 R2010
            rw [same3_rfl]
            go_wp2_with fail
            refine wp_region_res 27 (w11.heap.size) (fun ii u => [valF (.bool true), valF (.bool true), valF (.bool true), valF (.bool true), valF (.bool true), valF (.string pub), valF (.string m), valF (.agg #[.int .i64 idx, .slice aos ls cs, .slice aop lp cp]), valF (.bool (verT pub m idx sig path)), valF (.string pub), valF (.string m), valF (.agg #[.int .i64 idx, .slice aos ls cs, .slice aop lp cp]), valF (.bool (verT pub m idx sig path)), valF (.bool true), valF (.bool true), valF (.bool true), valF (.string (pubT secret n)), valF (.string m), valF (.agg #[.int .i64 idx, .slice aos ls cs, .slice aop lp cp]), valF (.bool (verT (pubT secret n) m idx sig path)), valF (.string (pubT secret n)), valF (.string m), valF (.agg #[.int .i64 idx, .slice aos ls cs, .slice aop lp cp]), valF (.bool (verT (pubT secret n) m idx sig path)), valF (.bool true), valF (.bool true), valF (.bool true)].getD ii anyF) (fun jj ii => false) (fun jj bb => False) (by kernel_rfl) (by kernel_rfl) (by kernel_rfl) (by kernel_rfl) (by kernel_rfl) (Nat.le_refl _) ?_ ?_ ?_ ?_ ?_
            · intro ii u hii
              refine AllKStable.at ?_ ii
              exact ⟨.inl (valF_stable _ _), .inl (valF_stable _ _), .inl (valF_stable _ _), .inl (valF_stable _ _), .inl (valF_stable _ _), .inl (valF_stable _ _), .inl (valF_stable _ _), .inl (valF_stable _ _), .inl (valF_stable _ _), .inl (valF_stable _ _), .inl (valF_stable _ _), .inl (valF_stable _ _), .inl (valF_stable _ _), .inl (valF_stable _ _), .inl (valF_stable _ _), .inl (valF_stable _ _), .inl (valF_stable _ _), .inl (valF_stable _ _), .inl (valF_stable _ _), .inl (valF_stable _ _), .inl (valF_stable _ _), .inl (valF_stable _ _), .inl (valF_stable _ _), .inl (valF_stable _ _), .inl (valF_stable _ _), .inl (valF_stable _ _), .inl (valF_stable _ _), trivial⟩
            · exact fun _ _ _ _ _ => rfl
            · exact ⟨fun _ _ _ h => h.elim, fun _ _ _ _ _ h => h.elim⟩
            · refine And.intro (fun u W A hW hBW hd hv hr => ?_) ?_
              · have t13 : A.eval (.tmp 13) = .bool true := (hv 13 (by kernel_rfl)).trans (by kernel_rfl)
                clear hd hv
                have s13 := evalT t13
                clear t13
                refine fk_run ?_
                go_simp
              refine And.intro (fun u W A hW hBW hd hv hr => ?_) ?_
              · have e0 : u 0 = .bool true := hd 0 (by decide) (by kernel_rfl)
                have t90 : A.eval (.tmp 90) = .bool true := (hv 90 (by kernel_rfl)).trans ((by kernel_rfl : slotV _ _ _ u 90 = u 0).trans e0)
                clear hd hv
                have s90 := evalT t90
                clear t90
                refine fk_run ?_
                go_simp
              refine And.intro (fun u W A hW hBW hd hv hr => ?_) ?_
              · have e1 : u 1 = .bool true := hd 1 (by decide) (by kernel_rfl)
                have t22 : A.eval (.tmp 22) = .bool true := (hv 22 (by kernel_rfl)).trans (by kernel_rfl)
                clear hd hv
                have s22 := evalT t22
                clear t22
                refine Or.inl ⟨e1, ?_⟩
                refine fk_run ?_
                go_simp
              refine And.intro (fun u W A hW hBW hd hv hr => ?_) ?_
              · have e1 : u 1 = .bool true := hd 1 (by decide) (by kernel_rfl)
                have e2 : u 2 = .bool true := hd 2 (by decide) (by kernel_rfl)
                have t91 : A.eval (.tmp 91) = .bool true := (hv 91 (by kernel_rfl)).trans ((by kernel_rfl : slotV _ _ _ u 91 = u 1).trans e1)
                have t92 : A.eval (.tmp 92) = .bool true := (hv 92 (by kernel_rfl)).trans ((by kernel_rfl : slotV _ _ _ u 92 = u 2).trans e2)
                clear hd hv
                have s91 := evalT t91
                have s92 := evalT t92
                clear t91 t92
                refine fk_run ?_
                go_simp
              refine And.intro (fun u W A hW hBW hd hv hr => ?_) ?_
              · have e3 : u 3 = .bool true := hd 3 (by decide) (by kernel_rfl)
                have t93 : A.eval (.tmp 93) = .bool true := (hv 93 (by kernel_rfl)).trans ((by kernel_rfl : slotV _ _ _ u 93 = u 3).trans e3)
                clear hd hv
                have s93 := evalT t93
                clear t93
                refine fk_run ?_
                go_simp
              refine And.intro (fun u W A hW hBW hd hv hr => ?_) ?_
              · have e4 : u 4 = .bool true := hd 4 (by decide) (by kernel_rfl)
                have t4 : A.eval (.tmp 4) = .string pub := (hv 4 (by kernel_rfl)).trans (by kernel_rfl)
                clear hd hv
                have s4 := evalT t4
                clear t4
                refine Or.inl ⟨e4, ?_⟩
                refine fk_run ?_
                go_simp
              refine And.intro (fun u W A hW hBW hd hv hr => ?_) ?_
              · have e4 : u 4 = .bool true := hd 4 (by decide) (by kernel_rfl)
                have t3 : A.eval (.tmp 3) = .string m := (hv 3 (by kernel_rfl)).trans (by kernel_rfl)
                clear hd hv
                have s3 := evalT t3
                clear t3
                refine Or.inl ⟨e4, ?_⟩
                refine fk_run ?_
                go_simp
              refine And.intro (fun u W A hW hBW hd hv hr => ?_) ?_
              · have e4 : u 4 = .bool true := hd 4 (by decide) (by kernel_rfl)
                have t11 : A.eval (.tmp 11) = .pointer (some ⟨b11, 0, none⟩) := (hv 11 (by kernel_rfl)).trans (by kernel_rfl)
                have hW1 := below_undrew hW
                have hcl0 : W.cell? ⟨b11, 0, none⟩ = some (.int .i64 idx) := ((R1111.out.on hW1).cell 0).trans rfl
                have hcl1 : W.cell? ⟨b11, 1, none⟩ = some (.slice aos ls cs) := ((R1111.out.on hW1).cell 1).trans rfl
                have hcl2 : W.cell? ⟨b11, 2, none⟩ = some (.slice aop lp cp) := ((R1111.out.on hW1).cell 2).trans rfl
                clear hd hv
                have s11 := evalT t11
                clear t11
                refine Or.inl ⟨e4, ?_⟩
                refine fk_run ?_
                go_simp
              refine And.intro (fun u W A hW hBW hd hv hr => ?_) ?_
              · have e4 : u 4 = .bool true := hd 4 (by decide) (by kernel_rfl)
                have e5 : u 5 = .string pub := hd 5 (by decide) (by kernel_rfl)
                have e6 : u 6 = .string m := hd 6 (by decide) (by kernel_rfl)
                have e7 : u 7 = .agg #[.int .i64 idx, .slice aos ls cs, .slice aop lp cp] := hd 7 (by decide) (by kernel_rfl)
                have t95 : A.eval (.tmp 95) = .string pub := (hv 95 (by kernel_rfl)).trans ((by kernel_rfl : slotV _ _ _ u 95 = u 5).trans e5)
                have t96 : A.eval (.tmp 96) = .string m := (hv 96 (by kernel_rfl)).trans ((by kernel_rfl : slotV _ _ _ u 96 = u 6).trans e6)
                have t97 : A.eval (.tmp 97) = .agg #[.int .i64 idx, .slice aos ls cs, .slice aop lp cp] := (hv 97 (by kernel_rfl)).trans ((by kernel_rfl : slotV _ _ _ u 97 = u 7).trans e7)
                have hW1 := below_undrew hW
                clear hd hv
                have s95 := evalT t95
                have s96 := evalT t96
                have s97 := evalT t97
                clear t95 t96 t97
                refine Or.inl ⟨e4, ?_⟩
                refine fk_enter (f := 15) (args := #[.string pub, .string m, .agg #[.int .i64 idx, .slice aos ls cs, .slice aop lp cp]]) (by go_simp) (fk_val ?_)
                exact verify_calls pub m idx _ _ sig path W (by omega) (by omega) (WS11.out.on hW1) (WP11.out.on hW1) HSZ.out HPZ.out (HT.out.on (H11.out.trans (hW1.mono H11.out.size)))
              refine And.intro (fun u W A hW hBW hd hv hr => ?_) ?_
              · have e4 : u 4 = .bool true := hd 4 (by decide) (by kernel_rfl)
                have t4 : A.eval (.tmp 4) = .string pub := (hv 4 (by kernel_rfl)).trans (by kernel_rfl)
                clear hd hv
                have s4 := evalT t4
                clear t4
                refine Or.inl ⟨e4, ?_⟩
                refine fk_run ?_
                go_simp
              refine And.intro (fun u W A hW hBW hd hv hr => ?_) ?_
              · have e4 : u 4 = .bool true := hd 4 (by decide) (by kernel_rfl)
                have t3 : A.eval (.tmp 3) = .string m := (hv 3 (by kernel_rfl)).trans (by kernel_rfl)
                clear hd hv
                have s3 := evalT t3
                clear t3
                refine Or.inl ⟨e4, ?_⟩
                refine fk_run ?_
                go_simp
              refine And.intro (fun u W A hW hBW hd hv hr => ?_) ?_
              · have e4 : u 4 = .bool true := hd 4 (by decide) (by kernel_rfl)
                have t11 : A.eval (.tmp 11) = .pointer (some ⟨b11, 0, none⟩) := (hv 11 (by kernel_rfl)).trans (by kernel_rfl)
                have hW1 := below_undrew hW
                have hcl0 : W.cell? ⟨b11, 0, none⟩ = some (.int .i64 idx) := ((R1111.out.on hW1).cell 0).trans rfl
                have hcl1 : W.cell? ⟨b11, 1, none⟩ = some (.slice aos ls cs) := ((R1111.out.on hW1).cell 1).trans rfl
                have hcl2 : W.cell? ⟨b11, 2, none⟩ = some (.slice aop lp cp) := ((R1111.out.on hW1).cell 2).trans rfl
                clear hd hv
                have s11 := evalT t11
                clear t11
                refine Or.inl ⟨e4, ?_⟩
                refine fk_run ?_
                go_simp
              refine And.intro (fun u W A hW hBW hd hv hr => ?_) ?_
              · have e4 : u 4 = .bool true := hd 4 (by decide) (by kernel_rfl)
                have e9 : u 9 = .string pub := hd 9 (by decide) (by kernel_rfl)
                have e10 : u 10 = .string m := hd 10 (by decide) (by kernel_rfl)
                have e11 : u 11 = .agg #[.int .i64 idx, .slice aos ls cs, .slice aop lp cp] := hd 11 (by decide) (by kernel_rfl)
                have t99 : A.eval (.tmp 99) = .string pub := (hv 99 (by kernel_rfl)).trans ((by kernel_rfl : slotV _ _ _ u 99 = u 9).trans e9)
                have t100 : A.eval (.tmp 100) = .string m := (hv 100 (by kernel_rfl)).trans ((by kernel_rfl : slotV _ _ _ u 100 = u 10).trans e10)
                have t101 : A.eval (.tmp 101) = .agg #[.int .i64 idx, .slice aos ls cs, .slice aop lp cp] := (hv 101 (by kernel_rfl)).trans ((by kernel_rfl : slotV _ _ _ u 101 = u 11).trans e11)
                have hW1 := below_undrew hW
                clear hd hv
                have s99 := evalT t99
                have s100 := evalT t100
                have s101 := evalT t101
                clear t99 t100 t101
                refine Or.inl ⟨e4, ?_⟩
                refine fk_enter (f := 16) (args := #[.string pub, .string m, .agg #[.int .i64 idx, .slice aos ls cs, .slice aop lp cp]]) (by go_simp) (fk_val ?_)
                exact rverify_calls pub m idx _ _ sig path W (by omega) (by omega) (WS11.out.on hW1) (WP11.out.on hW1) HSZ.out HPZ.out
              refine And.intro (fun u W A hW hBW hd hv hr => ?_) ?_
              · have e4 : u 4 = .bool true := hd 4 (by decide) (by kernel_rfl)
                have e8 : u 8 = .bool (verT pub m idx sig path) := hd 8 (by decide) (by kernel_rfl)
                have e12 : u 12 = .bool (verT pub m idx sig path) := hd 12 (by decide) (by kernel_rfl)
                have t98 : A.eval (.tmp 98) = .bool (verT pub m idx sig path) := (hv 98 (by kernel_rfl)).trans ((by kernel_rfl : slotV _ _ _ u 98 = u 8).trans e8)
                have t102 : A.eval (.tmp 102) = .bool (verT pub m idx sig path) := (hv 102 (by kernel_rfl)).trans ((by kernel_rfl : slotV _ _ _ u 102 = u 12).trans e12)
                clear hd hv
                have s98 := evalT t98
                have s102 := evalT t102
                clear t98 t102
                refine Or.inl ⟨e4, ?_⟩
                refine fk_run ?_
                go_simp
              refine And.intro (fun u W A hW hBW hd hv hr => ?_) ?_
              · have e4 : u 4 = .bool true := hd 4 (by decide) (by kernel_rfl)
                have e13 : u 13 = .bool true := hd 13 (by decide) (by kernel_rfl)
                have t94 : A.eval (.tmp 94) = .bool true := (hv 94 (by kernel_rfl)).trans ((by kernel_rfl : slotV _ _ _ u 94 = u 4).trans e4)
                have t103 : A.eval (.tmp 103) = .bool true := (hv 103 (by kernel_rfl)).trans ((by kernel_rfl : slotV _ _ _ u 103 = u 13).trans e13)
                clear hd hv
                have s94 := evalT t94
                have s103 := evalT t103
                clear t94 t103
                refine fk_run ?_
                go_simp
              refine And.intro (fun u W A hW hBW hd hv hr => ?_) ?_
              · have e14 : u 14 = .bool true := hd 14 (by decide) (by kernel_rfl)
                have t104 : A.eval (.tmp 104) = .bool true := (hv 104 (by kernel_rfl)).trans ((by kernel_rfl : slotV _ _ _ u 104 = u 14).trans e14)
                clear hd hv
                have s104 := evalT t104
                clear t104
                refine fk_run ?_
                go_simp
              refine And.intro (fun u W A hW hBW hd hv hr => ?_) ?_
              · have e15 : u 15 = .bool true := hd 15 (by decide) (by kernel_rfl)
                have t14 : A.eval (.tmp 14) = .string (pubT secret n) := (hv 14 (by kernel_rfl)).trans (by kernel_rfl)
                clear hd hv
                have s14 := evalT t14
                clear t14
                refine Or.inl ⟨e15, ?_⟩
                refine fk_run ?_
                go_simp
              refine And.intro (fun u W A hW hBW hd hv hr => ?_) ?_
              · have e15 : u 15 = .bool true := hd 15 (by decide) (by kernel_rfl)
                have t3 : A.eval (.tmp 3) = .string m := (hv 3 (by kernel_rfl)).trans (by kernel_rfl)
                clear hd hv
                have s3 := evalT t3
                clear t3
                refine Or.inl ⟨e15, ?_⟩
                refine fk_run ?_
                go_simp
              refine And.intro (fun u W A hW hBW hd hv hr => ?_) ?_
              · have e15 : u 15 = .bool true := hd 15 (by decide) (by kernel_rfl)
                have t11 : A.eval (.tmp 11) = .pointer (some ⟨b11, 0, none⟩) := (hv 11 (by kernel_rfl)).trans (by kernel_rfl)
                have hW1 := below_undrew hW
                have hcl0 : W.cell? ⟨b11, 0, none⟩ = some (.int .i64 idx) := ((R1111.out.on hW1).cell 0).trans rfl
                have hcl1 : W.cell? ⟨b11, 1, none⟩ = some (.slice aos ls cs) := ((R1111.out.on hW1).cell 1).trans rfl
                have hcl2 : W.cell? ⟨b11, 2, none⟩ = some (.slice aop lp cp) := ((R1111.out.on hW1).cell 2).trans rfl
                clear hd hv
                have s11 := evalT t11
                clear t11
                refine Or.inl ⟨e15, ?_⟩
                refine fk_run ?_
                go_simp
              refine And.intro (fun u W A hW hBW hd hv hr => ?_) ?_
              · have e15 : u 15 = .bool true := hd 15 (by decide) (by kernel_rfl)
                have e16 : u 16 = .string (pubT secret n) := hd 16 (by decide) (by kernel_rfl)
                have e17 : u 17 = .string m := hd 17 (by decide) (by kernel_rfl)
                have e18 : u 18 = .agg #[.int .i64 idx, .slice aos ls cs, .slice aop lp cp] := hd 18 (by decide) (by kernel_rfl)
                have t106 : A.eval (.tmp 106) = .string (pubT secret n) := (hv 106 (by kernel_rfl)).trans ((by kernel_rfl : slotV _ _ _ u 106 = u 16).trans e16)
                have t107 : A.eval (.tmp 107) = .string m := (hv 107 (by kernel_rfl)).trans ((by kernel_rfl : slotV _ _ _ u 107 = u 17).trans e17)
                have t108 : A.eval (.tmp 108) = .agg #[.int .i64 idx, .slice aos ls cs, .slice aop lp cp] := (hv 108 (by kernel_rfl)).trans ((by kernel_rfl : slotV _ _ _ u 108 = u 18).trans e18)
                have hW1 := below_undrew hW
                clear hd hv
                have s106 := evalT t106
                have s107 := evalT t107
                have s108 := evalT t108
                clear t106 t107 t108
                refine Or.inl ⟨e15, ?_⟩
                refine fk_enter (f := 15) (args := #[.string (pubT secret n), .string m, .agg #[.int .i64 idx, .slice aos ls cs, .slice aop lp cp]]) (by go_simp) (fk_val ?_)
                exact verify_calls (pubT secret n) m idx _ _ sig path W HKZ.out (by omega) (WS11.out.on hW1) (WP11.out.on hW1) HSZ.out HPZ.out (HT.out.on (H11.out.trans (hW1.mono H11.out.size)))
              refine And.intro (fun u W A hW hBW hd hv hr => ?_) ?_
              · have e15 : u 15 = .bool true := hd 15 (by decide) (by kernel_rfl)
                have t16 : A.eval (.tmp 16) = .string (pubT secret n) := (hv 16 (by kernel_rfl)).trans (by kernel_rfl)
                clear hd hv
                have s16 := evalT t16
                clear t16
                refine Or.inl ⟨e15, ?_⟩
                refine fk_run ?_
                go_simp
              refine And.intro (fun u W A hW hBW hd hv hr => ?_) ?_
              · have e15 : u 15 = .bool true := hd 15 (by decide) (by kernel_rfl)
                have t3 : A.eval (.tmp 3) = .string m := (hv 3 (by kernel_rfl)).trans (by kernel_rfl)
                clear hd hv
                have s3 := evalT t3
                clear t3
                refine Or.inl ⟨e15, ?_⟩
                refine fk_run ?_
                go_simp
              refine And.intro (fun u W A hW hBW hd hv hr => ?_) ?_
              · have e15 : u 15 = .bool true := hd 15 (by decide) (by kernel_rfl)
                have t11 : A.eval (.tmp 11) = .pointer (some ⟨b11, 0, none⟩) := (hv 11 (by kernel_rfl)).trans (by kernel_rfl)
                have hW1 := below_undrew hW
                have hcl0 : W.cell? ⟨b11, 0, none⟩ = some (.int .i64 idx) := ((R1111.out.on hW1).cell 0).trans rfl
                have hcl1 : W.cell? ⟨b11, 1, none⟩ = some (.slice aos ls cs) := ((R1111.out.on hW1).cell 1).trans rfl
                have hcl2 : W.cell? ⟨b11, 2, none⟩ = some (.slice aop lp cp) := ((R1111.out.on hW1).cell 2).trans rfl
                clear hd hv
                have s11 := evalT t11
                clear t11
                refine Or.inl ⟨e15, ?_⟩
                refine fk_run ?_
                go_simp
              refine And.intro (fun u W A hW hBW hd hv hr => ?_) ?_
              · have e15 : u 15 = .bool true := hd 15 (by decide) (by kernel_rfl)
                have e20 : u 20 = .string (pubT secret n) := hd 20 (by decide) (by kernel_rfl)
                have e21 : u 21 = .string m := hd 21 (by decide) (by kernel_rfl)
                have e22 : u 22 = .agg #[.int .i64 idx, .slice aos ls cs, .slice aop lp cp] := hd 22 (by decide) (by kernel_rfl)
                have t110 : A.eval (.tmp 110) = .string (pubT secret n) := (hv 110 (by kernel_rfl)).trans ((by kernel_rfl : slotV _ _ _ u 110 = u 20).trans e20)
                have t111 : A.eval (.tmp 111) = .string m := (hv 111 (by kernel_rfl)).trans ((by kernel_rfl : slotV _ _ _ u 111 = u 21).trans e21)
                have t112 : A.eval (.tmp 112) = .agg #[.int .i64 idx, .slice aos ls cs, .slice aop lp cp] := (hv 112 (by kernel_rfl)).trans ((by kernel_rfl : slotV _ _ _ u 112 = u 22).trans e22)
                have hW1 := below_undrew hW
                clear hd hv
                have s110 := evalT t110
                have s111 := evalT t111
                have s112 := evalT t112
                clear t110 t111 t112
                refine Or.inl ⟨e15, ?_⟩
                refine fk_enter (f := 16) (args := #[.string (pubT secret n), .string m, .agg #[.int .i64 idx, .slice aos ls cs, .slice aop lp cp]]) (by go_simp) (fk_val ?_)
                exact rverify_calls (pubT secret n) m idx _ _ sig path W HKZ.out (by omega) (WS11.out.on hW1) (WP11.out.on hW1) HSZ.out HPZ.out
              refine And.intro (fun u W A hW hBW hd hv hr => ?_) ?_
              · have e15 : u 15 = .bool true := hd 15 (by decide) (by kernel_rfl)
                have e19 : u 19 = .bool (verT (pubT secret n) m idx sig path) := hd 19 (by decide) (by kernel_rfl)
                have e23 : u 23 = .bool (verT (pubT secret n) m idx sig path) := hd 23 (by decide) (by kernel_rfl)
                have t109 : A.eval (.tmp 109) = .bool (verT (pubT secret n) m idx sig path) := (hv 109 (by kernel_rfl)).trans ((by kernel_rfl : slotV _ _ _ u 109 = u 19).trans e19)
                have t113 : A.eval (.tmp 113) = .bool (verT (pubT secret n) m idx sig path) := (hv 113 (by kernel_rfl)).trans ((by kernel_rfl : slotV _ _ _ u 113 = u 23).trans e23)
                clear hd hv
                have s109 := evalT t109
                have s113 := evalT t113
                clear t109 t113
                refine Or.inl ⟨e15, ?_⟩
                refine fk_run ?_
                go_simp
              refine And.intro (fun u W A hW hBW hd hv hr => ?_) ?_
              · have e15 : u 15 = .bool true := hd 15 (by decide) (by kernel_rfl)
                have e24 : u 24 = .bool true := hd 24 (by decide) (by kernel_rfl)
                have t105 : A.eval (.tmp 105) = .bool true := (hv 105 (by kernel_rfl)).trans ((by kernel_rfl : slotV _ _ _ u 105 = u 15).trans e15)
                have t114 : A.eval (.tmp 114) = .bool true := (hv 114 (by kernel_rfl)).trans ((by kernel_rfl : slotV _ _ _ u 114 = u 24).trans e24)
                clear hd hv
                have s105 := evalT t105
                have s114 := evalT t114
                clear t105 t114
                refine fk_run ?_
                go_simp
              refine And.intro (fun u W A hW hBW hd hv hr => ?_) ?_
              · have e25 : u 25 = .bool true := hd 25 (by decide) (by kernel_rfl)
                have t115 : A.eval (.tmp 115) = .bool true := (hv 115 (by kernel_rfl)).trans ((by kernel_rfl : slotV _ _ _ u 115 = u 25).trans e25)
                clear hd hv
                have s115 := evalT t115
                clear t115
                refine fk_run ?_
                go_simp
              exact trivial
            intro u w12 hb hk2 hf
            have e26 : u 26 = .bool true := hf 26 (by decide) (by decide)
            have hb1 := below_undrew hb
            clear hf hb hk2
            have H12 := Lib.hid (H11.out.trans (hb1.mono H11.out.size))
            have WS12 := Lib.hid (WS11.out.on hb1)
            have WP12 := Lib.hid (WP11.out.on hb1)
            have R1112 := Lib.hid (R1111.out.on hb1)
            have R1812 := Lib.hid (R1811.out.on hb1)
            have R2012 := Lib.hid (R2011.out.on hb1)
            clear hb1
            clear H11 WS11 WP11 R1111 R1811 R2011
            generalize w12 = w12 at *
            simp only [List.take, List.drop, wpList, lexPut, Nat.zero_add, Nat.reduceAdd, e26, Act.put, List.setIfInBounds_toArray, List.set_cons_succ, List.set_cons_zero]
            clear e26
            go_wp2
            go_ret
            exact ⟨rfl, H12.out⟩
        · have HNB : Hid (¬ (0 ≤ h ∧ h ≤ 8 ∧ 0 ≤ i ∧ i < ((2 ^ h.toNat : Nat) : Int))) := Lib.hid (fun hx => hok ⟨hx.1, hx.2.1⟩)
          have HBD := Lib.hid hok
          have HBD2 : Hid (h < 0 ∨ 8 < h) := Lib.hid (by omega)
          have HKZ : Hid (ByteArray.empty.size ≤ 1099511627776) := Lib.hid (by decide)
          clear hok hbig
          by_cases hg : 3 < h
          · have hd1 : decide (3 < h) = true := decide_eq_true hg
            have hd2 : decide (h ≤ 8) = false := decide_eq_false (by have := HBD2.out; omega)
            clear hg hdb
            have H0 : Hid (Below w.heap.size w w) := Lib.hid (Below.refl w.heap.size w)
            go_enter Tryz.func3, Tryz.ntmps3
            have WS0 := Lib.hid (HVS.out)
            have WP0 := Lib.hid (HVP.out)
            go_wp2_with fail
            have hq : Below w.heap.size w (w.alloc (.cells #[.int .i64 idx, .slice aos ls cs, .slice aop lp cp] 24)) := (Below.refl _ _).alloc (Nat.le_refl _) _
            have H1 := Lib.hid (H0.out.trans (hq.mono H0.out.size))
            have WS1 := Lib.hid (WS0.out.on hq)
            have WP1 := Lib.hid (WP0.out.on hq)
            have R111 := Lib.hid (RowIs.new w #[.int .i64 idx, .slice aos ls cs, .slice aop lp cp] 24)
            obtain ⟨b11, hb11⟩ : ∃ b, b = w.heap.size := ⟨_, rfl⟩
            rw [← hb11] at R111 ⊢
            have Z11 : Hid ((w.alloc (.cells #[.int .i64 idx, .slice aos ls cs, .slice aop lp cp] 24)).heap.size = b11 + 1) := Lib.hid (by rw [World.size_alloc, hb11])
            generalize hgw : w.alloc (.cells #[.int .i64 idx, .slice aos ls cs, .slice aop lp cp] 24) = w1 at *
            clear hq hgw hb11 H0 WS0 WP0
            refine (head_calls w1 (HT.out.on H1.out)).mono ?_
            rintro e w2 ⟨rfl, hB⟩
            have H2 := Lib.hid (H1.out.trans (hB.mono H1.out.size))
            have WS2 := Lib.hid (WS1.out.on hB)
            have WP2 := Lib.hid (WP1.out.on hB)
            have R112 := Lib.hid (R111.out.on hB)
            clear hB H1 WS1 WP1 R111
            go_wp2_with fail
            refine (short3_callsM secret m pub w2 hsec hm hpu).mono ?_
            rintro e w3 ⟨rfl, hB⟩
            have H3 := Lib.hid (H2.out.trans (hB.mono H2.out.size))
            have WS3 := Lib.hid (WS2.out.on hB)
            have WP3 := Lib.hid (WP2.out.on hB)
            have R113 := Lib.hid (R112.out.on hB)
            clear hB H2 WS2 WP2 R112
            rw [HSH.out]
            have c110 : w3.cell? ⟨b11, 0, none⟩ = some (.int .i64 idx) := (R113.out.cell 0).trans rfl
            have c111 : w3.cell? ⟨b11, 1, none⟩ = some (.slice aos ls cs) := (R113.out.cell 1).trans rfl
            have c112 : w3.cell? ⟨b11, 2, none⟩ = some (.slice aop lp cp) := (R113.out.cell 2).trans rfl
            go_wp2_with fail
            refine (few03_calls idx _ _ sig path w3 WS3.out WP3.out HSS.out HPS.out).mono ?_
            rintro e w4 ⟨rfl, hB⟩
            clear c110 c111 c112
            have H4 := Lib.hid (H3.out.trans (hB.mono H3.out.size))
            have WS4 := Lib.hid (WS3.out.on hB)
            have WP4 := Lib.hid (WP3.out.on hB)
            have R114 := Lib.hid (R113.out.on hB)
            clear hB H3 WS3 WP3 R113
            rw [HFW.out]
            go_wp2_with fail
            refine (public_bad secret h w4 HBD.out).mono ?_
            rintro e w5 ⟨rfl, rfl⟩
            have H5 := Lib.hid H4.out
            have WS5 := Lib.hid WS4.out
            have WP5 := Lib.hid WP4.out
            have R115 := Lib.hid R114.out
            clear  H4 WS4 WP4 R114
            go_wp2_with fail
            refine (rpublic_bad secret h w5 HBD2.out).mono ?_
            rintro e w6 ⟨rfl, rfl⟩
            have H6 := Lib.hid H5.out
            have WS6 := Lib.hid WS5.out
            have WP6 := Lib.hid WP5.out
            have R116 := Lib.hid R115.out
            clear  H5 WS5 WP5 R115
            go_wp2_with fail
            refine (sign_bad secret m h i w6 HNB.out).mono ?_
            rintro e w7 ⟨rfl, hB⟩
            have H7 := Lib.hid (H6.out.trans (hB.mono H6.out.size))
            have WS7 := Lib.hid (WS6.out.on hB)
            have WP7 := Lib.hid (WP6.out.on hB)
            have R117 := Lib.hid (R116.out.on hB)
            clear hB H6 WS6 WP6 R116
            go_wp2_with fail
            have hq : Below w7.heap.size w7 (w7.alloc (.cells #[.int .i64 0, .slice none 0 0, .slice none 0 0] 24)) := (Below.refl _ _).alloc (Nat.le_refl _) _
            have H8 := Lib.hid (H7.out.trans (hq.mono H7.out.size))
            have WS8 := Lib.hid (WS7.out.on hq)
            have WP8 := Lib.hid (WP7.out.on hq)
            have R118 := Lib.hid (R117.out.on hq)
            have R188 := Lib.hid (RowIs.new w7 #[.int .i64 0, .slice none 0 0, .slice none 0 0] 24)
            obtain ⟨b18, hb18⟩ : ∃ b, b = w7.heap.size := ⟨_, rfl⟩
            rw [← hb18] at R188 ⊢
            have Z18 : Hid ((w7.alloc (.cells #[.int .i64 0, .slice none 0 0, .slice none 0 0] 24)).heap.size = b18 + 1) := Lib.hid (by rw [World.size_alloc, hb18])
            generalize hgw : w7.alloc (.cells #[.int .i64 0, .slice none 0 0, .slice none 0 0] 24) = w8 at *
            clear hq hgw hb18 H7 WS7 WP7 R117
            refine (rsign_bad secret m h i w8 HNB.out).mono ?_
            rintro e w9 ⟨rfl, hB⟩
            have H9 := Lib.hid (H8.out.trans (hB.mono H8.out.size))
            have WS9 := Lib.hid (WS8.out.on hB)
            have WP9 := Lib.hid (WP8.out.on hB)
            have R119 := Lib.hid (R118.out.on hB)
            have R189 := Lib.hid (R188.out.on hB)
            clear hB H8 WS8 WP8 R118 R188
            have c180 : w9.cell? ⟨b18, 0, none⟩ = some (.int .i64 0) := (R189.out.cell 0).trans rfl
            have c181 : w9.cell? ⟨b18, 1, none⟩ = some (.slice none 0 0) := (R189.out.cell 1).trans rfl
            have c182 : w9.cell? ⟨b18, 2, none⟩ = some (.slice none 0 0) := (R189.out.cell 2).trans rfl
            have c180_1 : ∀ o0 : Obj, (w9.alloc o0).cell? ⟨b18, 0, none⟩ = some (.int .i64 0) := fun o0 => ((R189.out.on (below_new (Below.refl w9.heap.size w9) o0)).cell 0).trans rfl
            have c181_1 : ∀ o0 : Obj, (w9.alloc o0).cell? ⟨b18, 1, none⟩ = some (.slice none 0 0) := fun o0 => ((R189.out.on (below_new (Below.refl w9.heap.size w9) o0)).cell 1).trans rfl
            have c182_1 : ∀ o0 : Obj, (w9.alloc o0).cell? ⟨b18, 2, none⟩ = some (.slice none 0 0) := fun o0 => ((R189.out.on (below_new (Below.refl w9.heap.size w9) o0)).cell 2).trans rfl
            go_wp2_with fail
            clear c180 c181 c182 c180_1 c181_1 c182_1
            have hq : Below w9.heap.size w9 (w9.alloc (.cells #[.int .i64 0, .slice none 0 0, .slice none 0 0] 24)) := (Below.refl _ _).alloc (Nat.le_refl _) _
            have H10 := Lib.hid (H9.out.trans (hq.mono H9.out.size))
            have WS10 := Lib.hid (WS9.out.on hq)
            have WP10 := Lib.hid (WP9.out.on hq)
            have R1110 := Lib.hid (R119.out.on hq)
            have R1810 := Lib.hid (R189.out.on hq)
            have R2010 := Lib.hid (RowIs.new w9 #[.int .i64 0, .slice none 0 0, .slice none 0 0] 24)
            obtain ⟨b20, hb20⟩ : ∃ b, b = w9.heap.size := ⟨_, rfl⟩
            rw [← hb20] at R2010 ⊢
            have Z20 : Hid ((w9.alloc (.cells #[.int .i64 0, .slice none 0 0, .slice none 0 0] 24)).heap.size = b20 + 1) := Lib.hid (by rw [World.size_alloc, hb20])
            generalize hgw : w9.alloc (.cells #[.int .i64 0, .slice none 0 0, .slice none 0 0] 24) = w10 at *
            clear hq hgw hb20 H9 WS9 WP9 R119 R189
            refine (same03_calls 0 0 _ _ _ _ [] [] [] [] w10 (strc_nil _) (strc_nil _) (strc_nil _) (strc_nil _)).mono ?_
            rintro e w11 ⟨rfl, hB⟩
            have H11 := Lib.hid (H10.out.trans (hB.mono H10.out.size))
            have WS11 := Lib.hid (WS10.out.on hB)
            have WP11 := Lib.hid (WP10.out.on hB)
            have R1111 := Lib.hid (R1110.out.on hB)
            have R1811 := Lib.hid (R1810.out.on hB)
            have R2011 := Lib.hid (R2010.out.on hB)
            clear hB H10 WS10 WP10 R1110 R1810 R2010
            rw [same3_rfl]
            go_wp2_with fail
            refine wp_region_res 27 (w11.heap.size) (fun ii u => [valF (.bool true), valF (.bool true), valF (.bool true), valF (.bool true), valF (.bool true), valF (.string pub), valF (.string m), valF (.agg #[.int .i64 idx, .slice aos ls cs, .slice aop lp cp]), valF (.bool (verT pub m idx sig path)), valF (.string pub), valF (.string m), valF (.agg #[.int .i64 idx, .slice aos ls cs, .slice aop lp cp]), valF (.bool (verT pub m idx sig path)), valF (.bool true), valF (.bool true), valF (.bool true), valF (.string ByteArray.empty), valF (.string m), valF (.agg #[.int .i64 idx, .slice aos ls cs, .slice aop lp cp]), valF (.bool (verT ByteArray.empty m idx sig path)), valF (.string ByteArray.empty), valF (.string m), valF (.agg #[.int .i64 idx, .slice aos ls cs, .slice aop lp cp]), valF (.bool (verT ByteArray.empty m idx sig path)), valF (.bool true), valF (.bool true), valF (.bool true)].getD ii anyF) (fun jj ii => false) (fun jj bb => False) (by kernel_rfl) (by kernel_rfl) (by kernel_rfl) (by kernel_rfl) (by kernel_rfl) (Nat.le_refl _) ?_ ?_ ?_ ?_ ?_
            · intro ii u hii
              refine AllKStable.at ?_ ii
              exact ⟨.inl (valF_stable _ _), .inl (valF_stable _ _), .inl (valF_stable _ _), .inl (valF_stable _ _), .inl (valF_stable _ _), .inl (valF_stable _ _), .inl (valF_stable _ _), .inl (valF_stable _ _), .inl (valF_stable _ _), .inl (valF_stable _ _), .inl (valF_stable _ _), .inl (valF_stable _ _), .inl (valF_stable _ _), .inl (valF_stable _ _), .inl (valF_stable _ _), .inl (valF_stable _ _), .inl (valF_stable _ _), .inl (valF_stable _ _), .inl (valF_stable _ _), .inl (valF_stable _ _), .inl (valF_stable _ _), .inl (valF_stable _ _), .inl (valF_stable _ _), .inl (valF_stable _ _), .inl (valF_stable _ _), .inl (valF_stable _ _), .inl (valF_stable _ _), trivial⟩
            · exact fun _ _ _ _ _ => rfl
            · exact ⟨fun _ _ _ h => h.elim, fun _ _ _ _ _ h => h.elim⟩
            · refine And.intro (fun u W A hW hBW hd hv hr => ?_) ?_
              · have t13 : A.eval (.tmp 13) = .bool true := (hv 13 (by kernel_rfl)).trans (by kernel_rfl)
                clear hd hv
                have s13 := evalT t13
                clear t13
                refine fk_run ?_
                go_simp
              refine And.intro (fun u W A hW hBW hd hv hr => ?_) ?_
              · have e0 : u 0 = .bool true := hd 0 (by decide) (by kernel_rfl)
                have t90 : A.eval (.tmp 90) = .bool true := (hv 90 (by kernel_rfl)).trans ((by kernel_rfl : slotV _ _ _ u 90 = u 0).trans e0)
                clear hd hv
                have s90 := evalT t90
                clear t90
                refine fk_run ?_
                go_simp
              refine And.intro (fun u W A hW hBW hd hv hr => ?_) ?_
              · have e1 : u 1 = .bool true := hd 1 (by decide) (by kernel_rfl)
                have t22 : A.eval (.tmp 22) = .bool true := (hv 22 (by kernel_rfl)).trans (by kernel_rfl)
                clear hd hv
                have s22 := evalT t22
                clear t22
                refine Or.inl ⟨e1, ?_⟩
                refine fk_run ?_
                go_simp
              refine And.intro (fun u W A hW hBW hd hv hr => ?_) ?_
              · have e1 : u 1 = .bool true := hd 1 (by decide) (by kernel_rfl)
                have e2 : u 2 = .bool true := hd 2 (by decide) (by kernel_rfl)
                have t91 : A.eval (.tmp 91) = .bool true := (hv 91 (by kernel_rfl)).trans ((by kernel_rfl : slotV _ _ _ u 91 = u 1).trans e1)
                have t92 : A.eval (.tmp 92) = .bool true := (hv 92 (by kernel_rfl)).trans ((by kernel_rfl : slotV _ _ _ u 92 = u 2).trans e2)
                clear hd hv
                have s91 := evalT t91
                have s92 := evalT t92
                clear t91 t92
                refine fk_run ?_
                go_simp
              refine And.intro (fun u W A hW hBW hd hv hr => ?_) ?_
              · have e3 : u 3 = .bool true := hd 3 (by decide) (by kernel_rfl)
                have t93 : A.eval (.tmp 93) = .bool true := (hv 93 (by kernel_rfl)).trans ((by kernel_rfl : slotV _ _ _ u 93 = u 3).trans e3)
                clear hd hv
                have s93 := evalT t93
                clear t93
                refine fk_run ?_
                go_simp
              refine And.intro (fun u W A hW hBW hd hv hr => ?_) ?_
              · have e4 : u 4 = .bool true := hd 4 (by decide) (by kernel_rfl)
                have t4 : A.eval (.tmp 4) = .string pub := (hv 4 (by kernel_rfl)).trans (by kernel_rfl)
                clear hd hv
                have s4 := evalT t4
                clear t4
                refine Or.inl ⟨e4, ?_⟩
                refine fk_run ?_
                go_simp
              refine And.intro (fun u W A hW hBW hd hv hr => ?_) ?_
              · have e4 : u 4 = .bool true := hd 4 (by decide) (by kernel_rfl)
                have t3 : A.eval (.tmp 3) = .string m := (hv 3 (by kernel_rfl)).trans (by kernel_rfl)
                clear hd hv
                have s3 := evalT t3
                clear t3
                refine Or.inl ⟨e4, ?_⟩
                refine fk_run ?_
                go_simp
              refine And.intro (fun u W A hW hBW hd hv hr => ?_) ?_
              · have e4 : u 4 = .bool true := hd 4 (by decide) (by kernel_rfl)
                have t11 : A.eval (.tmp 11) = .pointer (some ⟨b11, 0, none⟩) := (hv 11 (by kernel_rfl)).trans (by kernel_rfl)
                have hW1 := below_undrew hW
                have hcl0 : W.cell? ⟨b11, 0, none⟩ = some (.int .i64 idx) := ((R1111.out.on hW1).cell 0).trans rfl
                have hcl1 : W.cell? ⟨b11, 1, none⟩ = some (.slice aos ls cs) := ((R1111.out.on hW1).cell 1).trans rfl
                have hcl2 : W.cell? ⟨b11, 2, none⟩ = some (.slice aop lp cp) := ((R1111.out.on hW1).cell 2).trans rfl
                clear hd hv
                have s11 := evalT t11
                clear t11
                refine Or.inl ⟨e4, ?_⟩
                refine fk_run ?_
                go_simp
              refine And.intro (fun u W A hW hBW hd hv hr => ?_) ?_
              · have e4 : u 4 = .bool true := hd 4 (by decide) (by kernel_rfl)
                have e5 : u 5 = .string pub := hd 5 (by decide) (by kernel_rfl)
                have e6 : u 6 = .string m := hd 6 (by decide) (by kernel_rfl)
                have e7 : u 7 = .agg #[.int .i64 idx, .slice aos ls cs, .slice aop lp cp] := hd 7 (by decide) (by kernel_rfl)
                have t95 : A.eval (.tmp 95) = .string pub := (hv 95 (by kernel_rfl)).trans ((by kernel_rfl : slotV _ _ _ u 95 = u 5).trans e5)
                have t96 : A.eval (.tmp 96) = .string m := (hv 96 (by kernel_rfl)).trans ((by kernel_rfl : slotV _ _ _ u 96 = u 6).trans e6)
                have t97 : A.eval (.tmp 97) = .agg #[.int .i64 idx, .slice aos ls cs, .slice aop lp cp] := (hv 97 (by kernel_rfl)).trans ((by kernel_rfl : slotV _ _ _ u 97 = u 7).trans e7)
                have hW1 := below_undrew hW
                clear hd hv
                have s95 := evalT t95
                have s96 := evalT t96
                have s97 := evalT t97
                clear t95 t96 t97
                refine Or.inl ⟨e4, ?_⟩
                refine fk_enter (f := 15) (args := #[.string pub, .string m, .agg #[.int .i64 idx, .slice aos ls cs, .slice aop lp cp]]) (by go_simp) (fk_val ?_)
                exact verify_calls pub m idx _ _ sig path W (by omega) (by omega) (WS11.out.on hW1) (WP11.out.on hW1) HSZ.out HPZ.out (HT.out.on (H11.out.trans (hW1.mono H11.out.size)))
              refine And.intro (fun u W A hW hBW hd hv hr => ?_) ?_
              · have e4 : u 4 = .bool true := hd 4 (by decide) (by kernel_rfl)
                have t4 : A.eval (.tmp 4) = .string pub := (hv 4 (by kernel_rfl)).trans (by kernel_rfl)
                clear hd hv
                have s4 := evalT t4
                clear t4
                refine Or.inl ⟨e4, ?_⟩
                refine fk_run ?_
                go_simp
              refine And.intro (fun u W A hW hBW hd hv hr => ?_) ?_
              · have e4 : u 4 = .bool true := hd 4 (by decide) (by kernel_rfl)
                have t3 : A.eval (.tmp 3) = .string m := (hv 3 (by kernel_rfl)).trans (by kernel_rfl)
                clear hd hv
                have s3 := evalT t3
                clear t3
                refine Or.inl ⟨e4, ?_⟩
                refine fk_run ?_
                go_simp
              refine And.intro (fun u W A hW hBW hd hv hr => ?_) ?_
              · have e4 : u 4 = .bool true := hd 4 (by decide) (by kernel_rfl)
                have t11 : A.eval (.tmp 11) = .pointer (some ⟨b11, 0, none⟩) := (hv 11 (by kernel_rfl)).trans (by kernel_rfl)
                have hW1 := below_undrew hW
                have hcl0 : W.cell? ⟨b11, 0, none⟩ = some (.int .i64 idx) := ((R1111.out.on hW1).cell 0).trans rfl
                have hcl1 : W.cell? ⟨b11, 1, none⟩ = some (.slice aos ls cs) := ((R1111.out.on hW1).cell 1).trans rfl
                have hcl2 : W.cell? ⟨b11, 2, none⟩ = some (.slice aop lp cp) := ((R1111.out.on hW1).cell 2).trans rfl
                clear hd hv
                have s11 := evalT t11
                clear t11
                refine Or.inl ⟨e4, ?_⟩
                refine fk_run ?_
                go_simp
              refine And.intro (fun u W A hW hBW hd hv hr => ?_) ?_
              · have e4 : u 4 = .bool true := hd 4 (by decide) (by kernel_rfl)
                have e9 : u 9 = .string pub := hd 9 (by decide) (by kernel_rfl)
                have e10 : u 10 = .string m := hd 10 (by decide) (by kernel_rfl)
                have e11 : u 11 = .agg #[.int .i64 idx, .slice aos ls cs, .slice aop lp cp] := hd 11 (by decide) (by kernel_rfl)
                have t99 : A.eval (.tmp 99) = .string pub := (hv 99 (by kernel_rfl)).trans ((by kernel_rfl : slotV _ _ _ u 99 = u 9).trans e9)
                have t100 : A.eval (.tmp 100) = .string m := (hv 100 (by kernel_rfl)).trans ((by kernel_rfl : slotV _ _ _ u 100 = u 10).trans e10)
                have t101 : A.eval (.tmp 101) = .agg #[.int .i64 idx, .slice aos ls cs, .slice aop lp cp] := (hv 101 (by kernel_rfl)).trans ((by kernel_rfl : slotV _ _ _ u 101 = u 11).trans e11)
                have hW1 := below_undrew hW
                clear hd hv
                have s99 := evalT t99
                have s100 := evalT t100
                have s101 := evalT t101
                clear t99 t100 t101
                refine Or.inl ⟨e4, ?_⟩
                refine fk_enter (f := 16) (args := #[.string pub, .string m, .agg #[.int .i64 idx, .slice aos ls cs, .slice aop lp cp]]) (by go_simp) (fk_val ?_)
                exact rverify_calls pub m idx _ _ sig path W (by omega) (by omega) (WS11.out.on hW1) (WP11.out.on hW1) HSZ.out HPZ.out
              refine And.intro (fun u W A hW hBW hd hv hr => ?_) ?_
              · have e4 : u 4 = .bool true := hd 4 (by decide) (by kernel_rfl)
                have e8 : u 8 = .bool (verT pub m idx sig path) := hd 8 (by decide) (by kernel_rfl)
                have e12 : u 12 = .bool (verT pub m idx sig path) := hd 12 (by decide) (by kernel_rfl)
                have t98 : A.eval (.tmp 98) = .bool (verT pub m idx sig path) := (hv 98 (by kernel_rfl)).trans ((by kernel_rfl : slotV _ _ _ u 98 = u 8).trans e8)
                have t102 : A.eval (.tmp 102) = .bool (verT pub m idx sig path) := (hv 102 (by kernel_rfl)).trans ((by kernel_rfl : slotV _ _ _ u 102 = u 12).trans e12)
                clear hd hv
                have s98 := evalT t98
                have s102 := evalT t102
                clear t98 t102
                refine Or.inl ⟨e4, ?_⟩
                refine fk_run ?_
                go_simp
              refine And.intro (fun u W A hW hBW hd hv hr => ?_) ?_
              · have e4 : u 4 = .bool true := hd 4 (by decide) (by kernel_rfl)
                have e13 : u 13 = .bool true := hd 13 (by decide) (by kernel_rfl)
                have t94 : A.eval (.tmp 94) = .bool true := (hv 94 (by kernel_rfl)).trans ((by kernel_rfl : slotV _ _ _ u 94 = u 4).trans e4)
                have t103 : A.eval (.tmp 103) = .bool true := (hv 103 (by kernel_rfl)).trans ((by kernel_rfl : slotV _ _ _ u 103 = u 13).trans e13)
                clear hd hv
                have s94 := evalT t94
                have s103 := evalT t103
                clear t94 t103
                refine fk_run ?_
                go_simp
              refine And.intro (fun u W A hW hBW hd hv hr => ?_) ?_
              · have e14 : u 14 = .bool true := hd 14 (by decide) (by kernel_rfl)
                have t104 : A.eval (.tmp 104) = .bool true := (hv 104 (by kernel_rfl)).trans ((by kernel_rfl : slotV _ _ _ u 104 = u 14).trans e14)
                clear hd hv
                have s104 := evalT t104
                clear t104
                refine fk_run ?_
                go_simp
              refine And.intro (fun u W A hW hBW hd hv hr => ?_) ?_
              · have e15 : u 15 = .bool true := hd 15 (by decide) (by kernel_rfl)
                have t14 : A.eval (.tmp 14) = .string ByteArray.empty := (hv 14 (by kernel_rfl)).trans (by kernel_rfl)
                clear hd hv
                have s14 := evalT t14
                clear t14
                refine Or.inl ⟨e15, ?_⟩
                refine fk_run ?_
                go_simp
              refine And.intro (fun u W A hW hBW hd hv hr => ?_) ?_
              · have e15 : u 15 = .bool true := hd 15 (by decide) (by kernel_rfl)
                have t3 : A.eval (.tmp 3) = .string m := (hv 3 (by kernel_rfl)).trans (by kernel_rfl)
                clear hd hv
                have s3 := evalT t3
                clear t3
                refine Or.inl ⟨e15, ?_⟩
                refine fk_run ?_
                go_simp
              refine And.intro (fun u W A hW hBW hd hv hr => ?_) ?_
              · have e15 : u 15 = .bool true := hd 15 (by decide) (by kernel_rfl)
                have t11 : A.eval (.tmp 11) = .pointer (some ⟨b11, 0, none⟩) := (hv 11 (by kernel_rfl)).trans (by kernel_rfl)
                have hW1 := below_undrew hW
                have hcl0 : W.cell? ⟨b11, 0, none⟩ = some (.int .i64 idx) := ((R1111.out.on hW1).cell 0).trans rfl
                have hcl1 : W.cell? ⟨b11, 1, none⟩ = some (.slice aos ls cs) := ((R1111.out.on hW1).cell 1).trans rfl
                have hcl2 : W.cell? ⟨b11, 2, none⟩ = some (.slice aop lp cp) := ((R1111.out.on hW1).cell 2).trans rfl
                clear hd hv
                have s11 := evalT t11
                clear t11
                refine Or.inl ⟨e15, ?_⟩
                refine fk_run ?_
                go_simp
              refine And.intro (fun u W A hW hBW hd hv hr => ?_) ?_
              · have e15 : u 15 = .bool true := hd 15 (by decide) (by kernel_rfl)
                have e16 : u 16 = .string ByteArray.empty := hd 16 (by decide) (by kernel_rfl)
                have e17 : u 17 = .string m := hd 17 (by decide) (by kernel_rfl)
                have e18 : u 18 = .agg #[.int .i64 idx, .slice aos ls cs, .slice aop lp cp] := hd 18 (by decide) (by kernel_rfl)
                have t106 : A.eval (.tmp 106) = .string ByteArray.empty := (hv 106 (by kernel_rfl)).trans ((by kernel_rfl : slotV _ _ _ u 106 = u 16).trans e16)
                have t107 : A.eval (.tmp 107) = .string m := (hv 107 (by kernel_rfl)).trans ((by kernel_rfl : slotV _ _ _ u 107 = u 17).trans e17)
                have t108 : A.eval (.tmp 108) = .agg #[.int .i64 idx, .slice aos ls cs, .slice aop lp cp] := (hv 108 (by kernel_rfl)).trans ((by kernel_rfl : slotV _ _ _ u 108 = u 18).trans e18)
                have hW1 := below_undrew hW
                clear hd hv
                have s106 := evalT t106
                have s107 := evalT t107
                have s108 := evalT t108
                clear t106 t107 t108
                refine Or.inl ⟨e15, ?_⟩
                refine fk_enter (f := 15) (args := #[.string ByteArray.empty, .string m, .agg #[.int .i64 idx, .slice aos ls cs, .slice aop lp cp]]) (by go_simp) (fk_val ?_)
                exact verify_calls ByteArray.empty m idx _ _ sig path W HKZ.out (by omega) (WS11.out.on hW1) (WP11.out.on hW1) HSZ.out HPZ.out (HT.out.on (H11.out.trans (hW1.mono H11.out.size)))
              refine And.intro (fun u W A hW hBW hd hv hr => ?_) ?_
              · have e15 : u 15 = .bool true := hd 15 (by decide) (by kernel_rfl)
                have t16 : A.eval (.tmp 16) = .string ByteArray.empty := (hv 16 (by kernel_rfl)).trans (by kernel_rfl)
                clear hd hv
                have s16 := evalT t16
                clear t16
                refine Or.inl ⟨e15, ?_⟩
                refine fk_run ?_
                go_simp
              refine And.intro (fun u W A hW hBW hd hv hr => ?_) ?_
              · have e15 : u 15 = .bool true := hd 15 (by decide) (by kernel_rfl)
                have t3 : A.eval (.tmp 3) = .string m := (hv 3 (by kernel_rfl)).trans (by kernel_rfl)
                clear hd hv
                have s3 := evalT t3
                clear t3
                refine Or.inl ⟨e15, ?_⟩
                refine fk_run ?_
                go_simp
              refine And.intro (fun u W A hW hBW hd hv hr => ?_) ?_
              · have e15 : u 15 = .bool true := hd 15 (by decide) (by kernel_rfl)
                have t11 : A.eval (.tmp 11) = .pointer (some ⟨b11, 0, none⟩) := (hv 11 (by kernel_rfl)).trans (by kernel_rfl)
                have hW1 := below_undrew hW
                have hcl0 : W.cell? ⟨b11, 0, none⟩ = some (.int .i64 idx) := ((R1111.out.on hW1).cell 0).trans rfl
                have hcl1 : W.cell? ⟨b11, 1, none⟩ = some (.slice aos ls cs) := ((R1111.out.on hW1).cell 1).trans rfl
                have hcl2 : W.cell? ⟨b11, 2, none⟩ = some (.slice aop lp cp) := ((R1111.out.on hW1).cell 2).trans rfl
                clear hd hv
                have s11 := evalT t11
                clear t11
                refine Or.inl ⟨e15, ?_⟩
                refine fk_run ?_
                go_simp
              refine And.intro (fun u W A hW hBW hd hv hr => ?_) ?_
              · have e15 : u 15 = .bool true := hd 15 (by decide) (by kernel_rfl)
                have e20 : u 20 = .string ByteArray.empty := hd 20 (by decide) (by kernel_rfl)
                have e21 : u 21 = .string m := hd 21 (by decide) (by kernel_rfl)
                have e22 : u 22 = .agg #[.int .i64 idx, .slice aos ls cs, .slice aop lp cp] := hd 22 (by decide) (by kernel_rfl)
                have t110 : A.eval (.tmp 110) = .string ByteArray.empty := (hv 110 (by kernel_rfl)).trans ((by kernel_rfl : slotV _ _ _ u 110 = u 20).trans e20)
                have t111 : A.eval (.tmp 111) = .string m := (hv 111 (by kernel_rfl)).trans ((by kernel_rfl : slotV _ _ _ u 111 = u 21).trans e21)
                have t112 : A.eval (.tmp 112) = .agg #[.int .i64 idx, .slice aos ls cs, .slice aop lp cp] := (hv 112 (by kernel_rfl)).trans ((by kernel_rfl : slotV _ _ _ u 112 = u 22).trans e22)
                have hW1 := below_undrew hW
                clear hd hv
                have s110 := evalT t110
                have s111 := evalT t111
                have s112 := evalT t112
                clear t110 t111 t112
                refine Or.inl ⟨e15, ?_⟩
                refine fk_enter (f := 16) (args := #[.string ByteArray.empty, .string m, .agg #[.int .i64 idx, .slice aos ls cs, .slice aop lp cp]]) (by go_simp) (fk_val ?_)
                exact rverify_calls ByteArray.empty m idx _ _ sig path W HKZ.out (by omega) (WS11.out.on hW1) (WP11.out.on hW1) HSZ.out HPZ.out
              refine And.intro (fun u W A hW hBW hd hv hr => ?_) ?_
              · have e15 : u 15 = .bool true := hd 15 (by decide) (by kernel_rfl)
                have e19 : u 19 = .bool (verT ByteArray.empty m idx sig path) := hd 19 (by decide) (by kernel_rfl)
                have e23 : u 23 = .bool (verT ByteArray.empty m idx sig path) := hd 23 (by decide) (by kernel_rfl)
                have t109 : A.eval (.tmp 109) = .bool (verT ByteArray.empty m idx sig path) := (hv 109 (by kernel_rfl)).trans ((by kernel_rfl : slotV _ _ _ u 109 = u 19).trans e19)
                have t113 : A.eval (.tmp 113) = .bool (verT ByteArray.empty m idx sig path) := (hv 113 (by kernel_rfl)).trans ((by kernel_rfl : slotV _ _ _ u 113 = u 23).trans e23)
                clear hd hv
                have s109 := evalT t109
                have s113 := evalT t113
                clear t109 t113
                refine Or.inl ⟨e15, ?_⟩
                refine fk_run ?_
                go_simp
              refine And.intro (fun u W A hW hBW hd hv hr => ?_) ?_
              · have e15 : u 15 = .bool true := hd 15 (by decide) (by kernel_rfl)
                have e24 : u 24 = .bool true := hd 24 (by decide) (by kernel_rfl)
                have t105 : A.eval (.tmp 105) = .bool true := (hv 105 (by kernel_rfl)).trans ((by kernel_rfl : slotV _ _ _ u 105 = u 15).trans e15)
                have t114 : A.eval (.tmp 114) = .bool true := (hv 114 (by kernel_rfl)).trans ((by kernel_rfl : slotV _ _ _ u 114 = u 24).trans e24)
                clear hd hv
                have s105 := evalT t105
                have s114 := evalT t114
                clear t105 t114
                refine fk_run ?_
                go_simp
              refine And.intro (fun u W A hW hBW hd hv hr => ?_) ?_
              · have e25 : u 25 = .bool true := hd 25 (by decide) (by kernel_rfl)
                have t115 : A.eval (.tmp 115) = .bool true := (hv 115 (by kernel_rfl)).trans ((by kernel_rfl : slotV _ _ _ u 115 = u 25).trans e25)
                clear hd hv
                have s115 := evalT t115
                clear t115
                refine fk_run ?_
                go_simp
              exact trivial
            intro u w12 hb hk2 hf
            have e26 : u 26 = .bool true := hf 26 (by decide) (by decide)
            have hb1 := below_undrew hb
            clear hf hb hk2
            have H12 := Lib.hid (H11.out.trans (hb1.mono H11.out.size))
            have WS12 := Lib.hid (WS11.out.on hb1)
            have WP12 := Lib.hid (WP11.out.on hb1)
            have R1112 := Lib.hid (R1111.out.on hb1)
            have R1812 := Lib.hid (R1811.out.on hb1)
            have R2012 := Lib.hid (R2011.out.on hb1)
            clear hb1
            clear H11 WS11 WP11 R1111 R1811 R2011
            generalize w12 = w12 at *
            simp only [List.take, List.drop, wpList, lexPut, Nat.zero_add, Nat.reduceAdd, e26, Act.put, List.setIfInBounds_toArray, List.set_cons_succ, List.set_cons_zero]
            clear e26
            go_wp2
            go_ret
            exact ⟨rfl, H12.out⟩
          · have hd1 : decide (3 < h) = false := decide_eq_false hg
            clear hg hdb
            have H0 : Hid (Below w.heap.size w w) := Lib.hid (Below.refl w.heap.size w)
            go_enter Tryz.func3, Tryz.ntmps3
            have WS0 := Lib.hid (HVS.out)
            have WP0 := Lib.hid (HVP.out)
            go_wp2_with fail
            have hq : Below w.heap.size w (w.alloc (.cells #[.int .i64 idx, .slice aos ls cs, .slice aop lp cp] 24)) := (Below.refl _ _).alloc (Nat.le_refl _) _
            have H1 := Lib.hid (H0.out.trans (hq.mono H0.out.size))
            have WS1 := Lib.hid (WS0.out.on hq)
            have WP1 := Lib.hid (WP0.out.on hq)
            have R111 := Lib.hid (RowIs.new w #[.int .i64 idx, .slice aos ls cs, .slice aop lp cp] 24)
            obtain ⟨b11, hb11⟩ : ∃ b, b = w.heap.size := ⟨_, rfl⟩
            rw [← hb11] at R111 ⊢
            have Z11 : Hid ((w.alloc (.cells #[.int .i64 idx, .slice aos ls cs, .slice aop lp cp] 24)).heap.size = b11 + 1) := Lib.hid (by rw [World.size_alloc, hb11])
            generalize hgw : w.alloc (.cells #[.int .i64 idx, .slice aos ls cs, .slice aop lp cp] 24) = w1 at *
            clear hq hgw hb11 H0 WS0 WP0
            refine (head_calls w1 (HT.out.on H1.out)).mono ?_
            rintro e w2 ⟨rfl, hB⟩
            have H2 := Lib.hid (H1.out.trans (hB.mono H1.out.size))
            have WS2 := Lib.hid (WS1.out.on hB)
            have WP2 := Lib.hid (WP1.out.on hB)
            have R112 := Lib.hid (R111.out.on hB)
            clear hB H1 WS1 WP1 R111
            go_wp2_with fail
            refine (short3_callsM secret m pub w2 hsec hm hpu).mono ?_
            rintro e w3 ⟨rfl, hB⟩
            have H3 := Lib.hid (H2.out.trans (hB.mono H2.out.size))
            have WS3 := Lib.hid (WS2.out.on hB)
            have WP3 := Lib.hid (WP2.out.on hB)
            have R113 := Lib.hid (R112.out.on hB)
            clear hB H2 WS2 WP2 R112
            rw [HSH.out]
            have c110 : w3.cell? ⟨b11, 0, none⟩ = some (.int .i64 idx) := (R113.out.cell 0).trans rfl
            have c111 : w3.cell? ⟨b11, 1, none⟩ = some (.slice aos ls cs) := (R113.out.cell 1).trans rfl
            have c112 : w3.cell? ⟨b11, 2, none⟩ = some (.slice aop lp cp) := (R113.out.cell 2).trans rfl
            go_wp2_with fail
            refine (few03_calls idx _ _ sig path w3 WS3.out WP3.out HSS.out HPS.out).mono ?_
            rintro e w4 ⟨rfl, hB⟩
            clear c110 c111 c112
            have H4 := Lib.hid (H3.out.trans (hB.mono H3.out.size))
            have WS4 := Lib.hid (WS3.out.on hB)
            have WP4 := Lib.hid (WP3.out.on hB)
            have R114 := Lib.hid (R113.out.on hB)
            clear hB H3 WS3 WP3 R113
            rw [HFW.out]
            go_wp2_with fail
            refine (public_bad secret h w4 HBD.out).mono ?_
            rintro e w5 ⟨rfl, rfl⟩
            have H5 := Lib.hid H4.out
            have WS5 := Lib.hid WS4.out
            have WP5 := Lib.hid WP4.out
            have R115 := Lib.hid R114.out
            clear  H4 WS4 WP4 R114
            go_wp2_with fail
            refine (rpublic_bad secret h w5 HBD2.out).mono ?_
            rintro e w6 ⟨rfl, rfl⟩
            have H6 := Lib.hid H5.out
            have WS6 := Lib.hid WS5.out
            have WP6 := Lib.hid WP5.out
            have R116 := Lib.hid R115.out
            clear  H5 WS5 WP5 R115
            go_wp2_with fail
            refine (sign_bad secret m h i w6 HNB.out).mono ?_
            rintro e w7 ⟨rfl, hB⟩
            have H7 := Lib.hid (H6.out.trans (hB.mono H6.out.size))
            have WS7 := Lib.hid (WS6.out.on hB)
            have WP7 := Lib.hid (WP6.out.on hB)
            have R117 := Lib.hid (R116.out.on hB)
            clear hB H6 WS6 WP6 R116
            go_wp2_with fail
            have hq : Below w7.heap.size w7 (w7.alloc (.cells #[.int .i64 0, .slice none 0 0, .slice none 0 0] 24)) := (Below.refl _ _).alloc (Nat.le_refl _) _
            have H8 := Lib.hid (H7.out.trans (hq.mono H7.out.size))
            have WS8 := Lib.hid (WS7.out.on hq)
            have WP8 := Lib.hid (WP7.out.on hq)
            have R118 := Lib.hid (R117.out.on hq)
            have R188 := Lib.hid (RowIs.new w7 #[.int .i64 0, .slice none 0 0, .slice none 0 0] 24)
            obtain ⟨b18, hb18⟩ : ∃ b, b = w7.heap.size := ⟨_, rfl⟩
            rw [← hb18] at R188 ⊢
            have Z18 : Hid ((w7.alloc (.cells #[.int .i64 0, .slice none 0 0, .slice none 0 0] 24)).heap.size = b18 + 1) := Lib.hid (by rw [World.size_alloc, hb18])
            generalize hgw : w7.alloc (.cells #[.int .i64 0, .slice none 0 0, .slice none 0 0] 24) = w8 at *
            clear hq hgw hb18 H7 WS7 WP7 R117
            refine (rsign_bad secret m h i w8 HNB.out).mono ?_
            rintro e w9 ⟨rfl, hB⟩
            have H9 := Lib.hid (H8.out.trans (hB.mono H8.out.size))
            have WS9 := Lib.hid (WS8.out.on hB)
            have WP9 := Lib.hid (WP8.out.on hB)
            have R119 := Lib.hid (R118.out.on hB)
            have R189 := Lib.hid (R188.out.on hB)
            clear hB H8 WS8 WP8 R118 R188
            have c180 : w9.cell? ⟨b18, 0, none⟩ = some (.int .i64 0) := (R189.out.cell 0).trans rfl
            have c181 : w9.cell? ⟨b18, 1, none⟩ = some (.slice none 0 0) := (R189.out.cell 1).trans rfl
            have c182 : w9.cell? ⟨b18, 2, none⟩ = some (.slice none 0 0) := (R189.out.cell 2).trans rfl
            have c180_1 : ∀ o0 : Obj, (w9.alloc o0).cell? ⟨b18, 0, none⟩ = some (.int .i64 0) := fun o0 => ((R189.out.on (below_new (Below.refl w9.heap.size w9) o0)).cell 0).trans rfl
            have c181_1 : ∀ o0 : Obj, (w9.alloc o0).cell? ⟨b18, 1, none⟩ = some (.slice none 0 0) := fun o0 => ((R189.out.on (below_new (Below.refl w9.heap.size w9) o0)).cell 1).trans rfl
            have c182_1 : ∀ o0 : Obj, (w9.alloc o0).cell? ⟨b18, 2, none⟩ = some (.slice none 0 0) := fun o0 => ((R189.out.on (below_new (Below.refl w9.heap.size w9) o0)).cell 2).trans rfl
            go_wp2_with fail
            clear c180 c181 c182 c180_1 c181_1 c182_1
            have hq : Below w9.heap.size w9 (w9.alloc (.cells #[.int .i64 0, .slice none 0 0, .slice none 0 0] 24)) := (Below.refl _ _).alloc (Nat.le_refl _) _
            have H10 := Lib.hid (H9.out.trans (hq.mono H9.out.size))
            have WS10 := Lib.hid (WS9.out.on hq)
            have WP10 := Lib.hid (WP9.out.on hq)
            have R1110 := Lib.hid (R119.out.on hq)
            have R1810 := Lib.hid (R189.out.on hq)
            have R2010 := Lib.hid (RowIs.new w9 #[.int .i64 0, .slice none 0 0, .slice none 0 0] 24)
            obtain ⟨b20, hb20⟩ : ∃ b, b = w9.heap.size := ⟨_, rfl⟩
            rw [← hb20] at R2010 ⊢
            have Z20 : Hid ((w9.alloc (.cells #[.int .i64 0, .slice none 0 0, .slice none 0 0] 24)).heap.size = b20 + 1) := Lib.hid (by rw [World.size_alloc, hb20])
            generalize hgw : w9.alloc (.cells #[.int .i64 0, .slice none 0 0, .slice none 0 0] 24) = w10 at *
            clear hq hgw hb20 H9 WS9 WP9 R119 R189
            refine (same03_calls 0 0 _ _ _ _ [] [] [] [] w10 (strc_nil _) (strc_nil _) (strc_nil _) (strc_nil _)).mono ?_
            rintro e w11 ⟨rfl, hB⟩
            have H11 := Lib.hid (H10.out.trans (hB.mono H10.out.size))
            have WS11 := Lib.hid (WS10.out.on hB)
            have WP11 := Lib.hid (WP10.out.on hB)
            have R1111 := Lib.hid (R1110.out.on hB)
            have R1811 := Lib.hid (R1810.out.on hB)
            have R2011 := Lib.hid (R2010.out.on hB)
            clear hB H10 WS10 WP10 R1110 R1810 R2010
            rw [same3_rfl]
            go_wp2_with fail
            refine wp_region_res 27 (w11.heap.size) (fun ii u => [valF (.bool true), valF (.bool true), valF (.bool true), valF (.bool true), valF (.bool true), valF (.string pub), valF (.string m), valF (.agg #[.int .i64 idx, .slice aos ls cs, .slice aop lp cp]), valF (.bool (verT pub m idx sig path)), valF (.string pub), valF (.string m), valF (.agg #[.int .i64 idx, .slice aos ls cs, .slice aop lp cp]), valF (.bool (verT pub m idx sig path)), valF (.bool true), valF (.bool true), valF (.bool true), valF (.string ByteArray.empty), valF (.string m), valF (.agg #[.int .i64 idx, .slice aos ls cs, .slice aop lp cp]), valF (.bool (verT ByteArray.empty m idx sig path)), valF (.string ByteArray.empty), valF (.string m), valF (.agg #[.int .i64 idx, .slice aos ls cs, .slice aop lp cp]), valF (.bool (verT ByteArray.empty m idx sig path)), valF (.bool true), valF (.bool true), valF (.bool true)].getD ii anyF) (fun jj ii => false) (fun jj bb => False) (by kernel_rfl) (by kernel_rfl) (by kernel_rfl) (by kernel_rfl) (by kernel_rfl) (Nat.le_refl _) ?_ ?_ ?_ ?_ ?_
            · intro ii u hii
              refine AllKStable.at ?_ ii
              exact ⟨.inl (valF_stable _ _), .inl (valF_stable _ _), .inl (valF_stable _ _), .inl (valF_stable _ _), .inl (valF_stable _ _), .inl (valF_stable _ _), .inl (valF_stable _ _), .inl (valF_stable _ _), .inl (valF_stable _ _), .inl (valF_stable _ _), .inl (valF_stable _ _), .inl (valF_stable _ _), .inl (valF_stable _ _), .inl (valF_stable _ _), .inl (valF_stable _ _), .inl (valF_stable _ _), .inl (valF_stable _ _), .inl (valF_stable _ _), .inl (valF_stable _ _), .inl (valF_stable _ _), .inl (valF_stable _ _), .inl (valF_stable _ _), .inl (valF_stable _ _), .inl (valF_stable _ _), .inl (valF_stable _ _), .inl (valF_stable _ _), .inl (valF_stable _ _), trivial⟩
            · exact fun _ _ _ _ _ => rfl
            · exact ⟨fun _ _ _ h => h.elim, fun _ _ _ _ _ h => h.elim⟩
            · refine And.intro (fun u W A hW hBW hd hv hr => ?_) ?_
              · have t13 : A.eval (.tmp 13) = .bool true := (hv 13 (by kernel_rfl)).trans (by kernel_rfl)
                clear hd hv
                have s13 := evalT t13
                clear t13
                refine fk_run ?_
                go_simp
              refine And.intro (fun u W A hW hBW hd hv hr => ?_) ?_
              · have e0 : u 0 = .bool true := hd 0 (by decide) (by kernel_rfl)
                have t90 : A.eval (.tmp 90) = .bool true := (hv 90 (by kernel_rfl)).trans ((by kernel_rfl : slotV _ _ _ u 90 = u 0).trans e0)
                clear hd hv
                have s90 := evalT t90
                clear t90
                refine fk_run ?_
                go_simp
              refine And.intro (fun u W A hW hBW hd hv hr => ?_) ?_
              · have e1 : u 1 = .bool true := hd 1 (by decide) (by kernel_rfl)
                have t22 : A.eval (.tmp 22) = .bool true := (hv 22 (by kernel_rfl)).trans (by kernel_rfl)
                clear hd hv
                have s22 := evalT t22
                clear t22
                refine Or.inl ⟨e1, ?_⟩
                refine fk_run ?_
                go_simp
              refine And.intro (fun u W A hW hBW hd hv hr => ?_) ?_
              · have e1 : u 1 = .bool true := hd 1 (by decide) (by kernel_rfl)
                have e2 : u 2 = .bool true := hd 2 (by decide) (by kernel_rfl)
                have t91 : A.eval (.tmp 91) = .bool true := (hv 91 (by kernel_rfl)).trans ((by kernel_rfl : slotV _ _ _ u 91 = u 1).trans e1)
                have t92 : A.eval (.tmp 92) = .bool true := (hv 92 (by kernel_rfl)).trans ((by kernel_rfl : slotV _ _ _ u 92 = u 2).trans e2)
                clear hd hv
                have s91 := evalT t91
                have s92 := evalT t92
                clear t91 t92
                refine fk_run ?_
                go_simp
              refine And.intro (fun u W A hW hBW hd hv hr => ?_) ?_
              · have e3 : u 3 = .bool true := hd 3 (by decide) (by kernel_rfl)
                have t93 : A.eval (.tmp 93) = .bool true := (hv 93 (by kernel_rfl)).trans ((by kernel_rfl : slotV _ _ _ u 93 = u 3).trans e3)
                clear hd hv
                have s93 := evalT t93
                clear t93
                refine fk_run ?_
                go_simp
              refine And.intro (fun u W A hW hBW hd hv hr => ?_) ?_
              · have e4 : u 4 = .bool true := hd 4 (by decide) (by kernel_rfl)
                have t4 : A.eval (.tmp 4) = .string pub := (hv 4 (by kernel_rfl)).trans (by kernel_rfl)
                clear hd hv
                have s4 := evalT t4
                clear t4
                refine Or.inl ⟨e4, ?_⟩
                refine fk_run ?_
                go_simp
              refine And.intro (fun u W A hW hBW hd hv hr => ?_) ?_
              · have e4 : u 4 = .bool true := hd 4 (by decide) (by kernel_rfl)
                have t3 : A.eval (.tmp 3) = .string m := (hv 3 (by kernel_rfl)).trans (by kernel_rfl)
                clear hd hv
                have s3 := evalT t3
                clear t3
                refine Or.inl ⟨e4, ?_⟩
                refine fk_run ?_
                go_simp
              refine And.intro (fun u W A hW hBW hd hv hr => ?_) ?_
              · have e4 : u 4 = .bool true := hd 4 (by decide) (by kernel_rfl)
                have t11 : A.eval (.tmp 11) = .pointer (some ⟨b11, 0, none⟩) := (hv 11 (by kernel_rfl)).trans (by kernel_rfl)
                have hW1 := below_undrew hW
                have hcl0 : W.cell? ⟨b11, 0, none⟩ = some (.int .i64 idx) := ((R1111.out.on hW1).cell 0).trans rfl
                have hcl1 : W.cell? ⟨b11, 1, none⟩ = some (.slice aos ls cs) := ((R1111.out.on hW1).cell 1).trans rfl
                have hcl2 : W.cell? ⟨b11, 2, none⟩ = some (.slice aop lp cp) := ((R1111.out.on hW1).cell 2).trans rfl
                clear hd hv
                have s11 := evalT t11
                clear t11
                refine Or.inl ⟨e4, ?_⟩
                refine fk_run ?_
                go_simp
              refine And.intro (fun u W A hW hBW hd hv hr => ?_) ?_
              · have e4 : u 4 = .bool true := hd 4 (by decide) (by kernel_rfl)
                have e5 : u 5 = .string pub := hd 5 (by decide) (by kernel_rfl)
                have e6 : u 6 = .string m := hd 6 (by decide) (by kernel_rfl)
                have e7 : u 7 = .agg #[.int .i64 idx, .slice aos ls cs, .slice aop lp cp] := hd 7 (by decide) (by kernel_rfl)
                have t95 : A.eval (.tmp 95) = .string pub := (hv 95 (by kernel_rfl)).trans ((by kernel_rfl : slotV _ _ _ u 95 = u 5).trans e5)
                have t96 : A.eval (.tmp 96) = .string m := (hv 96 (by kernel_rfl)).trans ((by kernel_rfl : slotV _ _ _ u 96 = u 6).trans e6)
                have t97 : A.eval (.tmp 97) = .agg #[.int .i64 idx, .slice aos ls cs, .slice aop lp cp] := (hv 97 (by kernel_rfl)).trans ((by kernel_rfl : slotV _ _ _ u 97 = u 7).trans e7)
                have hW1 := below_undrew hW
                clear hd hv
                have s95 := evalT t95
                have s96 := evalT t96
                have s97 := evalT t97
                clear t95 t96 t97
                refine Or.inl ⟨e4, ?_⟩
                refine fk_enter (f := 15) (args := #[.string pub, .string m, .agg #[.int .i64 idx, .slice aos ls cs, .slice aop lp cp]]) (by go_simp) (fk_val ?_)
                exact verify_calls pub m idx _ _ sig path W (by omega) (by omega) (WS11.out.on hW1) (WP11.out.on hW1) HSZ.out HPZ.out (HT.out.on (H11.out.trans (hW1.mono H11.out.size)))
              refine And.intro (fun u W A hW hBW hd hv hr => ?_) ?_
              · have e4 : u 4 = .bool true := hd 4 (by decide) (by kernel_rfl)
                have t4 : A.eval (.tmp 4) = .string pub := (hv 4 (by kernel_rfl)).trans (by kernel_rfl)
                clear hd hv
                have s4 := evalT t4
                clear t4
                refine Or.inl ⟨e4, ?_⟩
                refine fk_run ?_
                go_simp
              refine And.intro (fun u W A hW hBW hd hv hr => ?_) ?_
              · have e4 : u 4 = .bool true := hd 4 (by decide) (by kernel_rfl)
                have t3 : A.eval (.tmp 3) = .string m := (hv 3 (by kernel_rfl)).trans (by kernel_rfl)
                clear hd hv
                have s3 := evalT t3
                clear t3
                refine Or.inl ⟨e4, ?_⟩
                refine fk_run ?_
                go_simp
              refine And.intro (fun u W A hW hBW hd hv hr => ?_) ?_
              · have e4 : u 4 = .bool true := hd 4 (by decide) (by kernel_rfl)
                have t11 : A.eval (.tmp 11) = .pointer (some ⟨b11, 0, none⟩) := (hv 11 (by kernel_rfl)).trans (by kernel_rfl)
                have hW1 := below_undrew hW
                have hcl0 : W.cell? ⟨b11, 0, none⟩ = some (.int .i64 idx) := ((R1111.out.on hW1).cell 0).trans rfl
                have hcl1 : W.cell? ⟨b11, 1, none⟩ = some (.slice aos ls cs) := ((R1111.out.on hW1).cell 1).trans rfl
                have hcl2 : W.cell? ⟨b11, 2, none⟩ = some (.slice aop lp cp) := ((R1111.out.on hW1).cell 2).trans rfl
                clear hd hv
                have s11 := evalT t11
                clear t11
                refine Or.inl ⟨e4, ?_⟩
                refine fk_run ?_
                go_simp
              refine And.intro (fun u W A hW hBW hd hv hr => ?_) ?_
              · have e4 : u 4 = .bool true := hd 4 (by decide) (by kernel_rfl)
                have e9 : u 9 = .string pub := hd 9 (by decide) (by kernel_rfl)
                have e10 : u 10 = .string m := hd 10 (by decide) (by kernel_rfl)
                have e11 : u 11 = .agg #[.int .i64 idx, .slice aos ls cs, .slice aop lp cp] := hd 11 (by decide) (by kernel_rfl)
                have t99 : A.eval (.tmp 99) = .string pub := (hv 99 (by kernel_rfl)).trans ((by kernel_rfl : slotV _ _ _ u 99 = u 9).trans e9)
                have t100 : A.eval (.tmp 100) = .string m := (hv 100 (by kernel_rfl)).trans ((by kernel_rfl : slotV _ _ _ u 100 = u 10).trans e10)
                have t101 : A.eval (.tmp 101) = .agg #[.int .i64 idx, .slice aos ls cs, .slice aop lp cp] := (hv 101 (by kernel_rfl)).trans ((by kernel_rfl : slotV _ _ _ u 101 = u 11).trans e11)
                have hW1 := below_undrew hW
                clear hd hv
                have s99 := evalT t99
                have s100 := evalT t100
                have s101 := evalT t101
                clear t99 t100 t101
                refine Or.inl ⟨e4, ?_⟩
                refine fk_enter (f := 16) (args := #[.string pub, .string m, .agg #[.int .i64 idx, .slice aos ls cs, .slice aop lp cp]]) (by go_simp) (fk_val ?_)
                exact rverify_calls pub m idx _ _ sig path W (by omega) (by omega) (WS11.out.on hW1) (WP11.out.on hW1) HSZ.out HPZ.out
              refine And.intro (fun u W A hW hBW hd hv hr => ?_) ?_
              · have e4 : u 4 = .bool true := hd 4 (by decide) (by kernel_rfl)
                have e8 : u 8 = .bool (verT pub m idx sig path) := hd 8 (by decide) (by kernel_rfl)
                have e12 : u 12 = .bool (verT pub m idx sig path) := hd 12 (by decide) (by kernel_rfl)
                have t98 : A.eval (.tmp 98) = .bool (verT pub m idx sig path) := (hv 98 (by kernel_rfl)).trans ((by kernel_rfl : slotV _ _ _ u 98 = u 8).trans e8)
                have t102 : A.eval (.tmp 102) = .bool (verT pub m idx sig path) := (hv 102 (by kernel_rfl)).trans ((by kernel_rfl : slotV _ _ _ u 102 = u 12).trans e12)
                clear hd hv
                have s98 := evalT t98
                have s102 := evalT t102
                clear t98 t102
                refine Or.inl ⟨e4, ?_⟩
                refine fk_run ?_
                go_simp
              refine And.intro (fun u W A hW hBW hd hv hr => ?_) ?_
              · have e4 : u 4 = .bool true := hd 4 (by decide) (by kernel_rfl)
                have e13 : u 13 = .bool true := hd 13 (by decide) (by kernel_rfl)
                have t94 : A.eval (.tmp 94) = .bool true := (hv 94 (by kernel_rfl)).trans ((by kernel_rfl : slotV _ _ _ u 94 = u 4).trans e4)
                have t103 : A.eval (.tmp 103) = .bool true := (hv 103 (by kernel_rfl)).trans ((by kernel_rfl : slotV _ _ _ u 103 = u 13).trans e13)
                clear hd hv
                have s94 := evalT t94
                have s103 := evalT t103
                clear t94 t103
                refine fk_run ?_
                go_simp
              refine And.intro (fun u W A hW hBW hd hv hr => ?_) ?_
              · have e14 : u 14 = .bool true := hd 14 (by decide) (by kernel_rfl)
                have t104 : A.eval (.tmp 104) = .bool true := (hv 104 (by kernel_rfl)).trans ((by kernel_rfl : slotV _ _ _ u 104 = u 14).trans e14)
                clear hd hv
                have s104 := evalT t104
                clear t104
                refine fk_run ?_
                go_simp
              refine And.intro (fun u W A hW hBW hd hv hr => ?_) ?_
              · have e15 : u 15 = .bool true := hd 15 (by decide) (by kernel_rfl)
                have t14 : A.eval (.tmp 14) = .string ByteArray.empty := (hv 14 (by kernel_rfl)).trans (by kernel_rfl)
                clear hd hv
                have s14 := evalT t14
                clear t14
                refine Or.inl ⟨e15, ?_⟩
                refine fk_run ?_
                go_simp
              refine And.intro (fun u W A hW hBW hd hv hr => ?_) ?_
              · have e15 : u 15 = .bool true := hd 15 (by decide) (by kernel_rfl)
                have t3 : A.eval (.tmp 3) = .string m := (hv 3 (by kernel_rfl)).trans (by kernel_rfl)
                clear hd hv
                have s3 := evalT t3
                clear t3
                refine Or.inl ⟨e15, ?_⟩
                refine fk_run ?_
                go_simp
              refine And.intro (fun u W A hW hBW hd hv hr => ?_) ?_
              · have e15 : u 15 = .bool true := hd 15 (by decide) (by kernel_rfl)
                have t11 : A.eval (.tmp 11) = .pointer (some ⟨b11, 0, none⟩) := (hv 11 (by kernel_rfl)).trans (by kernel_rfl)
                have hW1 := below_undrew hW
                have hcl0 : W.cell? ⟨b11, 0, none⟩ = some (.int .i64 idx) := ((R1111.out.on hW1).cell 0).trans rfl
                have hcl1 : W.cell? ⟨b11, 1, none⟩ = some (.slice aos ls cs) := ((R1111.out.on hW1).cell 1).trans rfl
                have hcl2 : W.cell? ⟨b11, 2, none⟩ = some (.slice aop lp cp) := ((R1111.out.on hW1).cell 2).trans rfl
                clear hd hv
                have s11 := evalT t11
                clear t11
                refine Or.inl ⟨e15, ?_⟩
                refine fk_run ?_
                go_simp
              refine And.intro (fun u W A hW hBW hd hv hr => ?_) ?_
              · have e15 : u 15 = .bool true := hd 15 (by decide) (by kernel_rfl)
                have e16 : u 16 = .string ByteArray.empty := hd 16 (by decide) (by kernel_rfl)
                have e17 : u 17 = .string m := hd 17 (by decide) (by kernel_rfl)
                have e18 : u 18 = .agg #[.int .i64 idx, .slice aos ls cs, .slice aop lp cp] := hd 18 (by decide) (by kernel_rfl)
                have t106 : A.eval (.tmp 106) = .string ByteArray.empty := (hv 106 (by kernel_rfl)).trans ((by kernel_rfl : slotV _ _ _ u 106 = u 16).trans e16)
                have t107 : A.eval (.tmp 107) = .string m := (hv 107 (by kernel_rfl)).trans ((by kernel_rfl : slotV _ _ _ u 107 = u 17).trans e17)
                have t108 : A.eval (.tmp 108) = .agg #[.int .i64 idx, .slice aos ls cs, .slice aop lp cp] := (hv 108 (by kernel_rfl)).trans ((by kernel_rfl : slotV _ _ _ u 108 = u 18).trans e18)
                have hW1 := below_undrew hW
                clear hd hv
                have s106 := evalT t106
                have s107 := evalT t107
                have s108 := evalT t108
                clear t106 t107 t108
                refine Or.inl ⟨e15, ?_⟩
                refine fk_enter (f := 15) (args := #[.string ByteArray.empty, .string m, .agg #[.int .i64 idx, .slice aos ls cs, .slice aop lp cp]]) (by go_simp) (fk_val ?_)
                exact verify_calls ByteArray.empty m idx _ _ sig path W HKZ.out (by omega) (WS11.out.on hW1) (WP11.out.on hW1) HSZ.out HPZ.out (HT.out.on (H11.out.trans (hW1.mono H11.out.size)))
              refine And.intro (fun u W A hW hBW hd hv hr => ?_) ?_
              · have e15 : u 15 = .bool true := hd 15 (by decide) (by kernel_rfl)
                have t16 : A.eval (.tmp 16) = .string ByteArray.empty := (hv 16 (by kernel_rfl)).trans (by kernel_rfl)
                clear hd hv
                have s16 := evalT t16
                clear t16
                refine Or.inl ⟨e15, ?_⟩
                refine fk_run ?_
                go_simp
              refine And.intro (fun u W A hW hBW hd hv hr => ?_) ?_
              · have e15 : u 15 = .bool true := hd 15 (by decide) (by kernel_rfl)
                have t3 : A.eval (.tmp 3) = .string m := (hv 3 (by kernel_rfl)).trans (by kernel_rfl)
                clear hd hv
                have s3 := evalT t3
                clear t3
                refine Or.inl ⟨e15, ?_⟩
                refine fk_run ?_
                go_simp
              refine And.intro (fun u W A hW hBW hd hv hr => ?_) ?_
              · have e15 : u 15 = .bool true := hd 15 (by decide) (by kernel_rfl)
                have t11 : A.eval (.tmp 11) = .pointer (some ⟨b11, 0, none⟩) := (hv 11 (by kernel_rfl)).trans (by kernel_rfl)
                have hW1 := below_undrew hW
                have hcl0 : W.cell? ⟨b11, 0, none⟩ = some (.int .i64 idx) := ((R1111.out.on hW1).cell 0).trans rfl
                have hcl1 : W.cell? ⟨b11, 1, none⟩ = some (.slice aos ls cs) := ((R1111.out.on hW1).cell 1).trans rfl
                have hcl2 : W.cell? ⟨b11, 2, none⟩ = some (.slice aop lp cp) := ((R1111.out.on hW1).cell 2).trans rfl
                clear hd hv
                have s11 := evalT t11
                clear t11
                refine Or.inl ⟨e15, ?_⟩
                refine fk_run ?_
                go_simp
              refine And.intro (fun u W A hW hBW hd hv hr => ?_) ?_
              · have e15 : u 15 = .bool true := hd 15 (by decide) (by kernel_rfl)
                have e20 : u 20 = .string ByteArray.empty := hd 20 (by decide) (by kernel_rfl)
                have e21 : u 21 = .string m := hd 21 (by decide) (by kernel_rfl)
                have e22 : u 22 = .agg #[.int .i64 idx, .slice aos ls cs, .slice aop lp cp] := hd 22 (by decide) (by kernel_rfl)
                have t110 : A.eval (.tmp 110) = .string ByteArray.empty := (hv 110 (by kernel_rfl)).trans ((by kernel_rfl : slotV _ _ _ u 110 = u 20).trans e20)
                have t111 : A.eval (.tmp 111) = .string m := (hv 111 (by kernel_rfl)).trans ((by kernel_rfl : slotV _ _ _ u 111 = u 21).trans e21)
                have t112 : A.eval (.tmp 112) = .agg #[.int .i64 idx, .slice aos ls cs, .slice aop lp cp] := (hv 112 (by kernel_rfl)).trans ((by kernel_rfl : slotV _ _ _ u 112 = u 22).trans e22)
                have hW1 := below_undrew hW
                clear hd hv
                have s110 := evalT t110
                have s111 := evalT t111
                have s112 := evalT t112
                clear t110 t111 t112
                refine Or.inl ⟨e15, ?_⟩
                refine fk_enter (f := 16) (args := #[.string ByteArray.empty, .string m, .agg #[.int .i64 idx, .slice aos ls cs, .slice aop lp cp]]) (by go_simp) (fk_val ?_)
                exact rverify_calls ByteArray.empty m idx _ _ sig path W HKZ.out (by omega) (WS11.out.on hW1) (WP11.out.on hW1) HSZ.out HPZ.out
              refine And.intro (fun u W A hW hBW hd hv hr => ?_) ?_
              · have e15 : u 15 = .bool true := hd 15 (by decide) (by kernel_rfl)
                have e19 : u 19 = .bool (verT ByteArray.empty m idx sig path) := hd 19 (by decide) (by kernel_rfl)
                have e23 : u 23 = .bool (verT ByteArray.empty m idx sig path) := hd 23 (by decide) (by kernel_rfl)
                have t109 : A.eval (.tmp 109) = .bool (verT ByteArray.empty m idx sig path) := (hv 109 (by kernel_rfl)).trans ((by kernel_rfl : slotV _ _ _ u 109 = u 19).trans e19)
                have t113 : A.eval (.tmp 113) = .bool (verT ByteArray.empty m idx sig path) := (hv 113 (by kernel_rfl)).trans ((by kernel_rfl : slotV _ _ _ u 113 = u 23).trans e23)
                clear hd hv
                have s109 := evalT t109
                have s113 := evalT t113
                clear t109 t113
                refine Or.inl ⟨e15, ?_⟩
                refine fk_run ?_
                go_simp
              refine And.intro (fun u W A hW hBW hd hv hr => ?_) ?_
              · have e15 : u 15 = .bool true := hd 15 (by decide) (by kernel_rfl)
                have e24 : u 24 = .bool true := hd 24 (by decide) (by kernel_rfl)
                have t105 : A.eval (.tmp 105) = .bool true := (hv 105 (by kernel_rfl)).trans ((by kernel_rfl : slotV _ _ _ u 105 = u 15).trans e15)
                have t114 : A.eval (.tmp 114) = .bool true := (hv 114 (by kernel_rfl)).trans ((by kernel_rfl : slotV _ _ _ u 114 = u 24).trans e24)
                clear hd hv
                have s105 := evalT t105
                have s114 := evalT t114
                clear t105 t114
                refine fk_run ?_
                go_simp
              refine And.intro (fun u W A hW hBW hd hv hr => ?_) ?_
              · have e25 : u 25 = .bool true := hd 25 (by decide) (by kernel_rfl)
                have t115 : A.eval (.tmp 115) = .bool true := (hv 115 (by kernel_rfl)).trans ((by kernel_rfl : slotV _ _ _ u 115 = u 25).trans e25)
                clear hd hv
                have s115 := evalT t115
                clear t115
                refine fk_run ?_
                go_simp
              exact trivial
            intro u w12 hb hk2 hf
            have e26 : u 26 = .bool true := hf 26 (by decide) (by decide)
            have hb1 := below_undrew hb
            clear hf hb hk2
            have H12 := Lib.hid (H11.out.trans (hb1.mono H11.out.size))
            have WS12 := Lib.hid (WS11.out.on hb1)
            have WP12 := Lib.hid (WP11.out.on hb1)
            have R1112 := Lib.hid (R1111.out.on hb1)
            have R1812 := Lib.hid (R1811.out.on hb1)
            have R2012 := Lib.hid (R2011.out.on hb1)
            clear hb1
            clear H11 WS11 WP11 R1111 R1811 R2011
            generalize w12 = w12 at *
            simp only [List.take, List.drop, wpList, lexPut, Nat.zero_add, Nat.reduceAdd, e26, Act.put, List.setIfInBounds_toArray, List.set_cons_succ, List.set_cons_zero]
            clear e26
            go_wp2
            go_ret
            exact ⟨rfl, H12.out⟩
namespace sealMatchesReference
theorem walk {w : World} (hT : Tabs w) (s : ByteArray) (ws : s.size ≤ maxLen) (a : Int) (wa : (Lit.int .i64 a).wf = true) (b : Int) (wb : (Lit.int .i64 b).wf = true) (m : ByteArray) (wm : m.size ≤ maxLen) (p : ByteArray) (wp : p.size ≤ maxLen) (v : Value) (x : Int × List ByteArray × List ByteArray) (hx : SealIn w v x) :
    Calls Tryz.prog 3 #[.string s, .int .i64 a, .int .i64 b, .string m, .string p, v] w fun e w' => e = .returned (.bool true) ∧ Below w.heap.size w w' := by
  obtain ⟨⟨vs, vp, rfl, h2, h3⟩, _, _, h4, h5⟩ := hx
  exact match03_law s m p a b x.1 vs vp x.2.1 x.2.2 w ws wm wp h2 h3 h4 h5 hT
end sealMatchesReference
end Go.Proofs.YtpogffdbencfnaaGreatDoor

