import Derived.RangeFuncNested
import Derived.RangeFuncBound
import Derived.RangeFuncCalls
import Derived.RangeFuncLeaves
import Derived.Shelf.Abstract
import Derived.Shelf.RegionOpen
import Derived.WalkKit
import Derived.OwnWalkIn
import Derived.TacticsInMore
import Derived.LoopNIn
import Derived.LoopIn
import Derived.Test.YtpogffdbencfnaaGreatDoorSlWalkC
set_option linter.unusedVariables false
namespace Go.Proofs.YtpogffdbencfnaaGreatDoor
open Go Go.RowKit Go.Shelf
attribute [local go_sem] Oper.semAt_some

theorem sdigits_calls (m : ByteArray) (w : World) :
    Calls Tryz.prog 25 #[.string m] w fun e w' => e = .returned (.func (.func 58) #[] #[.pointer (some ⟨w.heap.size, 0, none⟩)]) ∧ w' = w.alloc (.cells #[.string m] 9) := by
  go_enter Tryz.func25, Tryz.ntmps25
  go_wp2
  go_ret
  exact ⟨rfl, rfl⟩
/-- the numbers of the chains, first k -/
def digP (k : Nat) : List (Fin 18) := (List.finRange 18).take k
theorem digP_succ (k : Nat) (h : k < 18) : digP (k + 1) = digP k ++ [⟨k, h⟩] := by
  unfold digP
  rw [List.take_succ_eq_append_getElem (by simpa using h)]
  simp
theorem digP_len (k : Nat) (h : k ≤ 18) : (digP k).length = k := by simp [digP]; omega
theorem digP_map {α : Type} (f : Nat → α) : (digP 18).map (fun x => f x.val) = (List.range 18).map f := by
  rw [show (List.range 18) = (digP 18).map Fin.val from by decide, List.map_map]; rfl
theorem restOf_snoc (l : List Nat) (d : Nat) : restOf (l ++ [d]) = restOf l + (15 - d) := by simp [restOf]
theorem restOf_take (m : ByteArray) (k : Nat) (h : k < 16) : restOf ((hexDigs m).take (k + 1)) = restOf ((hexDigs m).take k) + (15 - (digsT m).getD k 0) := by
  have hl := hexDigs_len m
  rw [List.take_succ_eq_append_getElem (by omega), restOf_snoc]
  congr 2
  unfold digsT
  simp [List.getD, List.getElem?_append_left, hl, h]
theorem getD_two (A : List Nat) (x y : Nat) (n : Nat) (h : A.length = n) : (A ++ [x, y]).getD n 0 = x ∧ (A ++ [x, y]).getD (n + 1) 0 = y := by
  subst h
  constructor <;> simp [List.getD]
theorem dig16 (m : ByteArray) : (digsT m).getD 16 0 = restOf (hexDigs m) / 16 ∧ (digsT m).getD 17 0 = restOf (hexDigs m) % 16 := getD_two (hexDigs m) _ _ 16 (hexDigs_len m)
theorem hexAt (m : ByteArray) (k : Nat) (h : k < 16) : hexd ((sumS m).data.toList.getD k 0) = true ∧ (digsT m).getD k 0 = digN ((sumS m).data.toList.getD k 0) := by
  obtain ⟨h1, h2⟩ := sumS_list m
  have hl := hexDigs_len m
  have hk : k < (sumS m).data.toList.length := by omega
  refine ⟨by rw [show (sumS m).data.toList.getD k 0 = (sumS m).data.toList[k] by simp only [List.getD, List.getElem?_eq_getElem hk, Option.getD_some]]; exact h2 _ (List.getElem_mem hk), ?_⟩
  unfold digsT
  have h3 : (hexDigs m ++ [restOf (hexDigs m) / 16, restOf (hexDigs m) % 16]).getD k 0 = (hexDigs m).getD k 0 := by simp [List.getD, List.getElem?_append_left, hl, h]
  rw [h3]
  unfold hexDigs
  simp only [List.getD, List.getElem?_map, List.getElem?_eq_getElem hk, Option.map_some, Option.getD_some]
theorem index_hex (c : UInt8) (h : hexd c = true) : Lib.indexByte ([48, 49, 50, 51, 52, 53, 54, 55, 56, 57, 97, 98, 99, 100, 101, 102] : List UInt8) c = (digN c : Int) := by
  have : ∀ n : Fin 256, hexd (UInt8.ofNat n.val) = true → Lib.indexByte ([48, 49, 50, 51, 52, 53, 54, 55, 56, 57, 97, 98, 99, 100, 101, 102] : List UInt8) (UInt8.ofNat n.val) = (digN (UInt8.ofNat n.val) : Int) := by decide +kernel
  have hc := this ⟨c.toNat, UInt8.toNat_lt c⟩
  simpa using hc (by simpa using h)
end Go.Proofs.YtpogffdbencfnaaGreatDoor

namespace Go.Proofs.YtpogffdbencfnaaGreatDoor
open Go Go.RowKit Go.Shelf
attribute [local go_sem] Oper.semAt_some

theorem index_at (m s : ByteArray) (hS : sumS m = s) (k : Nat) (hk : k < 16) (hks : k < s.size) : Lib.indexByte hexC.data.toList ((s[k].toNat : Int)).toNat.toUInt8 = (((digsT m).getD k 0 : Nat) : Int) := by
  subst hS
  obtain ⟨h1, h2⟩ := hexAt m k hk
  have hl : k < (sumS m).data.toList.length := by rw [(sumS_list m).1]; exact hk
  have e : (sumS m)[k] = (sumS m).data.toList.getD k 0 := by
    rw [show (sumS m).data.toList.getD k 0 = (sumS m).data.toList[k] by simp only [List.getD, List.getElem?_eq_getElem hl, Option.getD_some]]
    rfl
  rw [Int.toNat_natCast, e, h2, show ((sumS m).data.toList.getD k 0).toNat.toUInt8 = (sumS m).data.toList.getD k 0 by simp]
  exact index_hex _ h1
set_option maxRecDepth 100000 in
set_option maxHeartbeats 1000000 in
theorem digits1_in (n : Nat) (hn : 1 ≤ n) (l Bs n₀ : Nat) (m : ByteArray) (hm : m.size ≤ 1099511627776) (J Jx : List (Fin 18) → World → Prop)
    (hY : ∀ pre (k : Nat) (hk : k < 18) W, J pre W → pre.length < 18 → YieldAt Fence.wide (n - 1) Tryz.prog l #[.int .i64 (k : Int), .int .i64 (((digsT m).getD k 0 : Nat) : Int)] W fun e W' =>
      (e = .returned (.bool true) ∧ J (pre ++ [⟨k, hk⟩]) W' ∧ Below n₀ W W') ∨ (e = .returned (.bool false) ∧ Jx (pre ++ [⟨k, hk⟩]) W'))
    (W : World) (hn₀ : n₀ ≤ W.heap.size) (hJ : AbidesFrom W.heap.size J) (hBs : W.cell? ⟨Bs, 0, none⟩ = some (.string m)) (h0 : J [] W) (hT : Tabs W) :
    CallsIn Fence.wide n Tryz.prog 58 #[.func (.yield l) #[] #[], .pointer (some ⟨Bs, 0, none⟩)] W fun e W' => (∃ v, e = .returned v) ∧
      ((∃ ys, ys = digP 18 ∧ J ys W') ∨ (∃ pre, (∃ k, k ≤ 18 ∧ pre = digP k) ∧ Jx pre W')) := by
  refine callsIn_of_wp Tryz.func58 rfl trivial ?_ rfl
  simp only [Tryz.ntmps58, List.size_toArray, List.length_cons, List.length_nil, Nat.reduceAdd, Nat.reduceSub, Array.replicate_succ, Array.replicate_zero, List.push_toArray, List.append_toArray, List.nil_append, List.cons_append]
  gi_wp2
  refine ⟨trivial, ?_⟩
  refine (callsIn_wide.2 (sum_calls m (by omega) W hT)).mono ?_
  rintro e w1 ⟨rfl, hb1⟩
  have hss := sumS_size m
  have hJ1 := hJ _ _ _ none h0 (grownBy_of_below hb1) (fun r e => by cases e)
  have hB1 : Below n₀ W w1 := hb1.mono hn₀
  generalize hS : sumS m = s at *
  have HS := Lib.hid hS
  clear hS
  gi_wp2
  gi_loopw [3, 11] (fun v3 v11 wr => ∃ k : Nat, v11 = .int .i64 (k : Int) ∧ v3 = .int .i64 (restOf ((hexDigs m).take k) : Int) ∧ k ≤ 16 ∧ J (digP k) wr ∧ Below n₀ W wr) (fun _ v11 _ => 16 - (intOf v11).toNat)
  case atStart => exact ⟨0, rfl, rfl, by omega, hJ1, hB1⟩
  case round =>
    obtain ⟨k, rfl, rfl, hk, hJk, hBk⟩ := hrel
    by_cases hlt : k < 16
    · have hks : k < s.size := by omega
      have HIX := Lib.hid (index_at m s HS.out k hlt hks)
      have HRT := Lib.hid (restOf_take m k hlt)
      have hr1 := rest_le ((hexDigs m).take k)
      have hr2 : ((hexDigs m).take k).length ≤ 16 := by rw [List.length_take]; omega
      have hd15 := dig_le m k
      generalize restOf ((hexDigs m).take k) = r at *
      gi_wp2
      refine ⟨trivial, ?_⟩
      refine (callsIn_wide.2 (Tryz.strings_IndexByte _ _ _)).mono ?_
      rintro e w2 ⟨rfl, rfl⟩
      have hx := HIX.out
      unfold hexC at hx
      rw [hx]
      clear hx HIX
      have HDP := Lib.hid (digP_succ k (by omega))
      obtain ⟨fn, tmps, assign, body, hy, hR⟩ := hY (digP k) k (by omega) w2 hJk (by rw [digP_len _ (by omega)]; omega)
      generalize (digsT m).getD k 0 = d at *
      have HRT2 : Hid (restOf ((hexDigs m).take (k + 1)) = r + (15 - d)) := HRT
      gi_wp2
      refine hR.mono ?_
      rintro e W3 (⟨rfl, hJ3, hk3⟩ | ⟨rfl, hJx3⟩)
      · gi_wp2
        go_roundw
        case rel => exact ⟨k + 1, by go_num, by rw [HRT2.out]; congr 1; omega, by omega, by rw [HDP.out]; exact hJ3, hBk.trans hk3⟩
        case measure => simp [intOf]; omega
      · gi_wp2
        refine bodyPost_ret (results_none rfl _ _ _) rfl ?_
        exact ⟨⟨_, rfl⟩, .inr ⟨_, ⟨k + 1, by omega, by rw [HDP.out]⟩, hJx3⟩⟩
    · obtain rfl : k = 16 := by omega
      have HFT : Hid (restOf ((hexDigs m).take 16) = restOf (hexDigs m)) := Lib.hid (by rw [List.take_of_length_le (by rw [hexDigs_len]; omega)])
      have hr1 := rest_le ((hexDigs m).take 16)
      have hr2 : ((hexDigs m).take 16).length ≤ 16 := by rw [List.length_take]; omega
      have HD16 := Lib.hid (dig16 m)
      have HP16 := Lib.hid (digP_succ 16 (by decide))
      have HP17 := Lib.hid (digP_succ 17 (by decide))
      rw [← HFT.out] at HD16
      clear HFT
      generalize restOf ((hexDigs m).take 16) = r at *
      have hY16 := hY (digP 16) 16 (by decide) wr hJk (by rw [digP_len _ (by decide)]; decide)
      have hY17 := fun W h => hY (digP 17) 17 (by decide) W h (by rw [digP_len _ (by decide)]; decide)
      rw [HD16.out.1] at hY16
      rw [HD16.out.2] at hY17
      obtain ⟨fn, tmps, assign, body, hy, hR⟩ := hY16
      have hr3 : r ≤ 240 := by omega
      obtain ⟨q, hq⟩ : ∃ q, q = r / 16 := ⟨_, rfl⟩
      obtain ⟨t, ht⟩ : ∃ t, t = r % 16 := ⟨_, rfl⟩
      have hq1 : (r : Int) / 16 = (q : Int) := by omega
      have hq2 : (r : Int) % 16 = (t : Int) := by omega
      rw [← hq] at hy
      rw [show ((16 : Nat) : Int) = 16 from rfl] at hy
      rw [← ht] at hY17
      clear hr1 hr2 HD16 hq ht
      gi_wp2
      refine hR.mono ?_
      rintro e W3 (⟨rfl, hJ3, hk3⟩ | ⟨rfl, hJx3⟩)
      · have hJ3' : J (digP 17) W3 := by rw [HP16.out]; exact hJ3
        clear hy hR
        obtain ⟨fn2, tmps2, assign2, body2, hy2, hR2⟩ := hY17 W3 hJ3'
        rw [show ((17 : Nat) : Int) = 17 from rfl] at hy2
        gi_wp2
        refine hR2.mono ?_
        rintro e W4 (⟨rfl, hJ4, hk4⟩ | ⟨rfl, hJx4⟩)
        · gi_wp2
          go_end0
          exact ⟨⟨_, rfl⟩, .inl ⟨_, rfl, by rw [HP17.out]; exact hJ4⟩⟩
        · gi_wp2
          go_end0
          exact ⟨⟨_, rfl⟩, .inr ⟨_, ⟨18, by omega, by rw [HP17.out]⟩, hJx4⟩⟩
      · gi_wp2
        go_end0
        exact ⟨⟨_, rfl⟩, .inr ⟨_, ⟨17, by omega, by rw [HP16.out]⟩, hJx3⟩⟩
def digA (m : ByteArray) (k : Nat) : Nat := (digsT m).getD k 0
theorem digits_stops (n : Nat) (hn : 1 ≤ n) (Bs n₀ : Nat) (m : ByteArray) (hm : m.size ≤ 1099511627776) (w : World) (hn₀ : n₀ ≤ w.heap.size) (hBs : w.cell? ⟨Bs, 0, none⟩ = some (.string m)) (hBs' : Bs < w.heap.size) (hT : Tabs w) :
    SeqStopsK Fence.wide n Tryz.prog 58 #[.pointer (some ⟨Bs, 0, none⟩)] (fun x : Fin 18 => #[Value.int .i64 (x.val : Int), .int .i64 (digA m x.val : Int)]) (Below n₀) (fun ys => ys = digP 18) (fun pre => ∃ k, k ≤ 18 ∧ pre = digP k) 18 w := fun l J Jx W hW hJ _ hY h0 =>
  digits1_in n hn l Bs n₀ m hm J Jx (fun pre k hk W => hY pre ⟨k, hk⟩ W) W (Nat.le_trans hn₀ hW.size) hJ ((hW.cell (p := ⟨Bs, 0, none⟩) hBs').trans hBs) h0 (hT.on hW)
end Go.Proofs.YtpogffdbencfnaaGreatDoor

