import Derived.Test.YtpogffdbencfnaaGreatDoorSlMadeA
import Derived.Test.YtpogffdbencfnaaGreatDoorKindsE
import Derived.BigQuiet
set_option linter.unusedVariables false
namespace Go.Proofs.YtpogffdbencfnaaGreatDoor
open Go Go.RowKit

def sliceN : Value → Nat
  | .slice _ n _ => n
  | _ => 0
theorem strc_shape {w : World} {v : Value} {l : List ByteArray} (h : IsStrC w v l) : ∃ ao cap, v = .slice ao l.length cap := by
  obtain ⟨ao, cap, e, _⟩ := h
  exact ⟨ao, cap, e⟩
/-- the levels from the bottom: what is done, and what is left -/
def MadeInv (w : World) (secret : ByteArray) (h n : Nat) (W : World) (v7 v8 : Value) (ll : Nat) : Prop :=
  ∃ (j : Nat) (O L : List ByteArray), L.length = ll ∧ L.length = 2 ^ j ∧ Own3 w.heap.size w W v7 O v8 L (.slice none 0 0) [] ∧ O ++ nodesJ j L = madeT secret h n ∧ ∀ s ∈ L, s.size ≤ 1099511627776
set_option maxRecDepth 100000 in
set_option maxHeartbeats 4000000 in
theorem made_calls (secret : ByteArray) (h n : Nat) (w : World) (hs : secret.size ≤ 300) (hh : h ≤ 3) (hn : n ≤ 30) (hn15 : 15 ≤ n) (hT : Tabs w) :
    Calls Tryz.prog 18 #[.string secret, .int .i64 (h : Int), .int .i64 (n : Int)] w fun e w' => ∃ v', e = .returned v' ∧ Own w.heap.size w' v' (madeT secret h n) ∧ Below w.heap.size w w' := by
  have hp8 : 2 ^ h ≤ 8 := Nat.pow_le_pow_right (n := 2) (by decide) hh
  obtain ⟨p, hp⟩ : ∃ p, p = 2 ^ h := ⟨_, rfl⟩
  rw [← hp] at hp8
  have HPW : Hid ((2 : Int) ^ h = (p : Int)) := Lib.hid (by rw [hp]; simp)
  have HPN := Lib.hid hp
  have HPO : Hid (∀ W, Calls Tryz.prog 29 #[.int .i64 (h : Int)] W fun e w' => e = .returned (.int .i64 (p : Int)) ∧ w' = W) := Lib.hid (fun W => by rw [hp]; exact power_calls h (by omega) W)
  clear hp
  go_enter Tryz.func18, Tryz.ntmps18
  go_wp2_with fail
  go_loopw [7, 8, 9] (fun v7 v8 v9 W => ∃ i : Nat, v9 = .int .i64 (i : Int) ∧ i ≤ p ∧ Hid (Own3 w.heap.size w W v7 (outT secret n i) v8 (lvlT secret i) (.slice none 0 0) [])) (fun _ _ v9 _ => p - (RowKit.intOf v9).toNat)
  case atStart => exact ⟨0, rfl, by omega, Lib.hid ⟨Own.nil _ _, Own.nil _ _, Own.nil _ _, Apart.nil _, Apart.nil _, Apart.nil _, Below.refl _ _⟩⟩
  case round =>
    obtain ⟨i, rfl, hi, HO⟩ := hrel
    by_cases hlt : i < p
    · have HLO := Lib.hid (outT_len secret n i)
      have hlo : (outT secret n i).length ≤ 10000 := by rw [HLO.out]; have := Nat.mul_le_mul (show i ≤ 8 by omega) (show 18 * (n + 2) + 2 ≤ 578 by omega); omega
      have hll : (lvlT secret i).length ≤ 10 := by simp [lvlT]; omega
      have hlt' : (i : Int) < (p : Int) := by omega
      go_wp2_with fail
      refine (HPO.out _).mono ?_
      rintro e w1 ⟨rfl, rfl⟩
      go_wp2_with fail
      go_loopw [7, 10, 11] (fun v7 v10 v11 W => ∃ k : Nat, v11 = .int .i64 (k : Int) ∧ k ≤ 18 ∧ Hid (Own3 w.heap.size w W v7 (outT secret n i ++ partT secret n i k) u8 (lvlT secret i) v10 ((endsT secret i).take k))) (fun _ _ v11 _ => 18 - (RowKit.intOf v11).toNat)
      case atStart => exact ⟨0, rfl, by omega, Lib.hid (by simpa [partT] using HO.out)⟩
      case round =>
        obtain ⟨k, rfl, hk, HK⟩ := hrel
        clear HO
        by_cases hlt2 : k < 18
        · have HPL := Lib.hid (partT_len secret n i k)
          have hpl : (partT secret n i k).length ≤ 10000 := by rw [HPL.out]; have := Nat.mul_le_mul (show k ≤ 18 by omega) (show n + 2 ≤ 32 by omega); omega
          have hacc : (outT secret n i ++ partT secret n i k).length ≤ 20000 := by rw [List.length_append]; omega
          have HPS := Lib.hid (partT_succ secret n i k)
          have HES := Lib.hid (range_take 18 k (fun k => chainS (startT secret i k) 15) hlt2)
          have hel : ((endsT secret i).take k).length ≤ 18 := by rw [List.length_take]; omega
          have HSJ := Lib.hid (startJ_size secret i k hs (by omega) (by omega))
          have HBS : Hid (w.heap.size ≤ wr.heap.size) := Lib.hid HK.out.below.size
          obtain ⟨oc, hocE⟩ : ∃ oc, oc = outT secret n i ++ partT secret n i k := ⟨_, rfl⟩
          rw [← hocE] at HK hacc
          have HOCE := Lib.hid hocE
          obtain ⟨ec, hecE⟩ : ∃ ec, ec = (endsT secret i).take k := ⟨_, rfl⟩
          rw [← hecE] at HK hel
          have HECE := Lib.hid hecE
          clear hocE hecE
          go_wp2_with fail
          refine (decimal_calls i (by omega) wr).mono ?_
          rintro e w2 ⟨rfl, rfl⟩
          go_wp2_with fail
          refine (decimal_calls k (by omega) w2).mono ?_
          rintro e w3 ⟨rfl, rfl⟩
          go_wp2_with fail
          refine (jlit_calls [secret, itoaS i, itoaS k] w3 (by
            have a : (itoaS i).size ≤ 21 := itoaS_le i (by omega)
            have b : (itoaS k).size ≤ 21 := itoaS_le k (by omega)
            simp
            omega) (by simp)).mono ?_
          rintro e w4 ⟨rfl, hB⟩
          rw [show jB [secret, itoaS i, itoaS k] = startJ secret i k from rfl]
          have HK1 := Lib.hid (HK.out.on HBS.out hB)
          clear hB HK HBS
          go_wp2_with (at_builtin; refine appL (by kernel_rfl) (.tmp 35) (.tmp 37) rfl (l2 := [startJ secret i k]) rfl rfl rfl (by decide) HK1.out.oa HK1.out.below (Nat.le_refl _) (by omega) ?_)
          intro v5 w5 ho5 hk5 hb5
          have HK2 := Lib.hid (HK1.out.seta ho5 hk5 hb5)
          clear ho5 hk5 hb5 HK1
          go_wp2_with fail
          refine (rsum_calls (startJ secret i k) HSJ.out w5).mono ?_
          rintro e w6 ⟨rfl, rfl⟩
          rw [← startT_eq]
          go_wp2_with fail
          refine (chained_calls (startT secret i k) n w6 (by rw [startT_size]; omega) (by omega)).mono ?_
          rintro e w7 ⟨vc, rfl, hoc, hB⟩
          have HK3 := Lib.hid (HK2.out.on HK2.out.below.size hB)
          have HOC := Lib.hid hoc
          have HCL : Hid ((chainedT (startT secret i k) n).length = n + 1) := Lib.hid (by simp [chainedT])
          have HAP : Hid (Apart v5 vc) := Lib.hid (fun b h1 h2 => by
            have a1 := (own_block HK2.out.oa b h1).2
            have a2 := (own_block HOC.out b h2).1
            omega)
          have HSZ6 := Lib.hid HK2.out.below.size
          clear hoc hB HK2
          go_wp2_with (at_builtin; refine appX (by kernel_rfl) (.tmp 43) (.tmp 44) rfl rfl rfl HK3.out.oa HOC.out.strc HK3.out.below (Nat.le_refl _) (by have := HCL.out; simp; omega) ?_)
          intro v8 w8 ho8 hk8 hb8
          have HK4 := Lib.hid (HK3.out.seta ho8 hk8 hb8)
          obtain ⟨bc, o15, cc, rfl, hc15⟩ := strc_idx ((hk8 vc _ (own_mono HOC.out HSZ6.out) HAP.out).1.strc) 15 (by rw [HCL.out]; omega)
          rw [chainedT_at _ n hn15] at hc15
          rw [HCL.out]
          have hn15' : (15 : Int) < ((n + 1 : Nat) : Int) := by omega
          have hn15n : 15 < n + 1 := by omega
          have hel2 := hel
          clear ho8 hk8 hb8 HK3 HOC HAP HSZ6 HCL
          go_wp2_with (at_builtin; refine appL (by kernel_rfl) (.tmp 46) (.tmp 50) rfl (l2 := [chainS (startT secret i k) 15]) rfl rfl rfl (by decide) HK4.out.oc HK4.out.below (Nat.le_refl _) (by omega) ?_)
          intro v9 w9 ho9 hk9 hb9
          have HK5 : Hid (Own3 w.heap.size w w9 v8 (outT secret n i ++ partT secret n i (k + 1)) u8 (lvlT secret i) v9 ((endsT secret i).take (k + 1))) := by
            have := HK4.out.setc ho9 hk9 hb9
            have e1 : outT secret n i ++ partT secret n i (k + 1) = oc ++ startJ secret i k :: chainedT (startT secret i k) n := by rw [HPS.out, HOCE.out]; simp only [List.append_assoc, List.singleton_append]
            have em : (endsT secret i).take (k + 1) = ec ++ [chainS (startT secret i k) 15] := by rw [HECE.out]; exact HES.out
            rw [e1, em]
            exact Lib.hid this
          clear ho9 hk9 hb9 HK4 hc15 HPS HOCE HES HECE
          go_wp2
          go_round
          case rel => exact ⟨k + 1, by go_num, by omega, HK5⟩
          case measure => simp only [RowKit.intOf]; omega
        · obtain rfl : k = 18 := by omega
          have HOS := Lib.hid (outT_succ secret n i)
          have HPL := Lib.hid (partT_len secret n i 18)
          have hpl : (partT secret n i 18).length ≤ 10000 := by rw [HPL.out]; have := Nat.mul_le_mul (show 18 ≤ 18 by omega) (show n + 2 ≤ 32 by omega); omega
          have hacc : (outT secret n i ++ partT secret n i 18).length ≤ 20000 := by rw [List.length_append]; omega
          have HK1 : Hid (Own3 w.heap.size w wr u7 (outT secret n i ++ partT secret n i 18) u8 (lvlT secret i) u10 (endsT secret i)) := by
            have := HK.out
            rw [List.take_of_length_le (by simp [endsT])] at this
            exact Lib.hid this
          have HJ := Lib.hid (endsT_le secret i)
          have HKE := Lib.hid (keyT_eq secret i)
          have HKS : Hid ((jB (endsT secret i)).size ≤ 1099511627776) := Lib.hid (jB_small (endsT secret i) 16 (fun s h => by rw [endsT_size secret i s h]; omega) (by decide) (by simp [endsT]))
          have HLS : Hid ((jB [sLeaf, keyT secret i]).size ≤ 1099511627776) := Lib.hid (jB_small _ 16 (by simp; exact ⟨by decide, by rw [keyT_size]; omega⟩) (by decide) (by simp))
          clear HK
          obtain ⟨oc, hocE⟩ : ∃ oc, oc = outT secret n i ++ partT secret n i 18 := ⟨_, rfl⟩
          rw [← hocE] at HK1 hacc
          have HOCE := Lib.hid hocE
          clear hocE
          go_wp2_with fail
          refine (joined_calls u10 (endsT secret i) wr HK1.out.oc.strc.strs HJ.out.1 HJ.out.2).mono ?_
          rintro e w2 ⟨rfl, hB⟩
          rw [jB_eq]
          have HK2 := Lib.hid (HK1.out.on HK1.out.below.size hB)
          clear hB HK1
          go_wp2_with fail
          refine (rsum_calls (jB (endsT secret i)) (by have := HKS.out; omega) w2).mono ?_
          rintro e w3 ⟨rfl, rfl⟩
          rw [HKE.out]
          go_wp2_with fail
          refine (jlit_calls [sLeaf, keyT secret i] w3 (by simp; exact ⟨by decide, by rw [keyT_size]; omega⟩) (by simp)).mono ?_
          rintro e w4 ⟨rfl, hB⟩
          have HK3 := Lib.hid (HK2.out.on HK2.out.below.size hB)
          clear hB HK2
          go_wp2_with (at_builtin; refine appL (by kernel_rfl) (.tmp 58) (.tmp 61) rfl (l2 := [jB (endsT secret i), jB [sLeaf, keyT secret i]]) rfl rfl rfl (by decide) HK3.out.oa HK3.out.below (Nat.le_refl _) (by omega) ?_)
          intro v5 w5 ho5 hk5 hb5
          have HK4 := Lib.hid (HK3.out.seta ho5 hk5 hb5)
          clear ho5 hk5 hb5 HK3
          go_wp2_with fail
          refine (rsum_calls (jB [sLeaf, keyT secret i]) (by have := HLS.out; omega) w5).mono ?_
          rintro e w6 ⟨rfl, rfl⟩
          rw [show sumS (jB [sLeaf, keyT secret i]) = leafR (keyT secret i) from rfl]
          go_wp2_with (at_builtin; refine appL (by kernel_rfl) (.tmp 63) (.tmp 66) rfl (l2 := [leafR (keyT secret i)]) rfl rfl rfl (by decide) HK4.out.ob HK4.out.below (Nat.le_refl _) (by omega) ?_)
          intro v7 w7 ho7 hk7 hb7
          have HK5 : Hid (Own3 w.heap.size w w7 v5 (outT secret n (i + 1)) v7 (lvlT secret (i + 1)) (.slice none 0 0) []) := by
            have := (HK4.out.setb ho7 hk7 hb7).nilc
            rw [HOCE.out, List.append_assoc, ← HOS.out] at this
            rw [lvlT_succ]
            exact Lib.hid this
          clear ho7 hk7 hb7 HK4
          go_wp2
          go_round
          case rel => exact ⟨i + 1, by go_num, by omega, HK5⟩
          case measure => simp only [RowKit.intOf]; omega
    · have hip : i = p := by omega
      have HM : Hid (outT secret n i ++ nodesJ h (lvlT secret i) = madeT secret h n) := Lib.hid (by rw [hip, HPN.out, lvlT_all]; rfl)
      have HML : Hid ((madeT secret h n).length ≤ 10100) := Lib.hid (by
        have e1 := outT_len secret n i
        have em := nodesJ_len h (lvlT secret i)
        have e3 : (lvlT secret i).length = i := by simp [lvlT]
        rw [e3] at em
        rw [← HM.out, List.length_append, e1]
        have := Nat.mul_le_mul (show i ≤ 8 by omega) (show 18 * (n + 2) + 2 ≤ 578 by omega)
        have := Nat.mul_le_mul (show h ≤ 3 by omega) (show i ≤ 8 by omega)
        omega)
      have HLZ : Hid (∀ s ∈ lvlT secret i, s.size ≤ 1099511627776) := Lib.hid (fun s hs => by
        unfold lvlT at hs
        obtain ⟨j, _, rfl⟩ := List.mem_map.1 hs
        rw [show leafR (keyT secret j) = dg [sLeaf, keyT secret j] from rfl, dg_size]; omega)
      have HLN : Hid ((lvlT secret i).length = 2 ^ h) := Lib.hid (by simp [lvlT]; rw [hip]; exact HPN.out)
      obtain ⟨ao8, cp8, hv8⟩ := strc_shape HO.out.ob.strc
      have hl8 : (lvlT secret i).length ≤ 8 := by simp [lvlT]; omega
      obtain ⟨l8, hl8e⟩ : ∃ l8, l8 = (lvlT secret i).length := ⟨_, rfl⟩
      rw [← hl8e] at hv8 hl8
      subst hv8
      have HL8 := Lib.hid hl8e
      clear hl8e
      have hlt' : ¬ ((i : Int) < (p : Int)) := by omega
      go_wp2_with fail
      refine (HPO.out _).mono ?_
      rintro e w1 ⟨rfl, rfl⟩
      go_wp2_with fail
      go_loopw [7, 8] (fun v7 v8 W => ∃ (ll : Nat) (ao : Option Addr) (cp : Nat), v8 = .slice ao ll cp ∧ ll ≤ 8 ∧ Hid (MadeInv w secret h n W v7 v8 ll)) (fun _ v8 _ => sliceN v8)
      case atStart => exact ⟨l8, ao8, cp8, rfl, hl8, Lib.hid ⟨h, outT secret n i, lvlT secret i, HL8.out.symm, HLN.out, HO.out, HM.out, HLZ.out⟩⟩
      case round =>
        obtain ⟨ll, ao, cp, rfl, hll, HI⟩ := hrel
        clear HO HM HLZ HLN
        obtain ⟨j, O, L, hLl, hLp, hO, hM, hLz⟩ := HI.out
        have HOL : Hid (O.length ≤ 10100) := Lib.hid (by have := HML.out; rw [← hM, List.length_append] at this; omega)
        by_cases h1 : 1 < ll
        · obtain ⟨q, rfl⟩ : ∃ q, j = q + 1 := by
            cases j with
            | zero => simp at hLp; omega
            | succ q => exact ⟨q, rfl⟩
          have hev : ll = 2 * 2 ^ q := by rw [← hLl, hLp, Nat.pow_succ]; omega
          have HLL := Lib.hid hLl
          have HO1 := Lib.hid hO
          have HM1 : Hid (O ++ pairJ L ++ nodesJ q (pairD L) = madeT secret h n) := Lib.hid (by rw [List.append_assoc]; exact hM)
          have HLZ1 := Lib.hid hLz
          obtain ⟨hq, hqe⟩ : ∃ hq, hq = 2 ^ q := ⟨_, rfl⟩
          rw [← hqe] at hev
          have hev1 : ll ≤ 2 * hq := Nat.le_of_eq hev
          have hev2 : 2 * hq ≤ ll := Nat.le_of_eq hev.symm
          clear hev
          have HQ := Lib.hid hqe
          have HOL1 := HOL.out
          clear hLl hLp hO hM hLz HI hqe HOL
          go_wp2_with fail
          go_loopw [7, 16, 17] (fun v7 v16 v17 W => ∃ m em : Nat, v17 = .int .i64 (em : Int) ∧ m ≤ hq ∧ em ≤ 2 * m ∧ 2 * m ≤ em ∧ Hid (Own3 w.heap.size w W v7 (O ++ (pairJ L).take m) (.slice ao ll cp) L v16 ((pairD L).take m))) (fun _ _ v17 _ => ll - (RowKit.intOf v17).toNat)
          case atStart => exact ⟨0, 0, rfl, by omega, by omega, by omega, Lib.hid (by simpa using HO1.out)⟩
          case round =>
            obtain ⟨m, em, rfl, hm, he2a, he2b, HK⟩ := hrel
            clear HO1
            by_cases hlt : m < hq
            · have HPJ := Lib.hid (pairJ_step m L (by rw [HLL.out]; omega))
              have hlo : (O ++ (pairJ L).take m).length ≤ 10200 := by rw [List.length_append, List.length_take, pairJ_len, HLL.out]; omega
              have hln : ((pairD L).take m).length ≤ 10 := by rw [List.length_take, pairD_len, HLL.out]; omega
              obtain ⟨b, o, cpx, he, hca⟩ := strc_idx HK.out.ob.strc (2 * m) (by rw [HLL.out]; omega)
              obtain ⟨b2, o2, cpx2, he2, hcb⟩ := strc_idx HK.out.ob.strc (2 * m + 1) (by rw [HLL.out]; omega)
              rw [he] at he2
              simp only [Value.slice.injEq, Option.some.injEq, Addr.mk.injEq] at he he2
              obtain ⟨rfl, hxx, hyy⟩ := he
              obtain ⟨⟨rfl, rfl, _⟩, _, hzz⟩ := he2
              clear hxx hyy hzz
              have hsa := getD_size HLZ1.out (2 * m)
              have hsb := getD_size HLZ1.out (2 * m + 1)
              have HCA := Lib.hid hca
              have HCB := Lib.hid hcb
              clear hca hcb
              obtain ⟨oc, hocE⟩ : ∃ oc, oc = O ++ (pairJ L).take m := ⟨_, rfl⟩
              rw [← hocE] at HK hlo
              have HOCE := Lib.hid hocE
              clear hocE
              have hlt2 : (em : Int) + 1 < (ll : Int) := by omega
              have hb1 : (em : Int) < (ll : Int) := by omega
              have hbN1 : em < ll := by omega
              have hbN2 : em + 1 < ll := by omega
              have hbN3 : (0 : Int) ≤ (em : Int) + 1 := by omega
              have HTN : Hid (((em : Int) + 1).toNat = em + 1) := Lib.hid (by omega)
              have hem : 2 * m = em := by omega
              rw [hem] at HCA HCB HPJ
              have HEM := Lib.hid hem
              clear hem
              rw [show 2 * m = em by omega] at hsa hsb
              obtain ⟨sa, hsaE⟩ : ∃ s, s = L.getD em ByteArray.empty := ⟨_, rfl⟩
              obtain ⟨sb, hsbE⟩ : ∃ s, s = L.getD (em + 1) ByteArray.empty := ⟨_, rfl⟩
              rw [← hsaE] at HCA HPJ hsa
              rw [← hsbE] at HCB HPJ hsb
              have HSA := Lib.hid hsaE
              have HSB := Lib.hid hsbE
              clear hsaE hsbE
              have HBK : Hid (∀ c, u7.ownBlock = some c → c ≠ b) := Lib.hid (fun c hc e => HK.out.ab c hc (by rw [e]; rfl))
              have hszr := HK.out.below.size
              have hbw : b < wr.heap.size := World.block_lt_of_cell? wr _ HCA.out
              go_wp2_with fail
              refine wp_region_res2 13 (w.heap.size) (fun ii u => [OwnG w.heap.size oc (fun c => u7.ownBlock = some c ∨ wr.heap.size ≤ c), valF (.slice (some ⟨b, o, none⟩) ll cp), valF (.int .i64 (em : Int)), valF (.pointer (some ⟨b, o + em, none⟩)), valF (.string sa), valF (.slice (some ⟨b, o, none⟩) ll cp), valF (.int .i64 (em : Int)), valF (.int .i64 ((em : Int) + 1)), valF (.pointer (some ⟨b, o + (em + 1), none⟩)), valF (.string sb), valF (.string (jB [sNode, sa, sb])), OwnF w.heap.size ([jB [sNode, sa, sb]]), OwnG w.heap.size (oc ++ [jB [sNode, sa, sb]]) (fun c => u7.ownBlock = some c ∨ wr.heap.size ≤ c)].getD ii anyF) (fun jj ii => (jj == 12 && ii == 0)) (fun jj bb => (jj = 0 ∧ u7.ownBlock = some bb)) (by kernel_rfl) (by kernel_rfl) (by kernel_rfl) (by kernel_rfl) (by kernel_rfl) (hszr) ?_ ?_ ?_ ?_ ?_
              · intro ii u hii
                refine AllKStable.at ?_ ii
                exact ⟨.inl (ownG_st _ _ _ _), .inl (valF_stable _ _), .inl (valF_stable _ _), .inl (valF_stable _ _), .inl (valF_stable _ _), .inl (valF_stable _ _), .inl (valF_stable _ _), .inl (valF_stable _ _), .inl (valF_stable _ _), .inl (valF_stable _ _), .inl (valF_stable _ _), .inl (ownF_st _ _ _), .inl (ownG_st _ _ _ _), trivial⟩
              · exact fun _ _ _ _ _ => rfl
              · refine ⟨fun j c _ h => ?_, fun j j2 c _ _ h h2 => ?_⟩
                · obtain ⟨_, h⟩ := h; exact own_block HK.out.oa c h
                · obtain ⟨h, _⟩ := h; obtain ⟨h2, _⟩ := h2; omega
              · refine And.intro (fun u W A hW hBW hd hv hr hkq => ?_) ?_
                · have t7 : A.eval (.tmp 7) = u7 := (hv 7 (by kernel_rfl)).trans (by kernel_rfl)
                  have hW1 := below_undrew hW
                  have ho0 : Own w.heap.size W u7 oc := ownF_st _ 0 oc wr W u7 ⟨hW1.os, hW1.tape, hW1.output, hW1.size, fun k hk => absurd hk (Nat.not_lt_zero k)⟩ (fun c hc => hr 0 c (by decide) (.inl rfl) ⟨rfl, hc⟩) HK.out.oa
                  clear hd hv
                  have s7 := evalT t7
                  clear t7
                  exact fk_moveG (v := u7) (by go_simp) ho0 (fun c hc => .inl hc) (fun c hc => .inr ⟨rfl, hc⟩)
                refine And.intro (fun u W A hW hBW hd hv hr hkq => ?_) ?_
                · have t8 : A.eval (.tmp 8) = .slice (some ⟨b, o, none⟩) ll cp := (hv 8 (by kernel_rfl)).trans (by kernel_rfl)
                  clear hd hv
                  have s8 := evalT t8
                  clear t8
                  refine fk_run ?_
                  go_simp
                refine And.intro (fun u W A hW hBW hd hv hr hkq => ?_) ?_
                · have t17 : A.eval (.tmp 17) = .int .i64 (em : Int) := (hv 17 (by kernel_rfl)).trans (by kernel_rfl)
                  clear hd hv
                  have s17 := evalT t17
                  clear t17
                  refine fk_run ?_
                  go_simp
                refine And.intro (fun u W A hW hBW hd hv hr hkq => ?_) ?_
                · have e1 : u 1 = .slice (some ⟨b, o, none⟩) ll cp := hd 1 (by decide) (by kernel_rfl)
                  have e2 : u 2 = .int .i64 (em : Int) := hd 2 (by decide) (by kernel_rfl)
                  have t79 : A.eval (.tmp 79) = .slice (some ⟨b, o, none⟩) ll cp := (hv 79 (by kernel_rfl)).trans ((by kernel_rfl : slotV _ _ _ u 79 = u 1).trans e1)
                  have t80 : A.eval (.tmp 80) = .int .i64 (em : Int) := (hv 80 (by kernel_rfl)).trans ((by kernel_rfl : slotV _ _ _ u 80 = u 2).trans e2)
                  clear hd hv
                  have s79 := evalT t79
                  have s80 := evalT t80
                  clear t79 t80
                  refine fk_run ?_
                  go_simp
                refine And.intro (fun u W A hW hBW hd hv hr hkq => ?_) ?_
                · have e3 : u 3 = .pointer (some ⟨b, o + em, none⟩) := hd 3 (by decide) (by kernel_rfl)
                  have t81 : A.eval (.tmp 81) = .pointer (some ⟨b, o + em, none⟩) := (hv 81 (by kernel_rfl)).trans ((by kernel_rfl : slotV _ _ _ u 81 = u 3).trans e3)
                  have hW1 := below_undrew hW
                  have hcl : W.cell? ⟨b, o + em, none⟩ = some (.string sa) := by
                    have hbk : W.heap[b]? = wr.heap[b]? := hkq b hbw (fun j hj h => by obtain ⟨_, h⟩ := h; exact HBK.out b h rfl)
                    rw [World.cell?_of_block (a := ⟨b, o + em, none⟩) hbk]; exact HCA.out
                  clear hd hv
                  have s81 := evalT t81
                  clear t81
                  refine fk_run ?_
                  go_simp
                refine And.intro (fun u W A hW hBW hd hv hr hkq => ?_) ?_
                · have t8 : A.eval (.tmp 8) = .slice (some ⟨b, o, none⟩) ll cp := (hv 8 (by kernel_rfl)).trans (by kernel_rfl)
                  clear hd hv
                  have s8 := evalT t8
                  clear t8
                  refine fk_run ?_
                  go_simp
                refine And.intro (fun u W A hW hBW hd hv hr hkq => ?_) ?_
                · have t17 : A.eval (.tmp 17) = .int .i64 (em : Int) := (hv 17 (by kernel_rfl)).trans (by kernel_rfl)
                  clear hd hv
                  have s17 := evalT t17
                  clear t17
                  refine fk_run ?_
                  go_simp
                refine And.intro (fun u W A hW hBW hd hv hr hkq => ?_) ?_
                · have e6 : u 6 = .int .i64 (em : Int) := hd 6 (by decide) (by kernel_rfl)
                  have t84 : A.eval (.tmp 84) = .int .i64 (em : Int) := (hv 84 (by kernel_rfl)).trans ((by kernel_rfl : slotV _ _ _ u 84 = u 6).trans e6)
                  clear hd hv
                  have s84 := evalT t84
                  clear t84
                  refine fk_run ?_
                  go_simp
                  try exact IntWalk.i64_in _ (by omega)
                refine And.intro (fun u W A hW hBW hd hv hr hkq => ?_) ?_
                · have e5 : u 5 = .slice (some ⟨b, o, none⟩) ll cp := hd 5 (by decide) (by kernel_rfl)
                  have e7 : u 7 = .int .i64 ((em : Int) + 1) := hd 7 (by decide) (by kernel_rfl)
                  have t83 : A.eval (.tmp 83) = .slice (some ⟨b, o, none⟩) ll cp := (hv 83 (by kernel_rfl)).trans ((by kernel_rfl : slotV _ _ _ u 83 = u 5).trans e5)
                  have t85 : A.eval (.tmp 85) = .int .i64 ((em : Int) + 1) := (hv 85 (by kernel_rfl)).trans ((by kernel_rfl : slotV _ _ _ u 85 = u 7).trans e7)
                  clear hd hv
                  have s83 := evalT t83
                  have s85 := evalT t85
                  clear t83 t85
                  refine fk_run ?_
                  have htn := HTN.out
                  go_simp
                refine And.intro (fun u W A hW hBW hd hv hr hkq => ?_) ?_
                · have e8 : u 8 = .pointer (some ⟨b, o + (em + 1), none⟩) := hd 8 (by decide) (by kernel_rfl)
                  have t86 : A.eval (.tmp 86) = .pointer (some ⟨b, o + (em + 1), none⟩) := (hv 86 (by kernel_rfl)).trans ((by kernel_rfl : slotV _ _ _ u 86 = u 8).trans e8)
                  have hW1 := below_undrew hW
                  have hcl : W.cell? ⟨b, o + (em + 1), none⟩ = some (.string sb) := by
                    have hbk : W.heap[b]? = wr.heap[b]? := hkq b hbw (fun j hj h => by obtain ⟨_, h⟩ := h; exact HBK.out b h rfl)
                    rw [World.cell?_of_block (a := ⟨b, o + (em + 1), none⟩) hbk]; exact HCB.out
                  clear hd hv
                  have s86 := evalT t86
                  clear t86
                  refine fk_run ?_
                  go_simp
                refine And.intro (fun u W A hW hBW hd hv hr hkq => ?_) ?_
                · have e4 : u 4 = .string sa := hd 4 (by decide) (by kernel_rfl)
                  have e9 : u 9 = .string sb := hd 9 (by decide) (by kernel_rfl)
                  have t82 : A.eval (.tmp 82) = .string sa := (hv 82 (by kernel_rfl)).trans ((by kernel_rfl : slotV _ _ _ u 82 = u 4).trans e4)
                  have t87 : A.eval (.tmp 87) = .string sb := (hv 87 (by kernel_rfl)).trans ((by kernel_rfl : slotV _ _ _ u 87 = u 9).trans e9)
                  have hW1 := below_undrew hW
                  clear hd hv
                  have s82 := evalT t82
                  have s87 := evalT t87
                  clear t82 t87
                  refine fk_enter (f := 47) (args := #[.string sa, .string sb]) (by go_simp) (fk_val ?_)
                  exact node03_calls sa sb W hsa hsb
                refine And.intro (fun u W A hW hBW hd hv hr hkq => ?_) ?_
                · have e10 : u 10 = .string (jB [sNode, sa, sb]) := hd 10 (by decide) (by kernel_rfl)
                  have t88 : A.eval (.tmp 88) = .string (jB [sNode, sa, sb]) := (hv 88 (by kernel_rfl)).trans ((by kernel_rfl : slotV _ _ _ u 88 = u 10).trans e10)
                  have hW1 := below_undrew hW
                  clear hd hv
                  have s88 := evalT t88
                  clear t88
                  exact fk_step (v := .slice (some ⟨W.heap.size, 0, none⟩) 1 1) (w' := W.alloc (.cells #[.string (jB [sNode, sa, sb])] 9)) (by go_simp) (fk_own_of hBW (own_lit W [jB [sNode, sa, sb]] (show 1 ≤ maxLen by decide)) ((Below.refl _ _).alloc (Nat.le_refl _) _))
                refine And.intro (fun u W A hW hBW hd hv hr hkq => ?_) ?_
                · have e0 : Own w.heap.size W (u 0) oc ∧ ∀ c, (u 0).ownBlock = some c → u7.ownBlock = some c ∨ wr.heap.size ≤ c := hd 0 (by decide) (by kernel_rfl)
                  have e11 : Own w.heap.size W (u 11) ([jB [sNode, sa, sb]]) := hd 11 (by decide) (by kernel_rfl)
                  have t78 : A.eval (.tmp 78) = u 0 := (hv 78 (by kernel_rfl)).trans (by kernel_rfl)
                  have t89 : A.eval (.tmp 89) = u 11 := (hv 89 (by kernel_rfl)).trans (by kernel_rfl)
                  have hW1 := below_undrew hW
                  clear hd hv
                  exact fk_appendG (.tmp 78) (.tmp 89) rfl t78 t89 e0.1 e11.strc hBW (by simp; omega) (fun c hc => .inl ⟨0, by decide, by decide, hc⟩) e0.2 (.inr hW1.size)
                exact trivial
              intro u w2 hb hk2 hf
              have e12 : Own w.heap.size w2 (u 12) (oc ++ [jB [sNode, sa, sb]]) ∧ ∀ c, (u 12).ownBlock = some c → u7.ownBlock = some c ∨ wr.heap.size ≤ c := hf 12 (by decide) (by decide)
              have hb1' := below_undrew hb
              have hkp : Keeps w.heap.size wr w2 u7 (u 12) := keeps_region hb1'.size (fun c hc hn => hk2 c hc (fun j _ h => hn h.2)) hb1'.os hb1'.tape hb1'.output e12.2
              have HK2 := Lib.hid (HK.out.seta e12.1 hkp (HK.out.below.trans hb1'))
              clear hf hb hk2 hkp hb1' e12 HCA HCB HBK
              simp only [List.take, List.drop, lexPut, Nat.zero_add, Nat.reduceAdd, Act.put, List.setIfInBounds_toArray, List.set_cons_succ, List.set_cons_zero]
              generalize u 12 = vo at *
              have HCA : Hid (w2.cell? ⟨b, o + em, none⟩ = some (.string sa)) := Lib.hid (by rw [strc_cellM HK2.out.ob.strc em (by rw [HLL.out]; omega), HSA.out])
              have HCB : Hid (w2.cell? ⟨b, o + (em + 1), none⟩ = some (.string sb)) := Lib.hid (by rw [strc_cellM HK2.out.ob.strc (em + 1) (by rw [HLL.out]; omega), HSB.out])
              have HBK : Hid (∀ c, u16.ownBlock = some c → c ≠ b) := Lib.hid (fun c hc e => HK2.out.bc b rfl (by rw [← e]; exact hc))
              have HRS : Hid (∀ W, Calls Tryz.prog 20 #[.string (jB [sNode, sa, sb])] W fun e w' => e = .returned (.string (dg [sNode, sa, sb])) ∧ Below W.heap.size W w') := Lib.hid (fun W => (rsum_calls (jB [sNode, sa, sb]) (by have := jB_big sa sb hsa hsb; omega) W).mono fun e w' ⟨h1, h2⟩ => ⟨h1, by rw [h2]; exact Below.refl _ _⟩)
              have hszr2 := HK2.out.below.size
              have hbw2 : b < w2.heap.size := World.block_lt_of_cell? w2 _ HCA.out
              go_wp2_with fail
              refine wp_region_res2 14 (w.heap.size) (fun ii u => [OwnG w.heap.size ((pairD L).take m) (fun c => u16.ownBlock = some c ∨ w2.heap.size ≤ c), valF (.slice (some ⟨b, o, none⟩) ll cp), valF (.int .i64 (em : Int)), valF (.pointer (some ⟨b, o + em, none⟩)), valF (.string sa), valF (.slice (some ⟨b, o, none⟩) ll cp), valF (.int .i64 (em : Int)), valF (.int .i64 ((em : Int) + 1)), valF (.pointer (some ⟨b, o + (em + 1), none⟩)), valF (.string sb), valF (.string (jB [sNode, sa, sb])), valF (.string (dg [sNode, sa, sb])), OwnF w.heap.size ([dg [sNode, sa, sb]]), OwnG w.heap.size ((pairD L).take m ++ [dg [sNode, sa, sb]]) (fun c => u16.ownBlock = some c ∨ w2.heap.size ≤ c)].getD ii anyF) (fun jj ii => (jj == 13 && ii == 0)) (fun jj bb => (jj = 0 ∧ u16.ownBlock = some bb)) (by kernel_rfl) (by kernel_rfl) (by kernel_rfl) (by kernel_rfl) (by kernel_rfl) (hszr2) ?_ ?_ ?_ ?_ ?_
              · intro ii u hii
                refine AllKStable.at ?_ ii
                exact ⟨.inl (ownG_st _ _ _ _), .inl (valF_stable _ _), .inl (valF_stable _ _), .inl (valF_stable _ _), .inl (valF_stable _ _), .inl (valF_stable _ _), .inl (valF_stable _ _), .inl (valF_stable _ _), .inl (valF_stable _ _), .inl (valF_stable _ _), .inl (valF_stable _ _), .inl (valF_stable _ _), .inl (ownF_st _ _ _), .inl (ownG_st _ _ _ _), trivial⟩
              · exact fun _ _ _ _ _ => rfl
              · refine ⟨fun j c _ h => ?_, fun j j2 c _ _ h h2 => ?_⟩
                · obtain ⟨_, h⟩ := h; exact own_block HK2.out.oc c h
                · obtain ⟨h, _⟩ := h; obtain ⟨h2, _⟩ := h2; omega
              · refine And.intro (fun u W A hW hBW hd hv hr hkq => ?_) ?_
                · have t16 : A.eval (.tmp 16) = u16 := (hv 16 (by kernel_rfl)).trans (by kernel_rfl)
                  have hW1 := below_undrew hW
                  have ho0 : Own w.heap.size W u16 ((pairD L).take m) := ownF_st _ 0 _ w2 W u16 ⟨hW1.os, hW1.tape, hW1.output, hW1.size, fun k hk => absurd hk (Nat.not_lt_zero k)⟩ (fun c hc => hr 0 c (by decide) (.inl rfl) ⟨rfl, hc⟩) HK2.out.oc
                  clear hd hv
                  have s16 := evalT t16
                  clear t16
                  exact fk_moveG (v := u16) (by go_simp) ho0 (fun c hc => .inl hc) (fun c hc => .inr ⟨rfl, hc⟩)
                refine And.intro (fun u W A hW hBW hd hv hr hkq => ?_) ?_
                · have t8 : A.eval (.tmp 8) = .slice (some ⟨b, o, none⟩) ll cp := (hv 8 (by kernel_rfl)).trans (by kernel_rfl)
                  clear hd hv
                  have s8 := evalT t8
                  clear t8
                  refine fk_run ?_
                  go_simp
                refine And.intro (fun u W A hW hBW hd hv hr hkq => ?_) ?_
                · have t17 : A.eval (.tmp 17) = .int .i64 (em : Int) := (hv 17 (by kernel_rfl)).trans (by kernel_rfl)
                  clear hd hv
                  have s17 := evalT t17
                  clear t17
                  refine fk_run ?_
                  go_simp
                refine And.intro (fun u W A hW hBW hd hv hr hkq => ?_) ?_
                · have e1 : u 1 = .slice (some ⟨b, o, none⟩) ll cp := hd 1 (by decide) (by kernel_rfl)
                  have e2 : u 2 = .int .i64 (em : Int) := hd 2 (by decide) (by kernel_rfl)
                  have t92 : A.eval (.tmp 92) = .slice (some ⟨b, o, none⟩) ll cp := (hv 92 (by kernel_rfl)).trans ((by kernel_rfl : slotV _ _ _ u 92 = u 1).trans e1)
                  have t93 : A.eval (.tmp 93) = .int .i64 (em : Int) := (hv 93 (by kernel_rfl)).trans ((by kernel_rfl : slotV _ _ _ u 93 = u 2).trans e2)
                  clear hd hv
                  have s92 := evalT t92
                  have s93 := evalT t93
                  clear t92 t93
                  refine fk_run ?_
                  go_simp
                refine And.intro (fun u W A hW hBW hd hv hr hkq => ?_) ?_
                · have e3 : u 3 = .pointer (some ⟨b, o + em, none⟩) := hd 3 (by decide) (by kernel_rfl)
                  have t94 : A.eval (.tmp 94) = .pointer (some ⟨b, o + em, none⟩) := (hv 94 (by kernel_rfl)).trans ((by kernel_rfl : slotV _ _ _ u 94 = u 3).trans e3)
                  have hW1 := below_undrew hW
                  have hcl : W.cell? ⟨b, o + em, none⟩ = some (.string sa) := by
                    have hbk : W.heap[b]? = w2.heap[b]? := hkq b hbw2 (fun j hj h => by obtain ⟨_, h⟩ := h; exact HBK.out b h rfl)
                    rw [World.cell?_of_block (a := ⟨b, o + em, none⟩) hbk]; exact HCA.out
                  clear hd hv
                  have s94 := evalT t94
                  clear t94
                  refine fk_run ?_
                  go_simp
                refine And.intro (fun u W A hW hBW hd hv hr hkq => ?_) ?_
                · have t8 : A.eval (.tmp 8) = .slice (some ⟨b, o, none⟩) ll cp := (hv 8 (by kernel_rfl)).trans (by kernel_rfl)
                  clear hd hv
                  have s8 := evalT t8
                  clear t8
                  refine fk_run ?_
                  go_simp
                refine And.intro (fun u W A hW hBW hd hv hr hkq => ?_) ?_
                · have t17 : A.eval (.tmp 17) = .int .i64 (em : Int) := (hv 17 (by kernel_rfl)).trans (by kernel_rfl)
                  clear hd hv
                  have s17 := evalT t17
                  clear t17
                  refine fk_run ?_
                  go_simp
                refine And.intro (fun u W A hW hBW hd hv hr hkq => ?_) ?_
                · have e6 : u 6 = .int .i64 (em : Int) := hd 6 (by decide) (by kernel_rfl)
                  have t97 : A.eval (.tmp 97) = .int .i64 (em : Int) := (hv 97 (by kernel_rfl)).trans ((by kernel_rfl : slotV _ _ _ u 97 = u 6).trans e6)
                  clear hd hv
                  have s97 := evalT t97
                  clear t97
                  refine fk_run ?_
                  go_simp
                  try exact IntWalk.i64_in _ (by omega)
                refine And.intro (fun u W A hW hBW hd hv hr hkq => ?_) ?_
                · have e5 : u 5 = .slice (some ⟨b, o, none⟩) ll cp := hd 5 (by decide) (by kernel_rfl)
                  have e7 : u 7 = .int .i64 ((em : Int) + 1) := hd 7 (by decide) (by kernel_rfl)
                  have t96 : A.eval (.tmp 96) = .slice (some ⟨b, o, none⟩) ll cp := (hv 96 (by kernel_rfl)).trans ((by kernel_rfl : slotV _ _ _ u 96 = u 5).trans e5)
                  have t98 : A.eval (.tmp 98) = .int .i64 ((em : Int) + 1) := (hv 98 (by kernel_rfl)).trans ((by kernel_rfl : slotV _ _ _ u 98 = u 7).trans e7)
                  clear hd hv
                  have s96 := evalT t96
                  have s98 := evalT t98
                  clear t96 t98
                  refine fk_run ?_
                  have htn := HTN.out
                  go_simp
                refine And.intro (fun u W A hW hBW hd hv hr hkq => ?_) ?_
                · have e8 : u 8 = .pointer (some ⟨b, o + (em + 1), none⟩) := hd 8 (by decide) (by kernel_rfl)
                  have t99 : A.eval (.tmp 99) = .pointer (some ⟨b, o + (em + 1), none⟩) := (hv 99 (by kernel_rfl)).trans ((by kernel_rfl : slotV _ _ _ u 99 = u 8).trans e8)
                  have hW1 := below_undrew hW
                  have hcl : W.cell? ⟨b, o + (em + 1), none⟩ = some (.string sb) := by
                    have hbk : W.heap[b]? = w2.heap[b]? := hkq b hbw2 (fun j hj h => by obtain ⟨_, h⟩ := h; exact HBK.out b h rfl)
                    rw [World.cell?_of_block (a := ⟨b, o + (em + 1), none⟩) hbk]; exact HCB.out
                  clear hd hv
                  have s99 := evalT t99
                  clear t99
                  refine fk_run ?_
                  go_simp
                refine And.intro (fun u W A hW hBW hd hv hr hkq => ?_) ?_
                · have e4 : u 4 = .string sa := hd 4 (by decide) (by kernel_rfl)
                  have e9 : u 9 = .string sb := hd 9 (by decide) (by kernel_rfl)
                  have t95 : A.eval (.tmp 95) = .string sa := (hv 95 (by kernel_rfl)).trans ((by kernel_rfl : slotV _ _ _ u 95 = u 4).trans e4)
                  have t100 : A.eval (.tmp 100) = .string sb := (hv 100 (by kernel_rfl)).trans ((by kernel_rfl : slotV _ _ _ u 100 = u 9).trans e9)
                  have hW1 := below_undrew hW
                  clear hd hv
                  have s95 := evalT t95
                  have s100 := evalT t100
                  clear t95 t100
                  refine fk_enter (f := 47) (args := #[.string sa, .string sb]) (by go_simp) (fk_val ?_)
                  exact node03_calls sa sb W hsa hsb
                refine And.intro (fun u W A hW hBW hd hv hr hkq => ?_) ?_
                · have e10 : u 10 = .string (jB [sNode, sa, sb]) := hd 10 (by decide) (by kernel_rfl)
                  have t101 : A.eval (.tmp 101) = .string (jB [sNode, sa, sb]) := (hv 101 (by kernel_rfl)).trans ((by kernel_rfl : slotV _ _ _ u 101 = u 10).trans e10)
                  clear hd hv
                  have s101 := evalT t101
                  clear t101
                  refine fk_enter (f := 20) (args := #[.string (jB [sNode, sa, sb])]) (by go_simp) (fk_val ?_)
                  exact HRS.out W
                refine And.intro (fun u W A hW hBW hd hv hr hkq => ?_) ?_
                · have e11 : u 11 = .string (dg [sNode, sa, sb]) := hd 11 (by decide) (by kernel_rfl)
                  have t102 : A.eval (.tmp 102) = .string (dg [sNode, sa, sb]) := (hv 102 (by kernel_rfl)).trans ((by kernel_rfl : slotV _ _ _ u 102 = u 11).trans e11)
                  have hW1 := below_undrew hW
                  clear hd hv
                  have s102 := evalT t102
                  clear t102
                  exact fk_step (v := .slice (some ⟨W.heap.size, 0, none⟩) 1 1) (w' := W.alloc (.cells #[.string (dg [sNode, sa, sb])] 9)) (by go_simp) (fk_own_of hBW (own_lit W [dg [sNode, sa, sb]] (show 1 ≤ maxLen by decide)) ((Below.refl _ _).alloc (Nat.le_refl _) _))
                refine And.intro (fun u W A hW hBW hd hv hr hkq => ?_) ?_
                · have e0 : Own w.heap.size W (u 0) ((pairD L).take m) ∧ ∀ c, (u 0).ownBlock = some c → u16.ownBlock = some c ∨ w2.heap.size ≤ c := hd 0 (by decide) (by kernel_rfl)
                  have e12 : Own w.heap.size W (u 12) ([dg [sNode, sa, sb]]) := hd 12 (by decide) (by kernel_rfl)
                  have t91 : A.eval (.tmp 91) = u 0 := (hv 91 (by kernel_rfl)).trans (by kernel_rfl)
                  have t103 : A.eval (.tmp 103) = u 12 := (hv 103 (by kernel_rfl)).trans (by kernel_rfl)
                  have hW1 := below_undrew hW
                  clear hd hv
                  exact fk_appendG (.tmp 91) (.tmp 103) rfl t91 t103 e0.1 e12.strc hBW (by simp; omega) (fun c hc => .inl ⟨0, by decide, by decide, hc⟩) e0.2 (.inr hW1.size)
                exact trivial
              intro u w3 hb hk2 hf
              have e13 : Own w.heap.size w3 (u 13) ((pairD L).take m ++ [dg [sNode, sa, sb]]) ∧ ∀ c, (u 13).ownBlock = some c → u16.ownBlock = some c ∨ w2.heap.size ≤ c := hf 13 (by decide) (by decide)
              have hb1' := below_undrew hb
              have hkp : Keeps w.heap.size w2 w3 u16 (u 13) := keeps_region hb1'.size (fun c hc hn => hk2 c hc (fun j _ h => hn h.2)) hb1'.os hb1'.tape hb1'.output e13.2
              have HK3 : Hid (Own3 w.heap.size w w3 vo (O ++ (pairJ L).take (m + 1)) (.slice (some ⟨b, o, none⟩) ll cp) L (u 13) ((pairD L).take (m + 1))) := by
                have := HK2.out.setc e13.1 hkp (HK2.out.below.trans hb1')
                rw [HPJ.out.1, HPJ.out.2, ← List.append_assoc, ← HOCE.out]
                exact Lib.hid this
              clear hf hb hk2 hkp hb1' e13 HCA HCB HBK HRS HK2 hszr2 hbw2
              simp only [List.take, List.drop, lexPut, Nat.zero_add, Nat.reduceAdd, Act.put, List.setIfInBounds_toArray, List.set_cons_succ, List.set_cons_zero]
              generalize u 13 = vn at *
              go_wp2
              go_round
              case rel => exact ⟨m + 1, em + 2, by go_num, by omega, by omega, by omega, HK3⟩
              case measure => simp only [RowKit.intOf]; omega
            · have hmq : m = hq := by omega
              have hJ : Hid ((pairJ L).take m = pairJ L) := Lib.hid (List.take_of_length_le (by rw [pairJ_len, HLL.out]; omega))
              have hDl : Hid ((pairD L).take m = pairD L) := Lib.hid (List.take_of_length_le (by rw [pairD_len, HLL.out]; omega))
              have HK2 : Hid (Own3 w.heap.size w wr u7 (O ++ pairJ L) u16 (pairD L) (.slice none 0 0) []) := by
                have := HK.out.next
                rw [hJ.out, hDl.out] at this
                exact Lib.hid this
              have HNL : Hid ((pairD L).length = hq) := Lib.hid (by rw [pairD_len, HLL.out]; omega)
              obtain ⟨ao9, cp9, hv9⟩ := strc_shape HK2.out.ob.strc
              rw [HNL.out] at hv9
              subst hv9
              have hnlt : ¬ ((em : Int) + 1 < (ll : Int)) := by omega
              clear HK
              go_wp2
              go_round
              case rel => exact ⟨hq, ao9, cp9, rfl, by omega, Lib.hid ⟨q, O ++ pairJ L, pairD L, HNL.out, by rw [HNL.out]; exact HQ.out, HK2.out, HM1.out, pairD_size L⟩⟩
              case measure => simp only [sliceN]; omega
        · have hj0 : j = 0 := by
            cases j with
            | zero => rfl
            | succ q =>
              have := Nat.pow_pos (n := q) (show 0 < 2 by decide)
              rw [hLl, Nat.pow_succ] at hLp
              omega
          subst hj0
          have HOE : Hid (Own w.heap.size wr u7 (madeT secret h n) ∧ Below w.heap.size w wr) := Lib.hid ⟨by rw [← hM]; simpa [nodesJ] using hO.oa, hO.below⟩
          have hnlt : ¬ (1 < (ll : Int)) := by omega
          clear hLl hLp hO hM hLz HI HOL
          go_wp2
          go_ret
          exact ⟨_, rfl, HOE.out.1, HOE.out.2⟩
end Go.Proofs.YtpogffdbencfnaaGreatDoor
