import Derived.Test.YtpogffdbencfnaaGreatDoorTrNode
import Derived.Deep.RegionWith
set_option linter.unusedVariables false
namespace Go.Proofs.YtpogffdbencfnaaGreatDoor
open Go Go.RowKit

theorem run_slice_to {b o n cap k : Nat} (h1 : k ≤ cap) (W : World) : (Instr.slice 22 (.slice (some ⟨b, o, none⟩) n cap) none (some (.int .i64 (k : Int))) none).run Tryz.prog W = .ok (.slice (some ⟨b, o, none⟩) k cap) W := by
  go_simp
theorem run_slice_from {b o n cap k : Nat} (h1 : k ≤ n) (h2 : n ≤ cap) (h3 : k < cap) (W : World) : (Instr.slice 22 (.slice (some ⟨b, o, none⟩) n cap) (some (.int .i64 (k : Int))) none none).run Tryz.prog W = .ok (.slice (some ⟨b, o + k, none⟩) (n - k) (cap - k)) W := by
  go_simp
  intro h
  exfalso
  omega
set_option maxRecDepth 100000 in
set_option maxHeartbeats 1000000 in
theorem root_calls (m : Nat) : ∀ (l : List ByteArray) (v : Value) (w : World), l.length = m → IsStrC w v l → (∀ s ∈ l, s.size ≤ 1099511627776) → l.length ≤ 1099511627776 → Tabs w →
    Calls Tryz.prog 21 #[v] w fun e w' => e = .returned (.string (rootT l)) ∧ Below w.heap.size w w' := by
  induction m using Nat.strongRecOn with
  | _ m ih =>
  intro l v w hm hv hs hl hT
  have HV := Lib.hid hv
  obtain ⟨ao, cap, rfl, hlc, hmax, hcells⟩ := hv
  have HT := Lib.hid hT
  have HS := Lib.hid hs
  have HC := Lib.hid hcells
  clear hT hs hcells hmax
  match l, hm, hl, hlc, HV, HS, HC with
  | [], hm, hl, hlc, HV, HS, HC =>
    clear HV HS HC ih
    go_enter Tryz.func21, Tryz.ntmps21
    go_wp2_with fail
    refine (lit1_calls sEmpty w (by decide) HT.out).mono ?_
    rintro e w1 ⟨rfl, h1⟩
    go_wp2
    go_ret
    exact ⟨by rw [rootT_nil]; rfl, h1⟩
  | [s], hm, hl, hlc, HV, HS, HC =>
    obtain ⟨b, o, rfl, hlt, hc⟩ := HC.out 0 (show 0 < 1 by decide)
    have hss := HS.out s (by simp)
    have hc : w.cell? ⟨b, o, none⟩ = some (.string s) := hc
    clear HV HS HC ih
    go_enter Tryz.func21, Tryz.ntmps21
    go_wp2_with fail
    refine (lit2_calls sLeaf s w (by decide) hss HT.out).mono ?_
    rintro e w1 ⟨rfl, h1⟩
    go_wp2
    go_ret
    exact ⟨by rw [rootT_one]; rfl, h1⟩
  | x :: y :: r, hm, hl, hlc, HV, HS, HC =>
    obtain ⟨b, o, rfl, hlt, hc0⟩ := HC.out 0 (by simp)
    clear hc0
    obtain ⟨z, hz⟩ : ∃ z, z = x :: y :: r := ⟨_, rfl⟩
    rw [← hz] at hm hl hlc HV HS HC ⊢
    have h2 : 2 ≤ z.length := by rw [hz]; simp
    clear hz x y r
    have HR := Lib.hid (rootT_many h2)
    have hk1 := half_lt h2
    have hk0 := half_pos h2
    have hsl1 := run_slice_to (b := b) (o := o) (n := z.length) (cap := cap) (k := half z.length) (by omega)
    have hsl2 := run_slice_from (b := b) (o := o) (n := z.length) (cap := cap) (k := half z.length) (by omega) (by omega) (by omega)
    have HV1 := Lib.hid (HV.out.take (half z.length) (by omega))
    have HV2 := Lib.hid (HV.out.drop (half z.length) (by omega))
    have hl1 : (z.take (half z.length)).length = half z.length := by rw [List.length_take]; omega
    have hl2 : (z.drop (half z.length)).length = z.length - half z.length := by rw [List.length_drop]
    have HI1 := Lib.hid (fun w' hb => ih (half z.length) (by omega) (z.take (half z.length)) _ w' hl1 (HV1.out.on hb) (fun s hs => HS.out s (List.mem_of_mem_take hs)) (by omega))
    have HI2 := Lib.hid (fun w' hb => ih (z.length - half z.length) (by omega) (z.drop (half z.length)) _ w' hl2 (HV2.out.on hb) (fun s hs => HS.out s (List.mem_of_mem_drop hs)) (by omega))
    have hh := fun W => half_calls z.length h2 hl W
    clear ih HV HS HC HV1 HV2 hl1 hl2
    have hr1 := root_size (z.take (half z.length))
    have hr2 := root_size (z.drop (half z.length))
    have hn0 : z.length ≠ 0 := by omega
    have hn1 : z.length ≠ 1 := by omega
    obtain ⟨n, hn⟩ : ∃ n, n = z.length := ⟨_, rfl⟩
    obtain ⟨k, hk⟩ : ∃ k, k = half z.length := ⟨_, rfl⟩
    rw [← hk] at hk1 hk0 hsl1 hsl2 HI1 HI2 HR hh hr1 hr2
    rw [← hn] at hsl1 hsl2 HI2 hh hn0 hn1 hk1 ⊢
    generalize rootT (z.take k) = r1 at *
    generalize rootT (z.drop k) = r2 at *
    clear hk hn hm hl hlc h2
    go_enter Tryz.func21, Tryz.ntmps21
    go_wp2_with fail
    refine (hh _).mono ?_
    rintro e w1 ⟨rfl, rfl⟩
    clear hh
    go_wp2_with fail
    refine wp_region_any (by kernel_rfl) ?_
    change wpAny _ _ _ _ _ _ _ (World.drew _)
    refine wpAny_take (i := 0) (v := .slice (some ⟨b, o, none⟩) n cap) rfl (by kernel_rfl) (by kernel_rfl) (by kernel_rfl) (fun _ _ _ h => h) (Or.inl ⟨by kernel_rfl, fun W => by go_simp⟩) ?_
    refine wpAny_take (i := 1) (v := .int .i64 (k : Int)) rfl (by kernel_rfl) (by kernel_rfl) (by kernel_rfl) (fun _ _ _ h => h) (Or.inl ⟨by kernel_rfl, fun W => by go_simp⟩) ?_
    refine wpAny_take (i := 2) (v := .slice (some ⟨b, o, none⟩) k cap) rfl (by kernel_rfl) (by kernel_rfl) (by kernel_rfl) (fun _ _ _ h => h) (Or.inl ⟨by kernel_rfl, fun W => by go_simp⟩) ?_
    refine wpAny_take (i := 4) (v := .slice (some ⟨b, o, none⟩) n cap) rfl (by kernel_rfl) (by kernel_rfl) (by kernel_rfl) (fun _ _ _ h => h) (Or.inl ⟨by kernel_rfl, fun W => by go_simp⟩) ?_
    refine wpAny_take (i := 5) (v := .int .i64 (k : Int)) rfl (by kernel_rfl) (by kernel_rfl) (by kernel_rfl) (fun _ _ _ h => h) (Or.inl ⟨by kernel_rfl, fun W => by go_simp⟩) ?_
    refine wpAny_take (i := 6) (v := .slice (some ⟨b, o + k, none⟩) (n - k) (cap - k)) rfl (by kernel_rfl) (by kernel_rfl) (by kernel_rfl) (fun _ _ _ h => h) (Or.inl ⟨by kernel_rfl, fun W => by go_simp⟩) ?_
    refine wpAny_ready (rs := [3]) (by kernel_rfl) (by simp) ?_
    refine AllReady.cons rfl (fun K hK => ?_) AllReady.nil
    go_simp
    have hb0 := (Below.refl w1.heap.size w1).drew
    refine (HI1.out _ hb0 (HT.out.on hb0)).mono ?_
    rintro e w2 ⟨rfl, h2⟩
    have H2 := Lib.hid (hb0.trans (h2.mono hb0.size))
    clear h2 hb0
    refine hK _ _ ?_
    clear hK K
    refine wpAny_ready (rs := [7]) (by kernel_rfl) (by simp) ?_
    refine AllReady.cons rfl (fun K hK => ?_) AllReady.nil
    go_simp
    refine (HI2.out _ H2.out (HT.out.on H2.out)).mono ?_
    rintro e w3 ⟨rfl, h3⟩
    have H3 := Lib.hid (H2.out.trans (h3.mono H2.out.size))
    clear h3
    refine hK _ _ ?_
    clear hK K
    refine wpAny_ready (rs := [8]) (by kernel_rfl) (by simp) ?_
    refine AllReady.cons rfl (fun K hK => ?_) AllReady.nil
    go_simp
    refine (node_calls r1 r2 w3 (by omega) (by omega) (HT.out.on H3.out)).mono ?_
    rintro e w4 ⟨rfl, h4⟩
    have H4 := Lib.hid (H3.out.trans (h4.mono H3.out.size))
    clear h4
    refine hK _ _ ?_
    clear hK K
    rw [← HR.out]
    refine wpAny_take (i := 9) (v := .string (rootT z)) rfl (by kernel_rfl) (by kernel_rfl) (by kernel_rfl) (fun _ _ _ h => h) (Or.inl ⟨by kernel_rfl, fun W => by go_simp⟩) ?_
    refine wpAny_done (by kernel_rfl) ?_ _
    go_wp2
    go_ret
    exact ⟨rfl, H4.out⟩
end Go.Proofs.YtpogffdbencfnaaGreatDoor
