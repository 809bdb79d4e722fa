import Derived.Test.YtpogffdbencfnaaGreatDoorSlMadeB
import Derived.Test.YtpogffdbencfnaaGreatDoorSlDig
import Derived.Test.YtpogffdbencfnaaGreatDoorSlHead
import Derived.BigQuiet
set_option linter.unusedVariables false
namespace Go.Proofs.YtpogffdbencfnaaGreatDoor
open Go Go.RowKit

def chkT (m : ByteArray) (sig : List ByteArray) (k : Nat) : List ByteArray := (List.range k).flatMap fun k => chainedT (sig.getD k ByteArray.empty) (15 - (digsT m).getD k 0)
theorem chkT_succ (m : ByteArray) (sig : List ByteArray) (k : Nat) : chkT m sig (k + 1) = chkT m sig k ++ chainedT (sig.getD k ByteArray.empty) (15 - (digsT m).getD k 0) := by
  unfold chkT
  rw [List.range_succ, List.flatMap_append]
  simp
theorem chkT_len (m : ByteArray) (sig : List ByteArray) (k : Nat) : (chkT m sig k).length ≤ 16 * k := by
  induction k with
  | zero => simp [chkT]
  | succ k ih => rw [chkT_succ, List.length_append]; simp only [chainedT, List.length_map, List.length_range]; omega
theorem nats_cell {w : World} {v : Value} {l : List Nat} (h : IsNats w v l) (i : Nat) (hi : i < l.length) : ∃ b o cap, v = .slice (some ⟨b, o, none⟩) l.length cap ∧ b < w.heap.size ∧ w.cell? ⟨b, o + i, none⟩ = some (.int .i64 (l.getD i 0 : Int)) := by
  obtain ⟨ao, cap, e, hc⟩ := h
  obtain ⟨b, o, rfl, hlt, hcl⟩ := hc i hi
  exact ⟨b, o, cap, e, hlt, hcl⟩
theorem strc_lt {w : World} {v : Value} {l : List ByteArray} (h : IsStrC w v l) (i : Nat) (hi : i < l.length) : ∃ b o cap, v = .slice (some ⟨b, o, none⟩) l.length cap ∧ b < w.heap.size ∧ w.cell? ⟨b, o + i, none⟩ = some (.string (l.getD i ByteArray.empty)) := by
  obtain ⟨ao, cap, e, _, _, hc⟩ := h
  obtain ⟨b, o, rfl, hlt, hcl⟩ := hc i hi
  exact ⟨b, o, cap, e, hlt, hcl⟩
theorem sealEnds_succ (m : ByteArray) (sig : List ByteArray) (k : Nat) (h : k < 18) : (sealEnds m sig).take (k + 1) = (sealEnds m sig).take k ++ [chainS (sig.getD k ByteArray.empty) (15 - (digsT m).getD k 0)] := range_take 18 k _ h
theorem sealEnds_small (m : ByteArray) {sig : List ByteArray} (h : ∀ s ∈ sig, s.size ≤ 16) : ∀ s ∈ sealEnds m sig, s.size ≤ 16 := by
  intro s hs
  unfold sealEnds at hs
  obtain ⟨k, _, rfl⟩ := List.mem_map.1 hs
  cases hn : 15 - (digsT m).getD k 0 with
  | zero => exact getD_size h k
  | succ n => rw [chainS, sumS_size]; omega
theorem sealEnds_le (m : ByteArray) {sig : List ByteArray} (h : ∀ s ∈ sig, s.size ≤ 16) : needN (sealEnds m sig) ≤ 70368744177664 ∧ (joinB (sealEnds m sig)).length ≤ 70368744177664 := by
  have hl : (sealEnds m sig).length = 18 := by simp [sealEnds]
  have h1 := need_le 16 (sealEnds m sig) (sealEnds_small m h)
  have h2 := join_le 16 (sealEnds m sig) (sealEnds_small m h) (by decide)
  rw [hl] at h1 h2
  omega
theorem drop_at {l : List ByteArray} {k : Nat} (h : k < l.length) : l.drop k = l.getD k ByteArray.empty :: l.drop (k + 1) := by
  rw [List.drop_eq_getElem_cons h]
  simp [List.getD, h]
theorem checkedT_eq (m : ByteArray) (idx : Nat) (sig path : List ByteArray) : chkT m sig 18 ++ [jB (sealEnds m sig), jB [sLeaf, dg (sealEnds m sig)]] ++ buJ (dg [sLeaf, dg (sealEnds m sig)]) idx path = checkedT m idx sig path := rfl
theorem chained_get (t : ByteArray) (n : Nat) : (chainedT t n).getD n ByteArray.empty = chainS t n := by
  simp [chainedT, List.getD]
/-- going up: what is done, and what is left -/
def ChkInv (w1 : World) (m : ByteArray) (idx : Nat) (sig path : List ByteArray) (W : World) (v6 : Value) (k iN : Nat) (a : ByteArray) : Prop :=
  ∃ O : List ByteArray, Own w1.heap.size W v6 O ∧ Below w1.heap.size w1 W ∧ O.length ≤ 400 + k ∧ O ++ buJ a iN (path.drop k) = checkedT m idx sig path
theorem ChkInv.below {w1 : World} {m : ByteArray} {idx : Nat} {sig path : List ByteArray} {W : World} {v6 : Value} {k iN : Nat} {a : ByteArray} (h : ChkInv w1 m idx sig path W v6 k iN a) : Below w1.heap.size w1 W := by
  obtain ⟨O, _, h, _⟩ := h; exact h
theorem ChkInv.on {w1 : World} {m : ByteArray} {idx : Nat} {sig path : List ByteArray} {W W' : World} {v6 : Value} {k iN : Nat} {a : ByteArray} (h : ChkInv w1 m idx sig path W v6 k iN a) (hb : Below W.heap.size W W') : ChkInv w1 m idx sig path W' v6 k iN a := by
  obtain ⟨O, h1, h2, h3, h4⟩ := h
  exact ⟨O, h1.on hb, h2.trans (hb.mono h2.size), h3, h4⟩
set_option maxRecDepth 100000 in
set_option maxHeartbeats 4000000 in
theorem checked_calls (m : ByteArray) (idx : Nat) (vs vp : Value) (sig path : List ByteArray) (w : World) (hm : m.size ≤ 1099511627776) (hidx : idx ≤ 1000000) (hs : IsStrC w vs sig) (hp : IsStrC w vp path) (hl : sig.length = 18) (hpl : path.length ≤ 8)
    (hss : ∀ s ∈ sig, s.size ≤ 16) (hps : ∀ s ∈ path, s.size ≤ 16) (hT : Tabs w) :
    Calls Tryz.prog 19 #[.string m, .agg #[.int .i64 (idx : Int), vs, vp]] w fun e w' => ∃ v', e = .returned v' ∧ Own w.heap.size w' v' (checkedT m idx sig path) ∧ Below w.heap.size w w' := by
  have HL := Lib.hid hl
  have HSS := Lib.hid hss
  have HPS := Lib.hid hps
  obtain ⟨aos, cs, rfl⟩ := strc_form hs
  obtain ⟨aop, cp, rfl⟩ := strc_form hp
  rw [hl] at hs ⊢
  obtain ⟨lp, hlp⟩ : ∃ lp, lp = path.length := ⟨_, rfl⟩
  rw [← hlp] at hp hpl ⊢
  have HLP := Lib.hid hlp
  have HVS := Lib.hid hs
  have HVP := Lib.hid hp
  obtain ⟨hbx, hB1, hz⟩ := box_one w #[.int .i64 (idx : Int), .slice aos 18 cs, .slice aop lp cp] 24
  have HR0 := Lib.hid hbx
  have HB0 := Lib.hid hB1
  have hz1 : w.heap.size < (w.alloc (.cells #[.int .i64 (idx : Int), .slice aos 18 cs, .slice aop lp cp] 24)).heap.size := by omega
  clear hl hss hps hs hp hlp hbx hB1 hz
  go_enter Tryz.func19, Tryz.ntmps19
  go_wp2_with fail
  generalize hgw : w.alloc (.cells #[.int .i64 (idx : Int), .slice aos 18 cs, .slice aop lp cp] 24) = w0 at *
  clear hgw
  refine (rdigits_calls m w0 (by omega)).mono ?_
  rintro e w1 ⟨vd, rfl, hod, hB⟩
  have HD := Lib.hid hod.nats
  have HR := Lib.hid ((hB.block _ hz1).trans HR0.out)
  have HB := Lib.hid (HB0.out.trans (hB.mono HB0.out.size))
  have hz2 : w.heap.size < w1.heap.size := Nat.lt_of_lt_of_le hz1 hB.size
  have HDL := Lib.hid (digsT_len m)
  obtain ⟨bd, od, cd, rfl, _, _⟩ := nats_cell HD.out 0 (by rw [HDL.out]; decide)
  rw [HDL.out] at HD ⊢
  clear hod hB HR0 HB0 hz1
  go_wp2_with fail
  go_loopw [6, 7, 8] (fun v6 v7 v8 W => ∃ k : Nat, v8 = .int .i64 (k : Int) ∧ k ≤ 18 ∧ Hid (Own3 w1.heap.size w1 W v6 (chkT m sig k) v7 ((sealEnds m sig).take k) (.slice none 0 0) [])) (fun _ _ v8 _ => 18 - (RowKit.intOf v8).toNat)
  case atStart => exact ⟨0, rfl, by omega, Lib.hid ⟨Own.nil _ _, Own.nil _ _, Own.nil _ _, Apart.nil _, Apart.nil _, Apart.nil _, Below.refl _ _⟩⟩
  case round =>
    obtain ⟨k, rfl, hk, HK⟩ := hrel
    have HBW : Hid (Below w.heap.size w wr) := Lib.hid (HB.out.trans (HK.out.below.mono HB.out.size))
    have HRW : Hid (wr.heap[w.heap.size]? = some (.cells #[.int .i64 (idx : Int), .slice aos 18 cs, .slice aop lp cp] 24 (0, 0))) := Lib.hid ((HK.out.below.block _ hz2).trans HR.out)
    have c1 : wr.cell? ⟨w.heap.size, 1, none⟩ = some (.slice aos 18 cs) := by rw [cell_of_row _ _ 1 _ _ _ HRW.out]; rfl
    by_cases hlt : k < 18
    · have HCS := Lib.hid (chkT_succ m sig k)
      have HES := Lib.hid (sealEnds_succ m sig k hlt)
      have hcl := chkT_len m sig k
      have hel : ((sealEnds m sig).take k).length ≤ 18 := by rw [List.length_take]; omega
      have hdle := dig_le m k
      have hsz := getD_size HSS.out k
      obtain ⟨bs, os, csx, he, hbs, hcs⟩ := strc_lt HVS.out k (by rw [HL.out]; exact hlt)
      simp only [Value.slice.injEq] at he
      obtain ⟨rfl, he2, he3⟩ := he
      have HCSX : Hid (wr.cell? ⟨bs, os + k, none⟩ = some (.string (sig.getD k ByteArray.empty))) := Lib.hid (by rw [HBW.out.cell (p := ⟨bs, os + k, none⟩) hbs]; exact hcs)
      obtain ⟨bd2, od2, cdx, hed, hbd, hcd⟩ := nats_cell HD.out k (by rw [HDL.out]; exact hlt)
      simp only [Value.slice.injEq, Option.some.injEq, Addr.mk.injEq] at hed
      obtain ⟨⟨rfl, rfl, _⟩, hd2, hd3⟩ := hed
      have HCD1 : Hid (bd < w1.heap.size ∧ w1.cell? ⟨bd, od + k, none⟩ = some (.int .i64 ((digsT m).getD k 0 : Int))) := Lib.hid ⟨hbd, hcd⟩
      have HCDX : Hid (wr.cell? ⟨bd, od + k, none⟩ = some (.int .i64 ((digsT m).getD k 0 : Int))) := Lib.hid (by rw [HK.out.below.cell (p := ⟨bd, od + k, none⟩) hbd]; exact hcd)
      have hbsw : bs < wr.heap.size := Nat.lt_of_lt_of_le hbs HBW.out.size
      have hbdw : bd < wr.heap.size := Nat.lt_of_lt_of_le hbd HK.out.below.size
      clear he2 he3 hd2 hd3 hcs hcd hbs hbd
      obtain ⟨s, hsE⟩ : ∃ s, s = sig.getD k ByteArray.empty := ⟨_, rfl⟩
      obtain ⟨d, hdE⟩ : ∃ d, d = (digsT m).getD k 0 := ⟨_, rfl⟩
      rw [← hsE] at HCS HES HCSX hsz
      rw [← hdE] at HCS HES HCDX HCD1 hdle
      clear hsE hdE
      have hk18 : (k : Int) < 18 := by omega
      have hszw : w.heap.size < wr.heap.size := Nat.lt_of_lt_of_le hz2 HK.out.below.size
      go_wp2_with fail
      clear c1
      refine wp_region_res 12 (wr.heap.size) (fun ii u => [valF (.pointer (some ⟨w.heap.size, 1, none⟩)), valF (.slice (some ⟨bs, os, none⟩) 18 cs), valF (.int .i64 (k : Int)), valF (.pointer (some ⟨bs, os + k, none⟩)), valF (.string s), valF (.slice (some ⟨bd, od, none⟩) 18 cd), valF (.int .i64 (k : Int)), valF (.pointer (some ⟨bd, od + k, none⟩)), valF (.int .i64 (d : Int)), valF (.int .i64 (15 - (d : Int))), OwnF wr.heap.size (chainedT s (15 - d)), OwnF wr.heap.size (chainedT s (15 - d))].getD ii anyF) (fun jj ii => (jj == 11 && ii == 10)) (fun jj bb => False) (by kernel_rfl) (by kernel_rfl) (by kernel_rfl) (by kernel_rfl) (by kernel_rfl) (Nat.le_refl _) ?_ ?_ ?_ ?_ ?_
      · intro ii u hii
        refine AllKStable.at ?_ ii
        exact ⟨.inl (valF_stable _ _), .inl (valF_stable _ _), .inl (valF_stable _ _), .inl (valF_stable _ _), .inl (valF_stable _ _), .inl (valF_stable _ _), .inl (valF_stable _ _), .inl (valF_stable _ _), .inl (valF_stable _ _), .inl (valF_stable _ _), .inl (ownF_st _ _ _), .inl (ownF_st _ _ _), trivial⟩
      · exact fun _ _ _ _ _ => rfl
      · exact ⟨fun _ _ _ h => h.elim, fun _ _ _ _ _ h => h.elim⟩
      · refine And.intro (fun u W A hW hBW hd hv hr => ?_) ?_
        · have t3 : A.eval (.tmp 3) = .pointer (some ⟨w.heap.size, 0, none⟩) := (hv 3 (by kernel_rfl)).trans (by kernel_rfl)
          clear hd hv
          have s3 := evalT t3
          clear t3
          refine fk_run ?_
          go_simp
        refine And.intro (fun u W A hW hBW hd hv hr => ?_) ?_
        · have e0 : u 0 = .pointer (some ⟨w.heap.size, 1, none⟩) := hd 0 (by decide) (by kernel_rfl)
          have t29 : A.eval (.tmp 29) = .pointer (some ⟨w.heap.size, 1, none⟩) := (hv 29 (by kernel_rfl)).trans ((by kernel_rfl : slotV _ _ _ u 29 = u 0).trans e0)
          have hW1 := below_undrew hW
          have hcl : W.cell? ⟨w.heap.size, 1, none⟩ = some (.slice (some ⟨bs, os, none⟩) 18 cs) := by rw [hW1.cell (p := ⟨w.heap.size, 1, none⟩) hszw, cell_of_row _ _ 1 _ _ _ HRW.out]; rfl
          clear hd hv
          have s29 := evalT t29
          clear t29
          refine fk_run ?_
          go_simp
        refine And.intro (fun u W A hW hBW hd hv hr => ?_) ?_
        · have t8 : A.eval (.tmp 8) = .int .i64 (k : Int) := (hv 8 (by kernel_rfl)).trans (by kernel_rfl)
          clear hd hv
          have s8 := evalT t8
          clear t8
          refine fk_run ?_
          go_simp
        refine And.intro (fun u W A hW hBW hd hv hr => ?_) ?_
        · have e1 : u 1 = .slice (some ⟨bs, os, none⟩) 18 cs := hd 1 (by decide) (by kernel_rfl)
          have e2 : u 2 = .int .i64 (k : Int) := hd 2 (by decide) (by kernel_rfl)
          have t30 : A.eval (.tmp 30) = .slice (some ⟨bs, os, none⟩) 18 cs := (hv 30 (by kernel_rfl)).trans ((by kernel_rfl : slotV _ _ _ u 30 = u 1).trans e1)
          have t31 : A.eval (.tmp 31) = .int .i64 (k : Int) := (hv 31 (by kernel_rfl)).trans ((by kernel_rfl : slotV _ _ _ u 31 = u 2).trans e2)
          clear hd hv
          have s30 := evalT t30
          have s31 := evalT t31
          clear t30 t31
          refine fk_run ?_
          go_simp
        refine And.intro (fun u W A hW hBW hd hv hr => ?_) ?_
        · have e3 : u 3 = .pointer (some ⟨bs, os + k, none⟩) := hd 3 (by decide) (by kernel_rfl)
          have t32 : A.eval (.tmp 32) = .pointer (some ⟨bs, os + k, none⟩) := (hv 32 (by kernel_rfl)).trans ((by kernel_rfl : slotV _ _ _ u 32 = u 3).trans e3)
          have hW1 := below_undrew hW
          have hcl : W.cell? ⟨bs, os + k, none⟩ = some (.string s) := by rw [hW1.cell (p := ⟨bs, os + k, none⟩) hbsw]; exact HCSX.out
          clear hd hv
          have s32 := evalT t32
          clear t32
          refine fk_run ?_
          go_simp
        refine And.intro (fun u W A hW hBW hd hv hr => ?_) ?_
        · have t5 : A.eval (.tmp 5) = .slice (some ⟨bd, od, none⟩) 18 cd := (hv 5 (by kernel_rfl)).trans (by kernel_rfl)
          clear hd hv
          have s5 := evalT t5
          clear t5
          refine fk_run ?_
          go_simp
        refine And.intro (fun u W A hW hBW hd hv hr => ?_) ?_
        · have t8 : A.eval (.tmp 8) = .int .i64 (k : Int) := (hv 8 (by kernel_rfl)).trans (by kernel_rfl)
          clear hd hv
          have s8 := evalT t8
          clear t8
          refine fk_run ?_
          go_simp
        refine And.intro (fun u W A hW hBW hd hv hr => ?_) ?_
        · have e5 : u 5 = .slice (some ⟨bd, od, none⟩) 18 cd := hd 5 (by decide) (by kernel_rfl)
          have e6 : u 6 = .int .i64 (k : Int) := hd 6 (by decide) (by kernel_rfl)
          have t34 : A.eval (.tmp 34) = .slice (some ⟨bd, od, none⟩) 18 cd := (hv 34 (by kernel_rfl)).trans ((by kernel_rfl : slotV _ _ _ u 34 = u 5).trans e5)
          have t35 : A.eval (.tmp 35) = .int .i64 (k : Int) := (hv 35 (by kernel_rfl)).trans ((by kernel_rfl : slotV _ _ _ u 35 = u 6).trans e6)
          clear hd hv
          have s34 := evalT t34
          have s35 := evalT t35
          clear t34 t35
          refine fk_run ?_
          go_simp
        refine And.intro (fun u W A hW hBW hd hv hr => ?_) ?_
        · have e7 : u 7 = .pointer (some ⟨bd, od + k, none⟩) := hd 7 (by decide) (by kernel_rfl)
          have t36 : A.eval (.tmp 36) = .pointer (some ⟨bd, od + k, none⟩) := (hv 36 (by kernel_rfl)).trans ((by kernel_rfl : slotV _ _ _ u 36 = u 7).trans e7)
          have hW1 := below_undrew hW
          have hcl : W.cell? ⟨bd, od + k, none⟩ = some (.int .i64 (d : Int)) := by rw [hW1.cell (p := ⟨bd, od + k, none⟩) hbdw]; exact HCDX.out
          clear hd hv
          have s36 := evalT t36
          clear t36
          refine fk_run ?_
          go_simp
        refine And.intro (fun u W A hW hBW hd hv hr => ?_) ?_
        · have e8 : u 8 = .int .i64 (d : Int) := hd 8 (by decide) (by kernel_rfl)
          have t37 : A.eval (.tmp 37) = .int .i64 (d : Int) := (hv 37 (by kernel_rfl)).trans ((by kernel_rfl : slotV _ _ _ u 37 = u 8).trans e8)
          clear hd hv
          have s37 := evalT t37
          clear t37
          refine fk_run ?_
          go_simp
          try exact IntWalk.i64_in _ (by omega)
        refine And.intro (fun u W A hW hBW hd hv hr => ?_) ?_
        · have e4 : u 4 = .string s := hd 4 (by decide) (by kernel_rfl)
          have e9 : u 9 = .int .i64 (15 - (d : Int)) := hd 9 (by decide) (by kernel_rfl)
          have t33 : A.eval (.tmp 33) = .string s := (hv 33 (by kernel_rfl)).trans ((by kernel_rfl : slotV _ _ _ u 33 = u 4).trans e4)
          have t38 : A.eval (.tmp 38) = .int .i64 (15 - (d : Int)) := (hv 38 (by kernel_rfl)).trans ((by kernel_rfl : slotV _ _ _ u 38 = u 9).trans e9)
          have hW1 := below_undrew hW
          clear hd hv
          have s33 := evalT t33
          have s38 := evalT t38
          clear t33 t38
          refine fk_enter (f := 46) (args := #[.string s, .int .i64 (15 - (d : Int))]) (by go_simp) (fk_own hBW ?_)
          rw [show (15 - (d : Int)) = ((15 - d : Nat) : Int) by omega]
          exact chained_calls s (15 - d) W (by omega) (by omega)
        refine And.intro (fun u W A hW hBW hd hv hr => ?_) ?_
        · have e10 : Own wr.heap.size W (u 10) (chainedT s (15 - d)) := hd 10 (by decide) (by kernel_rfl)
          have t39 : A.eval (.tmp 39) = u 10 := (hv 39 (by kernel_rfl)).trans (by kernel_rfl)
          have hW1 := below_undrew hW
          clear hd hv
          have s39 := evalT t39
          clear t39
          exact fk_step (v := u 10) (by go_simp) (fk_move e10 (fun c hc => .inl ⟨10, by decide, by decide, hc⟩))
        exact trivial
      intro u w2 hb hk2 hf
      have e11 : Own wr.heap.size w2 (u 11) (chainedT s (15 - d)) := hf 11 (by decide) (by decide)
      have hb1 := below_undrew hb
      have HK1 := Lib.hid (HK.out.on HK.out.below.size hb1)
      have HOC := Lib.hid (own_mono e11 HK.out.below.size)
      have HAP : Hid (Apart u6 (u 11)) := Lib.hid (fun b h1 h2 => by
        have a1 := (own_block HK.out.oa b h1).2
        have a2 := (own_block e11 b h2).1
        omega)
      clear hf hb hk2 hb1 e11 HK HCDX HCSX
      simp only [List.take, List.drop, wpList, lexPut, Nat.zero_add, Nat.reduceAdd, Act.put, List.setIfInBounds_toArray, List.set_cons_succ, List.set_cons_zero]
      generalize u 11 = vc at *
      have HCL : Hid ((chainedT s (15 - d)).length = 15 - d + 1) := Lib.hid (by simp [chainedT])
      obtain ⟨n, hnE⟩ : ∃ n, n = 15 - d := ⟨_, rfl⟩
      rw [← hnE] at HCS HES HOC HCL
      have h15 : (15 : Int) - (d : Int) = (n : Int) := by omega
      have H15 := Lib.hid h15
      have hn15 : n ≤ 15 := by omega
      clear hnE h15
      go_wp2_with (at_builtin; refine appX (by kernel_rfl) (.tmp 40) (.tmp 41) rfl rfl rfl HK1.out.oa HOC.out.strc HK1.out.below (Nat.le_refl _) (by have := HCL.out; omega) ?_)
      intro v3 w3 ho3 hk3 hb3
      have HK2 := Lib.hid (HK1.out.seta ho3 hk3 hb3)
      obtain ⟨bc, oc, cc, rfl, hcc⟩ := strc_idx ((hk3 vc _ HOC.out HAP.out).1.strc) n (by rw [HCL.out]; omega)
      rw [chained_get] at hcc
      rw [HCL.out]
      have hcd : w3.cell? ⟨bd, od + k, none⟩ = some (.int .i64 (d : Int)) := by rw [hb3.cell (p := ⟨bd, od + k, none⟩) HCD1.out.1]; exact HCD1.out.2
      have hn1 : (n : Int) < ((n + 1 : Nat) : Int) := by omega
      have hn2 : n < n + 1 := by omega
      clear ho3 hk3 hb3 HK1 HOC HAP HCD1 HCL
      have h15 := H15.out
      go_wp2_with (at_builtin; refine appL (by kernel_rfl) (.tmp 43) (.tmp 52) rfl (l2 := [chainS s n]) rfl rfl rfl (by decide) HK2.out.ob HK2.out.below (Nat.le_refl _) (by omega) ?_)
      intro v4 w4 ho4 hk4 hb4
      have HK3 : Hid (Own3 w1.heap.size w1 w4 v3 (chkT m sig (k + 1)) v4 ((sealEnds m sig).take (k + 1)) (.slice none 0 0) []) := by
        have := HK2.out.setb ho4 hk4 hb4
        rw [HCS.out, HES.out]
        exact Lib.hid this
      clear ho4 hk4 hb4 HK2 HCS HES hcc hcd h15 H15
      go_wp2
      go_round
      case rel => exact ⟨k + 1, by go_num, by omega, HK3⟩
      case measure => simp only [RowKit.intOf]; omega
    · obtain rfl : k = 18 := by omega
      have hcl := chkT_len m sig 18
      have HK1 : Hid (Own3 w1.heap.size w1 wr u6 (chkT m sig 18) u7 (sealEnds m sig) (.slice none 0 0) []) := by
        have := HK.out
        rw [List.take_of_length_le (by simp [sealEnds])] at this
        exact Lib.hid this
      have HJ := Lib.hid (sealEnds_le m HSS.out)
      have HKS : Hid ((jB (sealEnds m sig)).size ≤ 1099511627776) := Lib.hid (jB_small (sealEnds m sig) 16 (sealEnds_small m HSS.out) (by decide) (by simp [sealEnds]))
      have hdgs := dg_size (sealEnds m sig)
      have HLS : Hid ((jB [sLeaf, dg (sealEnds m sig)]).size ≤ 1099511627776) := Lib.hid (jB_small _ 16 (by simp; exact ⟨by decide, by omega⟩) (by decide) (by simp))
      have HCE := Lib.hid (checkedT_eq m idx sig path)
      have hdg2 := dg_size [sLeaf, dg (sealEnds m sig)]
      clear HK
      rw [show ((18 : Nat) : Int) = 18 from rfl]
      go_wp2_with fail
      clear c1
      refine (joined_calls u7 (sealEnds m sig) wr HK1.out.ob.strc.strs HJ.out.1 HJ.out.2).mono ?_
      rintro e w2 ⟨rfl, hB⟩
      rw [jB_eq]
      have HK2 := Lib.hid (HK1.out.on HK1.out.below.size hB)
      clear hB HK1
      go_wp2_with fail
      refine (rsum_calls (jB (sealEnds m sig)) (by have := HKS.out; omega) w2).mono ?_
      rintro e w3 ⟨rfl, rfl⟩
      rw [sum_jB]
      go_wp2_with fail
      refine (jlit_calls [sLeaf, dg (sealEnds m sig)] w3 (by simp; exact ⟨by decide, by omega⟩) (by simp)).mono ?_
      rintro e w4 ⟨rfl, hB⟩
      have HK3 := Lib.hid (HK2.out.on HK2.out.below.size hB)
      clear hB HK2
      go_wp2_with (at_builtin; refine appL (by kernel_rfl) (.tmp 60) (.tmp 63) rfl (l2 := [jB (sealEnds m sig), jB [sLeaf, dg (sealEnds m sig)]]) rfl rfl rfl (by decide) HK3.out.oa HK3.out.below (Nat.le_refl _) (by omega) ?_)
      intro v5 w5 ho5 hk5 hb5
      have HK4 : Hid (Own w1.heap.size w5 v5 (chkT m sig 18 ++ [jB (sealEnds m sig), jB [sLeaf, dg (sealEnds m sig)]]) ∧ Below w1.heap.size w1 w5) := Lib.hid ⟨ho5, hb5⟩
      have HR5 : Hid (w5.heap[w.heap.size]? = some (.cells #[.int .i64 (idx : Int), .slice aos 18 cs, .slice aop lp cp] 24 (0, 0))) := Lib.hid ((hb5.block _ hz2).trans HR.out)
      have c0 : w5.cell? ⟨w.heap.size, 0, none⟩ = some (.int .i64 (idx : Int)) := by rw [cell_of_row _ _ 0 _ _ _ HR5.out]; rfl
      have hO5 : (chkT m sig 18 ++ [jB (sealEnds m sig), jB [sLeaf, dg (sealEnds m sig)]]).length ≤ 400 := by simp; omega
      clear ho5 hk5 hb5 HK3
      go_wp2_with fail
      refine (rsum_calls (jB [sLeaf, dg (sealEnds m sig)]) (by have := HLS.out; omega) w5).mono ?_
      rintro e w6 ⟨rfl, rfl⟩
      rw [sum_jB]
      go_wp2_with fail
      clear c0
      go_loopw [6, 12, 13, 14] (fun v6 v12 v13 v14 W => ∃ (k iN : Nat) (a : ByteArray), v14 = .int .i64 (k : Int) ∧ v13 = .int .i64 (iN : Int) ∧ v12 = .string a ∧ k ≤ lp ∧ a.size ≤ 16 ∧ iN ≤ 1000000 ∧ Hid (ChkInv w1 m idx sig path W v6 k iN a)) (fun _ _ _ v14 _ => lp - (RowKit.intOf v14).toNat)
      case atStart => exact ⟨0, idx, _, rfl, rfl, rfl, by omega, by omega, hidx, Lib.hid ⟨_, HK4.out.1, HK4.out.2, by omega, HCE.out⟩⟩
      case round =>
        obtain ⟨k, iN, a, rfl, rfl, rfl, hk2, ha, hiN, HI⟩ := hrel
        clear HK4
        have HRW : Hid (wr.heap[w.heap.size]? = some (.cells #[.int .i64 (idx : Int), .slice aos 18 cs, .slice aop lp cp] 24 (0, 0))) := Lib.hid ((HI.out.below.block _ hz2).trans HR.out)
        have HBW : Hid (Below w.heap.size w wr) := Lib.hid (HB.out.trans (HI.out.below.mono HB.out.size))
        have c2 : wr.cell? ⟨w.heap.size, 2, none⟩ = some (.slice aop lp cp) := by rw [cell_of_row _ _ 2 _ _ _ HRW.out]; rfl
        by_cases hlt : k < lp
        · obtain ⟨bp, op, cpx, he, hbp, hcp⟩ := strc_lt HVP.out k (by rw [← HLP.out]; exact hlt)
          simp only [Value.slice.injEq] at he
          obtain ⟨rfl, he2, he3⟩ := he
          have cpk : wr.cell? ⟨bp, op + k, none⟩ = some (.string (path.getD k ByteArray.empty)) := by rw [HBW.out.cell (p := ⟨bp, op + k, none⟩) hbp]; exact hcp
          have HDR := Lib.hid (drop_at (l := path) (k := k) (by rw [← HLP.out]; exact hlt))
          have hsz := getD_size HPS.out k
          clear he2 he3 hcp
          generalize path.getD k ByteArray.empty = p at *
          have hklt : (k : Int) < (lp : Int) := by omega
          obtain ⟨q, hq⟩ : ∃ q, q = iN / 2 := ⟨_, rfl⟩
          have hdiv : (iN : Int) / 2 = (q : Int) := by omega
          have HDIV := Lib.hid hdiv
          have hq1 : q ≤ 1000000 := by omega
          have HQ := Lib.hid hq
          clear hdiv hq
          by_cases hod : iN % 2 = 1
          · have hm2 : (iN : Int) % 2 = 1 := by omega
            have HBU : Hid (buJ a iN (path.drop k) = jB [sNode, p, a] :: buJ (dg [sNode, p, a]) q (path.drop (k + 1))) := Lib.hid (by rw [HDR.out, buJ, if_pos hod, ← HQ.out])
            have HM2 := Lib.hid hm2
            clear hod hm2 HDR HQ
            go_wp2_with fail
            refine (node03_calls a p wr (by omega) (by omega)).mono ?_
            rintro e w2 ⟨rfl, hB⟩
            have HI2 := Lib.hid (HI.out.on hB)
            have c2 : w2.cell? ⟨w.heap.size, 2, none⟩ = some (.slice (some ⟨bp, op, none⟩) lp cp) := by rw [cell_of_row _ _ 2 _ _ _ ((HI2.out.below.block _ hz2).trans HR.out)]; rfl
            have cpk2 : w2.cell? ⟨bp, op + k, none⟩ = some (.string p) := by rw [hB.cell (p := ⟨bp, op + k, none⟩) (Nat.lt_of_lt_of_le hbp HBW.out.size)]; exact cpk
            clear hB HI cpk
            have hm2 := HM2.out
            go_wp2_with fail
            refine (node03_calls p a w2 (by omega) (by omega)).mono ?_
            rintro e w3 ⟨rfl, hB⟩
            have HI3 := Lib.hid (HI2.out.on hB)
            clear hB HI2 c2 cpk2 hm2 HM2
            have hjb := jB_big p a (by omega) (by omega)
            have hdgx := dg_size [sNode, p, a]
            obtain ⟨O, hO1, hO2, hO3, hO4⟩ := HI3.out
            have HO1 := Lib.hid hO1
            have HO2 := Lib.hid hO2
            have HO4 := Lib.hid hO4
            clear hO1 hO2 hO4 HI3
            go_wp2_with (at_builtin; refine appL (by kernel_rfl) (.tmp 93) (.tmp 95) rfl (l2 := [jB [sNode, p, a]]) rfl rfl rfl (by decide) HO1.out HO2.out (Nat.le_refl _) (by omega) ?_)
            intro v4 w4 ho4 hk4 hb4
            have HI4 : Hid (ChkInv w1 m idx sig path w4 v4 (k + 1) q (dg [sNode, p, a])) := Lib.hid ⟨_, ho4, hb4, by simp; omega, by rw [List.append_assoc]; rw [HBU.out] at HO4; exact HO4.out⟩
            clear ho4 hk4 hb4 HO1 HO2 HO4 hO3
            go_wp2_with fail
            refine (rsum_calls (jB [sNode, p, a]) hjb w4).mono ?_
            rintro e w5 ⟨rfl, rfl⟩
            rw [sum_jB]
            have hdiv := HDIV.out
            go_wp2
            go_round
            case rel => exact ⟨k + 1, q, _, by go_num, rfl, rfl, by omega, by omega, hq1, HI4⟩
            case measure => simp only [RowKit.intOf]; omega
          · have hm2 : (iN : Int) % 2 = 0 := by omega
            have HBU : Hid (buJ a iN (path.drop k) = jB [sNode, a, p] :: buJ (dg [sNode, a, p]) q (path.drop (k + 1))) := Lib.hid (by rw [HDR.out, buJ, if_neg hod, ← HQ.out])
            have HM2 := Lib.hid hm2
            clear hod hm2 HDR HQ
            go_wp2_with fail
            refine (node03_calls a p wr (by omega) (by omega)).mono ?_
            rintro e w3 ⟨rfl, hB⟩
            have HI3 := Lib.hid (HI.out.on hB)
            have hm2 := HM2.out
            clear hB HI cpk
            have hjb := jB_big a p (by omega) (by omega)
            have hdgx := dg_size [sNode, a, p]
            obtain ⟨O, hO1, hO2, hO3, hO4⟩ := HI3.out
            have HO1 := Lib.hid hO1
            have HO2 := Lib.hid hO2
            have HO4 := Lib.hid hO4
            clear hO1 hO2 hO4 HI3
            go_wp2_with (at_builtin; refine appL (by kernel_rfl) (.tmp 93) (.tmp 95) rfl (l2 := [jB [sNode, a, p]]) rfl rfl rfl (by decide) HO1.out HO2.out (Nat.le_refl _) (by omega) ?_)
            intro v4 w4 ho4 hk4 hb4
            have HI4 : Hid (ChkInv w1 m idx sig path w4 v4 (k + 1) q (dg [sNode, a, p])) := Lib.hid ⟨_, ho4, hb4, by simp; omega, by rw [List.append_assoc]; rw [HBU.out] at HO4; exact HO4.out⟩
            clear ho4 hk4 hb4 HO1 HO2 HO4 hO3
            go_wp2_with fail
            refine (rsum_calls (jB [sNode, a, p]) hjb w4).mono ?_
            rintro e w5 ⟨rfl, rfl⟩
            rw [sum_jB]
            have hdiv := HDIV.out
            go_wp2
            go_round
            case rel => exact ⟨k + 1, q, _, by go_num, rfl, rfl, by omega, by omega, hq1, HI4⟩
            case measure => simp only [RowKit.intOf]; omega
        · have hkl : k = lp := by omega
          have HE : Hid (Own w1.heap.size wr u6 (checkedT m idx sig path) ∧ Below w.heap.size w wr) := by
            obtain ⟨O, h1, h2, _, h3⟩ := HI.out
            rw [List.drop_of_length_le (by rw [← HLP.out]; omega), buJ, List.append_nil] at h3
            rw [← h3]
            exact Lib.hid ⟨h1, HBW.out⟩
          have hnlt : ¬ ((k : Int) < (lp : Int)) := by omega
          clear HI
          go_wp2
          go_ret
          exact ⟨_, rfl, own_mono HE.out.1 HB.out.size, HE.out.2⟩
end Go.Proofs.YtpogffdbencfnaaGreatDoor
