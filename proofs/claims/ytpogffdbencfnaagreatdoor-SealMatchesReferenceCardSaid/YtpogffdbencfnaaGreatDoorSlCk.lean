import Derived.Test.YtpogffdbencfnaaGreatDoorSlWalkC
import Derived.Test.YtpogffdbencfnaaGreatDoorDgRefC
import Derived.Test.YtpogffdbencfnaaGreatDoorSlIt
import Derived.Test.YtpogffdbencfnaaGreatDoorSlMadeB
import Derived.Test.YtpogffdbencfnaaGreatDoorSlHead
import Derived.BigQuiet
set_option linter.unusedVariables false
namespace Go.Proofs.YtpogffdbencfnaaGreatDoor
open Go Go.RowKit

/-! a row of ints of one's own; the reference's digits -/
def OwnI (B : Nat) (w : World) (v : Value) (l : List Nat) : Prop := w.ownsRow B 3 1 v l.length (l.map fun (d : Nat) => Value.int .i64 (d : Int))
theorem OwnI.nil (B : Nat) (w : World) : OwnI B w (.slice none 0 0) [] := World.ownsRow_nil w B _ 1
theorem OwnI.on {B : Nat} {w w' : World} {v : Value} {l : List Nat} (h : OwnI B w v l) (hb : Below w.heap.size w w') : OwnI B w' v l := by
  refine World.ownsRow.kept h (grownBy_of_below hb) ?_
  by_cases hn : v.ownBlock = none
  · exact .inl hn
  · exact .inr hn
/-- a slice of ints, read alone -/
def IsNats (w : World) (v : Value) (l : List Nat) : Prop :=
  ∃ (ao : Option Addr) (cap : Nat), v = .slice ao l.length cap ∧ ∀ i, i < l.length → ∃ b o, ao = some ⟨b, o, none⟩ ∧ b < w.heap.size ∧ w.cell? ⟨b, o + i, none⟩ = some (.int .i64 (l.getD i 0 : Int))
theorem IsNats.on {w w' : World} {v : Value} {l : List Nat} (h : IsNats w v l) (hb : Below w.heap.size w w') : IsNats w' v l := by
  obtain ⟨ao, cap, h1, h4⟩ := h
  refine ⟨ao, cap, h1, fun i hi => ?_⟩
  obtain ⟨b, o, e, hlt, hc⟩ := h4 i hi
  exact ⟨b, o, e, Nat.lt_of_lt_of_le hlt hb.size, by rw [hb.cell (p := ⟨b, o + i, none⟩) hlt]; exact hc⟩
theorem OwnI.nats {B : Nat} {w : World} {v : Value} {l : List Nat} (h : OwnI B w v l) : IsNats w v l := by
  have hlt := World.ownsRow.lt h
  have hcell := @World.ownsRow.cells _ _ _ _ _ _ _ h
  obtain ⟨h1, ⟨rfl, h2⟩ | ⟨g, cap, cur, rfl, h2, h3, h4, h5, h6, h7⟩⟩ := h
  · have : l = [] := List.eq_nil_of_length_eq_zero h2
    subst this
    exact ⟨none, 0, rfl, fun i hi => by simp at hi⟩
  · refine ⟨some ⟨g, 0, none⟩, cap, rfl, fun i hi => ⟨g, 0, rfl, (hlt g rfl).2, ?_⟩⟩
    have := hcell rfl i (.int .i64 (l.getD i 0 : Int)) (by simp [List.getD, hi])
    rwa [Lib.add_plain] at this
theorem lit_cells (w : World) (ns : List Value) (T : TypeId) : ∀ j u, ns[j]? = some u → (w.alloc (.cells ns.toArray T)).cell? ((⟨w.heap.size, 0, none⟩ : Addr).add j) = some u := by
  intro j u hj
  rw [Lib.add_plain, Nat.zero_add, World.cell?_alloc_new]
  simpa using hj
/-- append(v, ints..), the literal laid into a new block -/
theorem appI {ops : Array Oper} {rest : List Oper} {o : Oper} {a : Act} {Q : Exit → Act → World → Prop} (hgd : o.guard = none) (s x : Operand)
    (ho : o.op = .call { callee := .builtin .append, args := #[s, x], argTypes := #[53, 53] })
    {B n : Nat} {w0 w : World} {v : Value} {acc ns : List Nat} (hs : a.eval s = v) (hO : OwnI B w v acc) (hb : Below B w0 w) (hB : B ≤ w0.heap.size) (hl : acc.length ≤ 1000) (hn : ns.length = n) (hn2 : n ≤ 100)
    (hx : a.eval x = .slice (some ⟨w.heap.size, 0, none⟩) n n)
    (h : ∀ v' w', OwnI B w' v' (acc ++ ns) → Below B w0 w' → wpList Tryz.prog ops Q rest (a.put o.dst v') w') :
    wpList Tryz.prog ops Q (o :: rest) a (w.alloc (.cells (ns.map fun (d : Nat) => Value.int .i64 (d : Int)).toArray 3)) := by
  obtain ⟨it, hti, hz0, hz1, hz2⟩ : ∃ i, Tryz.prog.info? 3 = some i ∧ i.zero = some (.int .i64 0) ∧ i.size = 1 ∧ i.bytes = 8 := info_parts (by kernel_rfl)
  have hbs := hb.size
  subst hn
  refine wpList_append_own _ hgd s x 53 ho B 3 it (.int .i64 0) 1 8 Tryz.underlying53 hti hz0 hz1 hz2 rfl (by decide) v acc.length (acc.map fun (d : Nat) => Value.int .i64 (d : Int)) hs (World.ownsRow.alloc hO _) ⟨w.heap.size, 0, none⟩ ns.length ns.length (ns.map fun (d : Nat) => Value.int .i64 (d : Int)) hx (by simp) (lit_cells w _ _) (fun u hu => by obtain ⟨d, _, rfl⟩ := List.mem_map.1 hu; rfl) (by unfold maxLen; omega) (by omega) (by rw [World.size_alloc]; omega) ?_
  intro v' w' hown hgr hnil
  refine h v' w' ?_ ?_
  · unfold OwnI
    rw [List.length_append, List.map_append]
    exact hown
  · exact (hb.alloc (by omega) _).grown hgr (by rw [World.size_alloc]; omega) (fun k hk => (World.ownsRow.lt hO k hk).1)
theorem digV_hex (c : UInt8) (h : hexd c = true) : digV c.toNat = (digN c : Int) := by
  unfold hexd at h
  unfold digV digN
  simp only [Bool.or_eq_true, Bool.and_eq_true, decide_eq_true_eq] at h
  rcases h with h | h
  · rw [if_pos h, if_pos h.2]; omega
  · rw [if_neg (by omega), if_pos h, if_neg (by omega)]; omega
theorem hexDigs_take (m : ByteArray) (k : Nat) (h : k < 16) : (hexDigs m).take (k + 1) = (hexDigs m).take k ++ [(digsT m).getD k 0] := by
  have hl := hexDigs_len m
  rw [List.take_succ_eq_append_getElem (by omega)]
  congr 2
  unfold digsT
  simp [List.getD, List.getElem?_append_left, hl, h]
theorem digit_at (m s : ByteArray) (hS : sumS m = s) (k : Nat) (hk : k < 16) (hks : k < s.size) (w : World) :
    Calls Tryz.prog 63 #[.int .u8 (s[k].toNat : Int)] w fun e w' => e = .returned (.int .i64 ((digsT m).getD k 0 : Int)) ∧ w' = w := by
  subst hS
  obtain ⟨h1, h2⟩ := hexAt m k hk
  have hl : k < (sumS m).data.toList.length := by rw [(sumS_list m).1]; exact hk
  have e : (sumS m)[k] = (sumS m).data.toList.getD k 0 := by
    rw [show (sumS m).data.toList.getD k 0 = (sumS m).data.toList[k] by simp only [List.getD, List.getElem?_eq_getElem hl, Option.getD_some]]
    rfl
  rw [e, h2, ← digV_hex _ h1]
  exact digit_calls _ (UInt8.toNat_lt _) w
set_option maxRecDepth 100000 in
set_option maxHeartbeats 2000000 in
theorem rdigits_calls (m : ByteArray) (w : World) (hm : m.size ≤ 4611686018427387904) :
    Calls Tryz.prog 30 #[.string m] w fun e w' => ∃ v', e = .returned v' ∧ OwnI w.heap.size w' v' (digsT m) ∧ Below w.heap.size w w' := by
  go_enter Tryz.func30, Tryz.ntmps30
  go_wp2_with fail
  refine (rsum_calls m hm w).mono ?_
  rintro e w1 ⟨rfl, rfl⟩
  have hss := sumS_size m
  obtain ⟨s, hS⟩ : ∃ s, s = sumS m := ⟨_, rfl⟩
  rw [← hS] at hss ⊢
  have HS := Lib.hid hS.symm
  clear hS
  go_wp2_with fail
  go_loopw [4, 5, 6] (fun v4 v5 v6 W => ∃ k r : Nat, v6 = .int .i64 (k : Int) ∧ v5 = .int .i64 (r : Int) ∧ k ≤ 16 ∧ r ≤ 15 * k ∧ Hid (r = restOf ((hexDigs m).take k) ∧ OwnI w1.heap.size W v4 ((hexDigs m).take k) ∧ Below w1.heap.size w1 W)) (fun _ _ v6 _ => 16 - (RowKit.intOf v6).toNat)
  case atStart => exact ⟨0, 0, rfl, rfl, by omega, by omega, Lib.hid ⟨rfl, OwnI.nil _ _, Below.refl _ _⟩⟩
  case round =>
    obtain ⟨k, r, rfl, rfl, hk, hr, HI⟩ := hrel
    by_cases hlt : k < 16
    · have hks : k < s.size := by omega
      have HD := Lib.hid (fun W => digit_at m s HS.out k hlt hks W)
      have HT := Lib.hid (hexDigs_take m k hlt)
      have HR := Lib.hid (restOf_take m k hlt)
      have hd15 := dig_le m k
      have hlen : ((hexDigs m).take k).length ≤ 16 := by rw [List.length_take]; omega
      generalize (digsT m).getD k 0 = d at *
      go_wp2_with fail
      refine (HD.out _).mono ?_
      rintro e w2 ⟨rfl, rfl⟩
      go_wp2_with (at_builtin; refine appI (n := 1) (ns := [d]) rfl (.tmp 20) (.tmp 22) rfl rfl HI.out.2.1 HI.out.2.2 (Nat.le_refl _) (by omega) rfl (by decide) rfl ?_)
      intro v' w3 ho h3
      have HI2 : Hid (r + (15 - d) = restOf ((hexDigs m).take (k + 1)) ∧ OwnI w1.heap.size w3 v' ((hexDigs m).take (k + 1)) ∧ Below w1.heap.size w1 w3) := Lib.hid ⟨by rw [HR.out, HI.out.1], by rw [HT.out]; exact ho, h3⟩
      clear ho h3 HI HT HR HD
      go_wp2
      go_round
      case rel => exact ⟨k + 1, r + (15 - d), by go_num, by congr 1; omega, by omega, by omega, HI2⟩
      case measure => simp only [RowKit.intOf]; omega
    · obtain rfl : k = 16 := by omega
      have HF : Hid ((hexDigs m).take 16 = hexDigs m) := Lib.hid (List.take_of_length_le (by rw [hexDigs_len]; omega))
      have HI2 : Hid (r = restOf (hexDigs m) ∧ OwnI w1.heap.size wr u4 (hexDigs m) ∧ Below w1.heap.size w1 wr) := by have := HI.out; rw [HF.out] at this; exact Lib.hid this
      have HL := Lib.hid (hexDigs_len m)
      obtain ⟨q, hq⟩ : ∃ q, q = r / 16 := ⟨_, rfl⟩
      obtain ⟨t, ht⟩ : ∃ t, t = r % 16 := ⟨_, rfl⟩
      have hq1 : (r : Int) / 16 = (q : Int) := by omega
      have hq2 : (r : Int) % 16 = (t : Int) := by omega
      have HDT : Hid (hexDigs m ++ [q, t] = digsT m) := Lib.hid (by rw [hq, ht, HI2.out.1]; rfl)
      clear HI hq ht
      go_wp2_with (at_builtin; refine appI (n := 2) (ns := [q, t]) rfl (.tmp 28) (.tmp 33) rfl rfl HI2.out.2.1 HI2.out.2.2 (Nat.le_refl _) (by have := HL.out; omega) rfl (by decide) rfl ?_)
      intro v' w3 ho h3
      have HO : Hid (OwnI w1.heap.size w3 v' (digsT m) ∧ Below w1.heap.size w1 w3) := by rw [← HDT.out]; exact Lib.hid ⟨ho, h3⟩
      clear ho h3 HI2 HDT hq1 hq2
      go_wp2
      go_ret
      exact ⟨_, rfl, HO.out.1, HO.out.2⟩
end Go.Proofs.YtpogffdbencfnaaGreatDoor

namespace Go.Proofs.YtpogffdbencfnaaGreatDoor
open Go Go.RowKit

def chkT (m : ByteArray) (sig : List ByteArray) (k : Nat) : List ByteArray := (List.range k).flatMap fun k => chainedT (sig.getD k ByteArray.empty) (15 - (digsT m).getD k 0)
theorem chkT_succ (m : ByteArray) (sig : List ByteArray) (k : Nat) : chkT m sig (k + 1) = chkT m sig k ++ chainedT (sig.getD k ByteArray.empty) (15 - (digsT m).getD k 0) := by
  unfold chkT
  rw [List.range_succ, List.flatMap_append]
  simp
theorem chkT_len (m : ByteArray) (sig : List ByteArray) (k : Nat) : (chkT m sig k).length ≤ 16 * k := by
  induction k with
  | zero => simp [chkT]
  | succ k ih => rw [chkT_succ, List.length_append]; simp only [chainedT, List.length_map, List.length_range]; omega
theorem nats_cell {w : World} {v : Value} {l : List Nat} (h : IsNats w v l) (i : Nat) (hi : i < l.length) : ∃ b o cap, v = .slice (some ⟨b, o, none⟩) l.length cap ∧ b < w.heap.size ∧ w.cell? ⟨b, o + i, none⟩ = some (.int .i64 (l.getD i 0 : Int)) := by
  obtain ⟨ao, cap, e, hc⟩ := h
  obtain ⟨b, o, rfl, hlt, hcl⟩ := hc i hi
  exact ⟨b, o, cap, e, hlt, hcl⟩
theorem strc_lt {w : World} {v : Value} {l : List ByteArray} (h : IsStrC w v l) (i : Nat) (hi : i < l.length) : ∃ b o cap, v = .slice (some ⟨b, o, none⟩) l.length cap ∧ b < w.heap.size ∧ w.cell? ⟨b, o + i, none⟩ = some (.string (l.getD i ByteArray.empty)) := by
  obtain ⟨ao, cap, e, _, _, hc⟩ := h
  obtain ⟨b, o, rfl, hlt, hcl⟩ := hc i hi
  exact ⟨b, o, cap, e, hlt, hcl⟩
theorem sealEnds_succ (m : ByteArray) (sig : List ByteArray) (k : Nat) (h : k < 18) : (sealEnds m sig).take (k + 1) = (sealEnds m sig).take k ++ [chainS (sig.getD k ByteArray.empty) (15 - (digsT m).getD k 0)] := range_take 18 k _ h
theorem sealEnds_small (m : ByteArray) {sig : List ByteArray} (h : ∀ s ∈ sig, s.size ≤ 16) : ∀ s ∈ sealEnds m sig, s.size ≤ 16 := by
  intro s hs
  unfold sealEnds at hs
  obtain ⟨k, _, rfl⟩ := List.mem_map.1 hs
  cases hn : 15 - (digsT m).getD k 0 with
  | zero => exact getD_size h k
  | succ n => rw [chainS, sumS_size]; omega
theorem sealEnds_le (m : ByteArray) {sig : List ByteArray} (h : ∀ s ∈ sig, s.size ≤ 16) : needN (sealEnds m sig) ≤ 70368744177664 ∧ (joinB (sealEnds m sig)).length ≤ 70368744177664 := by
  have hl : (sealEnds m sig).length = 18 := by simp [sealEnds]
  have h1 := need_le 16 (sealEnds m sig) (sealEnds_small m h)
  have h2 := join_le 16 (sealEnds m sig) (sealEnds_small m h) (by decide)
  rw [hl] at h1 h2
  omega
theorem drop_at {l : List ByteArray} {k : Nat} (h : k < l.length) : l.drop k = l.getD k ByteArray.empty :: l.drop (k + 1) := by
  rw [List.drop_eq_getElem_cons h]
  simp [List.getD, h]
theorem checkedT_eq (m : ByteArray) (idx : Nat) (sig path : List ByteArray) : chkT m sig 18 ++ [jB (sealEnds m sig), jB [sLeaf, dg (sealEnds m sig)]] ++ buJ (dg [sLeaf, dg (sealEnds m sig)]) idx path = checkedT m idx sig path := rfl
theorem chained_get (t : ByteArray) (n : Nat) : (chainedT t n).getD n ByteArray.empty = chainS t n := by
  simp [chainedT, List.getD]
/-- going up: what is done, and what is left -/
def ChkInv (w1 : World) (m : ByteArray) (idx : Nat) (sig path : List ByteArray) (W : World) (v6 : Value) (k iN : Nat) (a : ByteArray) : Prop :=
  ∃ O : List ByteArray, Own w1.heap.size W v6 O ∧ Below w1.heap.size w1 W ∧ O.length ≤ 400 + k ∧ O ++ buJ a iN (path.drop k) = checkedT m idx sig path
theorem ChkInv.below {w1 : World} {m : ByteArray} {idx : Nat} {sig path : List ByteArray} {W : World} {v6 : Value} {k iN : Nat} {a : ByteArray} (h : ChkInv w1 m idx sig path W v6 k iN a) : Below w1.heap.size w1 W := by
  obtain ⟨O, _, h, _⟩ := h; exact h
theorem ChkInv.on {w1 : World} {m : ByteArray} {idx : Nat} {sig path : List ByteArray} {W W' : World} {v6 : Value} {k iN : Nat} {a : ByteArray} (h : ChkInv w1 m idx sig path W v6 k iN a) (hb : Below W.heap.size W W') : ChkInv w1 m idx sig path W' v6 k iN a := by
  obtain ⟨O, h1, h2, h3, h4⟩ := h
  exact ⟨O, h1.on hb, h2.trans (hb.mono h2.size), h3, h4⟩
set_option maxRecDepth 100000 in
set_option maxHeartbeats 4000000 in
theorem checked_calls (m : ByteArray) (idx : Nat) (vs vp : Value) (sig path : List ByteArray) (w : World) (hm : m.size ≤ 1099511627776) (hidx : idx ≤ 1000000) (hs : IsStrC w vs sig) (hp : IsStrC w vp path) (hl : sig.length = 18) (hpl : path.length ≤ 8)
    (hss : ∀ s ∈ sig, s.size ≤ 16) (hps : ∀ s ∈ path, s.size ≤ 16) (hT : Tabs w) :
    Calls Tryz.prog 19 #[.string m, .agg #[.int .i64 (idx : Int), vs, vp]] w fun e w' => ∃ v', e = .returned v' ∧ Own w.heap.size w' v' (checkedT m idx sig path) ∧ Below w.heap.size w w' := by
  have HL := Lib.hid hl
  have HSS := Lib.hid hss
  have HPS := Lib.hid hps
  obtain ⟨aos, cs, rfl⟩ := strc_form hs
  obtain ⟨aop, cp, rfl⟩ := strc_form hp
  rw [hl] at hs ⊢
  obtain ⟨lp, hlp⟩ : ∃ lp, lp = path.length := ⟨_, rfl⟩
  rw [← hlp] at hp hpl ⊢
  have HLP := Lib.hid hlp
  have HVS := Lib.hid hs
  have HVP := Lib.hid hp
  obtain ⟨hbx, hB1, hz⟩ := box_one w #[.int .i64 (idx : Int), .slice aos 18 cs, .slice aop lp cp] 24
  have HR0 := Lib.hid hbx
  have HB0 := Lib.hid hB1
  have hz1 : w.heap.size < (w.alloc (.cells #[.int .i64 (idx : Int), .slice aos 18 cs, .slice aop lp cp] 24)).heap.size := by omega
  clear hl hss hps hs hp hlp hbx hB1 hz
  go_enter Tryz.func19, Tryz.ntmps19
  go_wp2_with fail
  generalize hgw : w.alloc (.cells #[.int .i64 (idx : Int), .slice aos 18 cs, .slice aop lp cp] 24) = w0 at *
  clear hgw
  refine (rdigits_calls m w0 (by omega)).mono ?_
  rintro e w1 ⟨vd, rfl, hod, hB⟩
  have HD := Lib.hid hod.nats
  have HR := Lib.hid ((hB.block _ hz1).trans HR0.out)
  have HB := Lib.hid (HB0.out.trans (hB.mono HB0.out.size))
  have hz2 : w.heap.size < w1.heap.size := Nat.lt_of_lt_of_le hz1 hB.size
  have HDL := Lib.hid (digsT_len m)
  obtain ⟨bd, od, cd, rfl, _, _⟩ := nats_cell HD.out 0 (by rw [HDL.out]; decide)
  rw [HDL.out] at HD ⊢
  clear hod hB HR0 HB0 hz1
  go_wp2_with fail
  go_loopw [6, 7, 8] (fun v6 v7 v8 W => ∃ k : Nat, v8 = .int .i64 (k : Int) ∧ k ≤ 18 ∧ Hid (Own3 w1.heap.size w1 W v6 (chkT m sig k) v7 ((sealEnds m sig).take k) (.slice none 0 0) [])) (fun _ _ v8 _ => 18 - (RowKit.intOf v8).toNat)
  case atStart => exact ⟨0, rfl, by omega, Lib.hid ⟨Own.nil _ _, Own.nil _ _, Own.nil _ _, Apart.nil _, Apart.nil _, Apart.nil _, Below.refl _ _⟩⟩
  case round =>
    obtain ⟨k, rfl, hk, HK⟩ := hrel
    have HBW : Hid (Below w.heap.size w wr) := Lib.hid (HB.out.trans (HK.out.below.mono HB.out.size))
    have HRW : Hid (wr.heap[w.heap.size]? = some (.cells #[.int .i64 (idx : Int), .slice aos 18 cs, .slice aop lp cp] 24 (0, 0))) := Lib.hid ((HK.out.below.block _ hz2).trans HR.out)
    have c1 : wr.cell? ⟨w.heap.size, 1, none⟩ = some (.slice aos 18 cs) := by rw [cell_of_row _ _ 1 _ _ _ HRW.out]; rfl
    by_cases hlt : k < 18
    · have HCS := Lib.hid (chkT_succ m sig k)
      have HES := Lib.hid (sealEnds_succ m sig k hlt)
      have hcl := chkT_len m sig k
      have hel : ((sealEnds m sig).take k).length ≤ 18 := by rw [List.length_take]; omega
      have hdle := dig_le m k
      have hsz := getD_size HSS.out k
      obtain ⟨bs, os, csx, he, hbs, hcs⟩ := strc_lt HVS.out k (by rw [HL.out]; exact hlt)
      simp only [Value.slice.injEq] at he
      obtain ⟨rfl, he2, he3⟩ := he
      have HCSX : Hid (wr.cell? ⟨bs, os + k, none⟩ = some (.string (sig.getD k ByteArray.empty))) := Lib.hid (by rw [HBW.out.cell (p := ⟨bs, os + k, none⟩) hbs]; exact hcs)
      obtain ⟨bd2, od2, cdx, hed, hbd, hcd⟩ := nats_cell HD.out k (by rw [HDL.out]; exact hlt)
      simp only [Value.slice.injEq, Option.some.injEq, Addr.mk.injEq] at hed
      obtain ⟨⟨rfl, rfl, _⟩, hd2, hd3⟩ := hed
      have HCD1 : Hid (bd < w1.heap.size ∧ w1.cell? ⟨bd, od + k, none⟩ = some (.int .i64 ((digsT m).getD k 0 : Int))) := Lib.hid ⟨hbd, hcd⟩
      have HCDX : Hid (wr.cell? ⟨bd, od + k, none⟩ = some (.int .i64 ((digsT m).getD k 0 : Int))) := Lib.hid (by rw [HK.out.below.cell (p := ⟨bd, od + k, none⟩) hbd]; exact hcd)
      have hbsw : bs < wr.heap.size := Nat.lt_of_lt_of_le hbs HBW.out.size
      have hbdw : bd < wr.heap.size := Nat.lt_of_lt_of_le hbd HK.out.below.size
      clear he2 he3 hd2 hd3 hcs hcd hbs hbd
      obtain ⟨s, hsE⟩ : ∃ s, s = sig.getD k ByteArray.empty := ⟨_, rfl⟩
      obtain ⟨d, hdE⟩ : ∃ d, d = (digsT m).getD k 0 := ⟨_, rfl⟩
      rw [← hsE] at HCS HES HCSX hsz
      rw [← hdE] at HCS HES HCDX HCD1 hdle
      clear hsE hdE
      have hk18 : (k : Int) < 18 := by omega
      have hszw : w.heap.size < wr.heap.size := Nat.lt_of_lt_of_le hz2 HK.out.below.size
      go_wp2_with fail
      clear c1
      refine wp_region_res 12 (wr.heap.size) (fun ii u => [valF (.pointer (some ⟨w.heap.size, 1, none⟩)), valF (.slice (some ⟨bs, os, none⟩) 18 cs), valF (.int .i64 (k : Int)), valF (.pointer (some ⟨bs, os + k, none⟩)), valF (.string s), valF (.slice (some ⟨bd, od, none⟩) 18 cd), valF (.int .i64 (k : Int)), valF (.pointer (some ⟨bd, od + k, none⟩)), valF (.int .i64 (d : Int)), valF (.int .i64 (15 - (d : Int))), OwnF wr.heap.size (chainedT s (15 - d)), OwnF wr.heap.size (chainedT s (15 - d))].getD ii anyF) (fun jj ii => (jj == 11 && ii == 10)) (fun jj bb => False) (by kernel_rfl) (by kernel_rfl) (by kernel_rfl) (by kernel_rfl) (by kernel_rfl) (Nat.le_refl _) ?_ ?_ ?_ ?_ ?_
      · intro ii u hii
        refine AllKStable.at ?_ ii
        exact ⟨.inl (valF_stable _ _), .inl (valF_stable _ _), .inl (valF_stable _ _), .inl (valF_stable _ _), .inl (valF_stable _ _), .inl (valF_stable _ _), .inl (valF_stable _ _), .inl (valF_stable _ _), .inl (valF_stable _ _), .inl (valF_stable _ _), .inl (ownF_st _ _ _), .inl (ownF_st _ _ _), trivial⟩
      · exact fun _ _ _ _ _ => rfl
      · exact ⟨fun _ _ _ h => h.elim, fun _ _ _ _ _ h => h.elim⟩
      · refine And.intro (fun u W A hW hBW hd hv hr => ?_) ?_
        · have t3 : A.eval (.tmp 3) = .pointer (some ⟨w.heap.size, 0, none⟩) := (hv 3 (by kernel_rfl)).trans (by kernel_rfl)
          clear hd hv
          have s3 := evalT t3
          clear t3
          refine fk_run ?_
          go_simp
        refine And.intro (fun u W A hW hBW hd hv hr => ?_) ?_
        · have e0 : u 0 = .pointer (some ⟨w.heap.size, 1, none⟩) := hd 0 (by decide) (by kernel_rfl)
          have t29 : A.eval (.tmp 29) = .pointer (some ⟨w.heap.size, 1, none⟩) := (hv 29 (by kernel_rfl)).trans ((by kernel_rfl : slotV _ _ _ u 29 = u 0).trans e0)
          have hW1 := below_undrew hW
          have hcl : W.cell? ⟨w.heap.size, 1, none⟩ = some (.slice (some ⟨bs, os, none⟩) 18 cs) := by rw [hW1.cell (p := ⟨w.heap.size, 1, none⟩) hszw, cell_of_row _ _ 1 _ _ _ HRW.out]; rfl
          clear hd hv
          have s29 := evalT t29
          clear t29
          refine fk_run ?_
          go_simp
        refine And.intro (fun u W A hW hBW hd hv hr => ?_) ?_
        · have t8 : A.eval (.tmp 8) = .int .i64 (k : Int) := (hv 8 (by kernel_rfl)).trans (by kernel_rfl)
          clear hd hv
          have s8 := evalT t8
          clear t8
          refine fk_run ?_
          go_simp
        refine And.intro (fun u W A hW hBW hd hv hr => ?_) ?_
        · have e1 : u 1 = .slice (some ⟨bs, os, none⟩) 18 cs := hd 1 (by decide) (by kernel_rfl)
          have e2 : u 2 = .int .i64 (k : Int) := hd 2 (by decide) (by kernel_rfl)
          have t30 : A.eval (.tmp 30) = .slice (some ⟨bs, os, none⟩) 18 cs := (hv 30 (by kernel_rfl)).trans ((by kernel_rfl : slotV _ _ _ u 30 = u 1).trans e1)
          have t31 : A.eval (.tmp 31) = .int .i64 (k : Int) := (hv 31 (by kernel_rfl)).trans ((by kernel_rfl : slotV _ _ _ u 31 = u 2).trans e2)
          clear hd hv
          have s30 := evalT t30
          have s31 := evalT t31
          clear t30 t31
          refine fk_run ?_
          go_simp
        refine And.intro (fun u W A hW hBW hd hv hr => ?_) ?_
        · have e3 : u 3 = .pointer (some ⟨bs, os + k, none⟩) := hd 3 (by decide) (by kernel_rfl)
          have t32 : A.eval (.tmp 32) = .pointer (some ⟨bs, os + k, none⟩) := (hv 32 (by kernel_rfl)).trans ((by kernel_rfl : slotV _ _ _ u 32 = u 3).trans e3)
          have hW1 := below_undrew hW
          have hcl : W.cell? ⟨bs, os + k, none⟩ = some (.string s) := by rw [hW1.cell (p := ⟨bs, os + k, none⟩) hbsw]; exact HCSX.out
          clear hd hv
          have s32 := evalT t32
          clear t32
          refine fk_run ?_
          go_simp
        refine And.intro (fun u W A hW hBW hd hv hr => ?_) ?_
        · have t5 : A.eval (.tmp 5) = .slice (some ⟨bd, od, none⟩) 18 cd := (hv 5 (by kernel_rfl)).trans (by kernel_rfl)
          clear hd hv
          have s5 := evalT t5
          clear t5
          refine fk_run ?_
          go_simp
        refine And.intro (fun u W A hW hBW hd hv hr => ?_) ?_
        · have t8 : A.eval (.tmp 8) = .int .i64 (k : Int) := (hv 8 (by kernel_rfl)).trans (by kernel_rfl)
          clear hd hv
          have s8 := evalT t8
          clear t8
          refine fk_run ?_
          go_simp
        refine And.intro (fun u W A hW hBW hd hv hr => ?_) ?_
        · have e5 : u 5 = .slice (some ⟨bd, od, none⟩) 18 cd := hd 5 (by decide) (by kernel_rfl)
          have e6 : u 6 = .int .i64 (k : Int) := hd 6 (by decide) (by kernel_rfl)
          have t34 : A.eval (.tmp 34) = .slice (some ⟨bd, od, none⟩) 18 cd := (hv 34 (by kernel_rfl)).trans ((by kernel_rfl : slotV _ _ _ u 34 = u 5).trans e5)
          have t35 : A.eval (.tmp 35) = .int .i64 (k : Int) := (hv 35 (by kernel_rfl)).trans ((by kernel_rfl : slotV _ _ _ u 35 = u 6).trans e6)
          clear hd hv
          have s34 := evalT t34
          have s35 := evalT t35
          clear t34 t35
          refine fk_run ?_
          go_simp
        refine And.intro (fun u W A hW hBW hd hv hr => ?_) ?_
        · have e7 : u 7 = .pointer (some ⟨bd, od + k, none⟩) := hd 7 (by decide) (by kernel_rfl)
          have t36 : A.eval (.tmp 36) = .pointer (some ⟨bd, od + k, none⟩) := (hv 36 (by kernel_rfl)).trans ((by kernel_rfl : slotV _ _ _ u 36 = u 7).trans e7)
          have hW1 := below_undrew hW
          have hcl : W.cell? ⟨bd, od + k, none⟩ = some (.int .i64 (d : Int)) := by rw [hW1.cell (p := ⟨bd, od + k, none⟩) hbdw]; exact HCDX.out
          clear hd hv
          have s36 := evalT t36
          clear t36
          refine fk_run ?_
          go_simp
        refine And.intro (fun u W A hW hBW hd hv hr => ?_) ?_
        · have e8 : u 8 = .int .i64 (d : Int) := hd 8 (by decide) (by kernel_rfl)
          have t37 : A.eval (.tmp 37) = .int .i64 (d : Int) := (hv 37 (by kernel_rfl)).trans ((by kernel_rfl : slotV _ _ _ u 37 = u 8).trans e8)
          clear hd hv
          have s37 := evalT t37
          clear t37
          refine fk_run ?_
          go_simp
          try exact IntWalk.i64_in _ (by omega)
        refine And.intro (fun u W A hW hBW hd hv hr => ?_) ?_
        · have e4 : u 4 = .string s := hd 4 (by decide) (by kernel_rfl)
          have e9 : u 9 = .int .i64 (15 - (d : Int)) := hd 9 (by decide) (by kernel_rfl)
          have t33 : A.eval (.tmp 33) = .string s := (hv 33 (by kernel_rfl)).trans ((by kernel_rfl : slotV _ _ _ u 33 = u 4).trans e4)
          have t38 : A.eval (.tmp 38) = .int .i64 (15 - (d : Int)) := (hv 38 (by kernel_rfl)).trans ((by kernel_rfl : slotV _ _ _ u 38 = u 9).trans e9)
          have hW1 := below_undrew hW
          clear hd hv
          have s33 := evalT t33
          have s38 := evalT t38
          clear t33 t38
          refine fk_enter (f := 46) (args := #[.string s, .int .i64 (15 - (d : Int))]) (by go_simp) (fk_own hBW ?_)
          rw [show (15 - (d : Int)) = ((15 - d : Nat) : Int) by omega]
          exact chained_calls s (15 - d) W (by omega) (by omega)
        refine And.intro (fun u W A hW hBW hd hv hr => ?_) ?_
        · have e10 : Own wr.heap.size W (u 10) (chainedT s (15 - d)) := hd 10 (by decide) (by kernel_rfl)
          have t39 : A.eval (.tmp 39) = u 10 := (hv 39 (by kernel_rfl)).trans (by kernel_rfl)
          have hW1 := below_undrew hW
          clear hd hv
          have s39 := evalT t39
          clear t39
          exact fk_step (v := u 10) (by go_simp) (fk_move e10 (fun c hc => .inl ⟨10, by decide, by decide, hc⟩))
        exact trivial
      intro u w2 hb hk2 hf
      have e11 : Own wr.heap.size w2 (u 11) (chainedT s (15 - d)) := hf 11 (by decide) (by decide)
      have hb1 := below_undrew hb
      have HK1 := Lib.hid (HK.out.on HK.out.below.size hb1)
      have HOC := Lib.hid (own_mono e11 HK.out.below.size)
      have HAP : Hid (Apart u6 (u 11)) := Lib.hid (fun b h1 h2 => by
        have a1 := (own_block HK.out.oa b h1).2
        have a2 := (own_block e11 b h2).1
        omega)
      clear hf hb hk2 hb1 e11 HK HCDX HCSX
      simp only [List.take, List.drop, wpList, lexPut, Nat.zero_add, Nat.reduceAdd, Act.put, List.setIfInBounds_toArray, List.set_cons_succ, List.set_cons_zero]
      generalize u 11 = vc at *
      have HCL : Hid ((chainedT s (15 - d)).length = 15 - d + 1) := Lib.hid (by simp [chainedT])
      obtain ⟨n, hnE⟩ : ∃ n, n = 15 - d := ⟨_, rfl⟩
      rw [← hnE] at HCS HES HOC HCL
      have h15 : (15 : Int) - (d : Int) = (n : Int) := by omega
      have H15 := Lib.hid h15
      have hn15 : n ≤ 15 := by omega
      clear hnE h15
      go_wp2_with (at_builtin; refine appX (by kernel_rfl) (.tmp 40) (.tmp 41) rfl rfl rfl HK1.out.oa HOC.out.strc HK1.out.below (Nat.le_refl _) (by have := HCL.out; omega) ?_)
      intro v3 w3 ho3 hk3 hb3
      have HK2 := Lib.hid (HK1.out.seta ho3 hk3 hb3)
      obtain ⟨bc, oc, cc, rfl, hcc⟩ := strc_idx ((hk3 vc _ HOC.out HAP.out).1.strc) n (by rw [HCL.out]; omega)
      rw [chained_get] at hcc
      rw [HCL.out]
      have hcd : w3.cell? ⟨bd, od + k, none⟩ = some (.int .i64 (d : Int)) := by rw [hb3.cell (p := ⟨bd, od + k, none⟩) HCD1.out.1]; exact HCD1.out.2
      have hn1 : (n : Int) < ((n + 1 : Nat) : Int) := by omega
      have hn2 : n < n + 1 := by omega
      clear ho3 hk3 hb3 HK1 HOC HAP HCD1 HCL
      have h15 := H15.out
      go_wp2_with (at_builtin; refine appL (by kernel_rfl) (.tmp 43) (.tmp 52) rfl (l2 := [chainS s n]) rfl rfl rfl (by decide) HK2.out.ob HK2.out.below (Nat.le_refl _) (by omega) ?_)
      intro v4 w4 ho4 hk4 hb4
      have HK3 : Hid (Own3 w1.heap.size w1 w4 v3 (chkT m sig (k + 1)) v4 ((sealEnds m sig).take (k + 1)) (.slice none 0 0) []) := by
        have := HK2.out.setb ho4 hk4 hb4
        rw [HCS.out, HES.out]
        exact Lib.hid this
      clear ho4 hk4 hb4 HK2 HCS HES hcc hcd h15 H15
      go_wp2
      go_round
      case rel => exact ⟨k + 1, by go_num, by omega, HK3⟩
      case measure => simp only [RowKit.intOf]; omega
    · obtain rfl : k = 18 := by omega
      have hcl := chkT_len m sig 18
      have HK1 : Hid (Own3 w1.heap.size w1 wr u6 (chkT m sig 18) u7 (sealEnds m sig) (.slice none 0 0) []) := by
        have := HK.out
        rw [List.take_of_length_le (by simp [sealEnds])] at this
        exact Lib.hid this
      have HJ := Lib.hid (sealEnds_le m HSS.out)
      have HKS : Hid ((jB (sealEnds m sig)).size ≤ 1099511627776) := Lib.hid (jB_small (sealEnds m sig) 16 (sealEnds_small m HSS.out) (by decide) (by simp [sealEnds]))
      have hdgs := dg_size (sealEnds m sig)
      have HLS : Hid ((jB [sLeaf, dg (sealEnds m sig)]).size ≤ 1099511627776) := Lib.hid (jB_small _ 16 (by simp; exact ⟨by decide, by omega⟩) (by decide) (by simp))
      have HCE := Lib.hid (checkedT_eq m idx sig path)
      have hdg2 := dg_size [sLeaf, dg (sealEnds m sig)]
      clear HK
      rw [show ((18 : Nat) : Int) = 18 from rfl]
      go_wp2_with fail
      clear c1
      refine (joined_calls u7 (sealEnds m sig) wr HK1.out.ob.strc.strs HJ.out.1 HJ.out.2).mono ?_
      rintro e w2 ⟨rfl, hB⟩
      rw [jB_eq]
      have HK2 := Lib.hid (HK1.out.on HK1.out.below.size hB)
      clear hB HK1
      go_wp2_with fail
      refine (rsum_calls (jB (sealEnds m sig)) (by have := HKS.out; omega) w2).mono ?_
      rintro e w3 ⟨rfl, rfl⟩
      rw [sum_jB]
      go_wp2_with fail
      refine (jlit_calls [sLeaf, dg (sealEnds m sig)] w3 (by simp; exact ⟨by decide, by omega⟩) (by simp)).mono ?_
      rintro e w4 ⟨rfl, hB⟩
      have HK3 := Lib.hid (HK2.out.on HK2.out.below.size hB)
      clear hB HK2
      go_wp2_with (at_builtin; refine appL (by kernel_rfl) (.tmp 60) (.tmp 63) rfl (l2 := [jB (sealEnds m sig), jB [sLeaf, dg (sealEnds m sig)]]) rfl rfl rfl (by decide) HK3.out.oa HK3.out.below (Nat.le_refl _) (by omega) ?_)
      intro v5 w5 ho5 hk5 hb5
      have HK4 : Hid (Own w1.heap.size w5 v5 (chkT m sig 18 ++ [jB (sealEnds m sig), jB [sLeaf, dg (sealEnds m sig)]]) ∧ Below w1.heap.size w1 w5) := Lib.hid ⟨ho5, hb5⟩
      have HR5 : Hid (w5.heap[w.heap.size]? = some (.cells #[.int .i64 (idx : Int), .slice aos 18 cs, .slice aop lp cp] 24 (0, 0))) := Lib.hid ((hb5.block _ hz2).trans HR.out)
      have c0 : w5.cell? ⟨w.heap.size, 0, none⟩ = some (.int .i64 (idx : Int)) := by rw [cell_of_row _ _ 0 _ _ _ HR5.out]; rfl
      have hO5 : (chkT m sig 18 ++ [jB (sealEnds m sig), jB [sLeaf, dg (sealEnds m sig)]]).length ≤ 400 := by simp; omega
      clear ho5 hk5 hb5 HK3
      go_wp2_with fail
      refine (rsum_calls (jB [sLeaf, dg (sealEnds m sig)]) (by have := HLS.out; omega) w5).mono ?_
      rintro e w6 ⟨rfl, rfl⟩
      rw [sum_jB]
      go_wp2_with fail
      clear c0
      go_loopw [6, 12, 13, 14] (fun v6 v12 v13 v14 W => ∃ (k iN : Nat) (a : ByteArray), v14 = .int .i64 (k : Int) ∧ v13 = .int .i64 (iN : Int) ∧ v12 = .string a ∧ k ≤ lp ∧ a.size ≤ 16 ∧ iN ≤ 1000000 ∧ Hid (ChkInv w1 m idx sig path W v6 k iN a)) (fun _ _ _ v14 _ => lp - (RowKit.intOf v14).toNat)
      case atStart => exact ⟨0, idx, _, rfl, rfl, rfl, by omega, by omega, hidx, Lib.hid ⟨_, HK4.out.1, HK4.out.2, by omega, HCE.out⟩⟩
      case round =>
        obtain ⟨k, iN, a, rfl, rfl, rfl, hk2, ha, hiN, HI⟩ := hrel
        clear HK4
        have HRW : Hid (wr.heap[w.heap.size]? = some (.cells #[.int .i64 (idx : Int), .slice aos 18 cs, .slice aop lp cp] 24 (0, 0))) := Lib.hid ((HI.out.below.block _ hz2).trans HR.out)
        have HBW : Hid (Below w.heap.size w wr) := Lib.hid (HB.out.trans (HI.out.below.mono HB.out.size))
        have c2 : wr.cell? ⟨w.heap.size, 2, none⟩ = some (.slice aop lp cp) := by rw [cell_of_row _ _ 2 _ _ _ HRW.out]; rfl
        by_cases hlt : k < lp
        · obtain ⟨bp, op, cpx, he, hbp, hcp⟩ := strc_lt HVP.out k (by rw [← HLP.out]; exact hlt)
          simp only [Value.slice.injEq] at he
          obtain ⟨rfl, he2, he3⟩ := he
          have cpk : wr.cell? ⟨bp, op + k, none⟩ = some (.string (path.getD k ByteArray.empty)) := by rw [HBW.out.cell (p := ⟨bp, op + k, none⟩) hbp]; exact hcp
          have HDR := Lib.hid (drop_at (l := path) (k := k) (by rw [← HLP.out]; exact hlt))
          have hsz := getD_size HPS.out k
          clear he2 he3 hcp
          generalize path.getD k ByteArray.empty = p at *
          have hklt : (k : Int) < (lp : Int) := by omega
          obtain ⟨q, hq⟩ : ∃ q, q = iN / 2 := ⟨_, rfl⟩
          have hdiv : (iN : Int) / 2 = (q : Int) := by omega
          have HDIV := Lib.hid hdiv
          have hq1 : q ≤ 1000000 := by omega
          have HQ := Lib.hid hq
          clear hdiv hq
          by_cases hod : iN % 2 = 1
          · have hm2 : (iN : Int) % 2 = 1 := by omega
            have HBU : Hid (buJ a iN (path.drop k) = jB [sNode, p, a] :: buJ (dg [sNode, p, a]) q (path.drop (k + 1))) := Lib.hid (by rw [HDR.out, buJ, if_pos hod, ← HQ.out])
            have HM2 := Lib.hid hm2
            clear hod hm2 HDR HQ
            go_wp2_with fail
            refine (node03_calls a p wr (by omega) (by omega)).mono ?_
            rintro e w2 ⟨rfl, hB⟩
            have HI2 := Lib.hid (HI.out.on hB)
            have c2 : w2.cell? ⟨w.heap.size, 2, none⟩ = some (.slice (some ⟨bp, op, none⟩) lp cp) := by rw [cell_of_row _ _ 2 _ _ _ ((HI2.out.below.block _ hz2).trans HR.out)]; rfl
            have cpk2 : w2.cell? ⟨bp, op + k, none⟩ = some (.string p) := by rw [hB.cell (p := ⟨bp, op + k, none⟩) (Nat.lt_of_lt_of_le hbp HBW.out.size)]; exact cpk
            clear hB HI cpk
            have hm2 := HM2.out
            go_wp2_with fail
            refine (node03_calls p a w2 (by omega) (by omega)).mono ?_
            rintro e w3 ⟨rfl, hB⟩
            have HI3 := Lib.hid (HI2.out.on hB)
            clear hB HI2 c2 cpk2 hm2 HM2
            have hjb := jB_big p a (by omega) (by omega)
            have hdgx := dg_size [sNode, p, a]
            obtain ⟨O, hO1, hO2, hO3, hO4⟩ := HI3.out
            have HO1 := Lib.hid hO1
            have HO2 := Lib.hid hO2
            have HO4 := Lib.hid hO4
            clear hO1 hO2 hO4 HI3
            go_wp2_with (at_builtin; refine appL (by kernel_rfl) (.tmp 93) (.tmp 95) rfl (l2 := [jB [sNode, p, a]]) rfl rfl rfl (by decide) HO1.out HO2.out (Nat.le_refl _) (by omega) ?_)
            intro v4 w4 ho4 hk4 hb4
            have HI4 : Hid (ChkInv w1 m idx sig path w4 v4 (k + 1) q (dg [sNode, p, a])) := Lib.hid ⟨_, ho4, hb4, by simp; omega, by rw [List.append_assoc]; rw [HBU.out] at HO4; exact HO4.out⟩
            clear ho4 hk4 hb4 HO1 HO2 HO4 hO3
            go_wp2_with fail
            refine (rsum_calls (jB [sNode, p, a]) hjb w4).mono ?_
            rintro e w5 ⟨rfl, rfl⟩
            rw [sum_jB]
            have hdiv := HDIV.out
            go_wp2
            go_round
            case rel => exact ⟨k + 1, q, _, by go_num, rfl, rfl, by omega, by omega, hq1, HI4⟩
            case measure => simp only [RowKit.intOf]; omega
          · have hm2 : (iN : Int) % 2 = 0 := by omega
            have HBU : Hid (buJ a iN (path.drop k) = jB [sNode, a, p] :: buJ (dg [sNode, a, p]) q (path.drop (k + 1))) := Lib.hid (by rw [HDR.out, buJ, if_neg hod, ← HQ.out])
            have HM2 := Lib.hid hm2
            clear hod hm2 HDR HQ
            go_wp2_with fail
            refine (node03_calls a p wr (by omega) (by omega)).mono ?_
            rintro e w3 ⟨rfl, hB⟩
            have HI3 := Lib.hid (HI.out.on hB)
            have hm2 := HM2.out
            clear hB HI cpk
            have hjb := jB_big a p (by omega) (by omega)
            have hdgx := dg_size [sNode, a, p]
            obtain ⟨O, hO1, hO2, hO3, hO4⟩ := HI3.out
            have HO1 := Lib.hid hO1
            have HO2 := Lib.hid hO2
            have HO4 := Lib.hid hO4
            clear hO1 hO2 hO4 HI3
            go_wp2_with (at_builtin; refine appL (by kernel_rfl) (.tmp 93) (.tmp 95) rfl (l2 := [jB [sNode, a, p]]) rfl rfl rfl (by decide) HO1.out HO2.out (Nat.le_refl _) (by omega) ?_)
            intro v4 w4 ho4 hk4 hb4
            have HI4 : Hid (ChkInv w1 m idx sig path w4 v4 (k + 1) q (dg [sNode, a, p])) := Lib.hid ⟨_, ho4, hb4, by simp; omega, by rw [List.append_assoc]; rw [HBU.out] at HO4; exact HO4.out⟩
            clear ho4 hk4 hb4 HO1 HO2 HO4 hO3
            go_wp2_with fail
            refine (rsum_calls (jB [sNode, a, p]) hjb w4).mono ?_
            rintro e w5 ⟨rfl, rfl⟩
            rw [sum_jB]
            have hdiv := HDIV.out
            go_wp2
            go_round
            case rel => exact ⟨k + 1, q, _, by go_num, rfl, rfl, by omega, by omega, hq1, HI4⟩
            case measure => simp only [RowKit.intOf]; omega
        · have hkl : k = lp := by omega
          have HE : Hid (Own w1.heap.size wr u6 (checkedT m idx sig path) ∧ Below w.heap.size w wr) := by
            obtain ⟨O, h1, h2, _, h3⟩ := HI.out
            rw [List.drop_of_length_le (by rw [← HLP.out]; omega), buJ, List.append_nil] at h3
            rw [← h3]
            exact Lib.hid ⟨h1, HBW.out⟩
          have hnlt : ¬ ((k : Int) < (lp : Int)) := by omega
          clear HI
          go_wp2
          go_ret
          exact ⟨_, rfl, own_mono HE.out.1 HB.out.size, HE.out.2⟩
end Go.Proofs.YtpogffdbencfnaaGreatDoor

namespace Go.Proofs.YtpogffdbencfnaaGreatDoor
open Go Go.RowKit

theorem buJ_size : ∀ (p : List ByteArray) (d : ByteArray) (i : Nat), d.size ≤ 16 → (∀ s ∈ p, s.size ≤ 16) → ∀ t ∈ buJ d i p, t.size ≤ 1099511627776
  | [], d, i, _, _, t, ht => by simp [buJ] at ht
  | x :: r, d, i, hd, hp, t, ht => by
    have hx := hp x (by simp)
    have hr : ∀ s ∈ r, s.size ≤ 16 := fun s hs => hp s (by simp [hs])
    rw [buJ] at ht
    split at ht
    · rcases List.mem_cons.1 ht with rfl | ht
      · exact jB_small _ 16 (by simp; exact ⟨by decide, hx, hd⟩) (by decide) (by simp)
      · exact buJ_size r _ _ (by rw [dg_size]; omega) hr t ht
    · rcases List.mem_cons.1 ht with rfl | ht
      · exact jB_small _ 16 (by simp; exact ⟨by decide, hd, hx⟩) (by decide) (by simp)
      · exact buJ_size r _ _ (by rw [dg_size]; omega) hr t ht
theorem buJ_len : ∀ (p : List ByteArray) (d : ByteArray) (i : Nat), (buJ d i p).length = p.length
  | [], _, _ => rfl
  | x :: r, d, i => by rw [buJ]; split <;> simp [buJ_len r]
theorem checkedT_size (m : ByteArray) (idx : Nat) {sig path : List ByteArray} (h1 : ∀ s ∈ sig, s.size ≤ 16) (h2 : ∀ s ∈ path, s.size ≤ 16) : ∀ t ∈ checkedT m idx sig path, t.size ≤ 1099511627776 := by
  intro t ht
  rw [← checkedT_eq] at ht
  rcases List.mem_append.1 ht with e | e
  · rcases List.mem_append.1 e with e | e
    · unfold chkT at e
      obtain ⟨k, _, htk⟩ := List.mem_flatMap.1 e
      unfold chainedT at htk
      obtain ⟨j, _, rfl⟩ := List.mem_map.1 htk
      have := getD_size h1 k
      cases j with
      | zero => exact Nat.le_trans this (by decide)
      | succ j => rw [chainS, sumS_size]; omega
    · simp only [List.mem_cons, List.not_mem_nil, or_false] at e
      rcases e with rfl | rfl
      · exact jB_small (sealEnds m sig) 16 (sealEnds_small m h1) (by decide) (by simp [sealEnds])
      · exact jB_small _ 16 (by simp; exact ⟨by decide, by rw [dg_size]; omega⟩) (by decide) (by simp)
  · exact buJ_size path _ idx (by rw [dg_size]; omega) h2 t e
theorem checkedT_len (m : ByteArray) (idx : Nat) (sig path : List ByteArray) (h : path.length ≤ 8) : (checkedT m idx sig path).length ≤ 400 := by
  rw [← checkedT_eq, List.length_append, List.length_append, buJ_len]
  have := chkT_len m sig 18
  simp only [List.length_cons, List.length_nil]
  omega
theorem pathT_16 (l : List ByteArray) (i : Nat) : ∀ s ∈ pathT l i, s.size ≤ 16 := fun s hs => by
  have := isS_size (List.all_eq_true.1 (path_isS l i) s hs); omega
theorem sigT_16 (secret : ByteArray) (i : Nat) (m : ByteArray) : ∀ s ∈ sigT secret i m, s.size ≤ 16 := fun s hs => by
  unfold sigT at hs
  obtain ⟨k, _, rfl⟩ := List.mem_map.1 hs
  rw [chain16 (startT_size _ _ _)]; omega
theorem short_szB {l : List ByteArray} (h : shortB l = true) : ∀ s ∈ l, s.size ≤ 300 := by
  unfold shortB at h
  simpa using h
theorem short3_callsB (a b c : ByteArray) (w : World) (ha : a.size ≤ 9223372036854775807) (hb : b.size ≤ 9223372036854775807) (hc : c.size ≤ 9223372036854775807) :
    Calls Tryz.prog 8 #[.slice (some ⟨w.heap.size, 0, none⟩) 3 3] (w.alloc (.cells #[.string a, .string b, .string c] 9)) fun e w' => e = .returned (.bool (shortB [a, b, c])) ∧ Below w.heap.size w w' := by
  refine (short_calls _ [a, b, c] _ (strc_lit w [a, b, c] (show 3 ≤ maxLen by decide)) (by simp; exact ⟨ha, hb, hc⟩)).mono ?_
  rintro e w' ⟨rfl, rfl⟩
  exact ⟨rfl, (Below.refl _ _).alloc (Nat.le_refl _) _⟩
theorem short2_callsB (a b : ByteArray) (w : World) (ha : a.size ≤ 9223372036854775807) (hb : b.size ≤ 9223372036854775807) :
    Calls Tryz.prog 8 #[.slice (some ⟨w.heap.size, 0, none⟩) 2 2] (w.alloc (.cells #[.string a, .string b] 9)) fun e w' => e = .returned (.bool (shortB [a, b])) ∧ Below w.heap.size w w' := by
  refine (short_calls _ [a, b] _ (strc_lit w [a, b] (show 2 ≤ maxLen by decide)) (by simp; exact ⟨ha, hb⟩)).mono ?_
  rintro e w' ⟨rfl, rfl⟩
  exact ⟨rfl, (Below.refl _ _).alloc (Nat.le_refl _) _⟩
theorem pow_factsB (h : Nat) (hh : h ≤ 8) : 0 < (2 : Int) ^ h ∧ (2 : Int) ^ h ≤ 256 ∧ ((2 ^ h : Nat) : Int) = (2 : Int) ^ h := by
  have e : ((2 ^ h : Nat) : Int) = (2 : Int) ^ h := by simp
  have h1 := Nat.pow_pos (n := h) (show 0 < 2 by decide)
  have h2 := Nat.pow_le_pow_right (n := 2) (by decide) hh
  rw [← e]
  generalize 2 ^ h = p at *
  omega
end Go.Proofs.YtpogffdbencfnaaGreatDoor

