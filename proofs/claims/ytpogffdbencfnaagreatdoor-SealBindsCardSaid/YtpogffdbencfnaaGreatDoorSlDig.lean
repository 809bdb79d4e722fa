import Derived.Test.YtpogffdbencfnaaGreatDoorSlWalkC
import Derived.Test.YtpogffdbencfnaaGreatDoorDgRefC
import Derived.Test.YtpogffdbencfnaaGreatDoorSlIt
set_option linter.unusedVariables false
namespace Go.Proofs.YtpogffdbencfnaaGreatDoor
open Go Go.RowKit

/-! a row of ints of one's own; the reference's digits -/
def OwnI (B : Nat) (w : World) (v : Value) (l : List Nat) : Prop := w.ownsRow B 3 1 v l.length (l.map fun (d : Nat) => Value.int .i64 (d : Int))
theorem OwnI.nil (B : Nat) (w : World) : OwnI B w (.slice none 0 0) [] := World.ownsRow_nil w B _ 1
theorem OwnI.on {B : Nat} {w w' : World} {v : Value} {l : List Nat} (h : OwnI B w v l) (hb : Below w.heap.size w w') : OwnI B w' v l := by
  refine World.ownsRow.kept h (grownBy_of_below hb) ?_
  by_cases hn : v.ownBlock = none
  · exact .inl hn
  · exact .inr hn
/-- a slice of ints, read alone -/
def IsNats (w : World) (v : Value) (l : List Nat) : Prop :=
  ∃ (ao : Option Addr) (cap : Nat), v = .slice ao l.length cap ∧ ∀ i, i < l.length → ∃ b o, ao = some ⟨b, o, none⟩ ∧ b < w.heap.size ∧ w.cell? ⟨b, o + i, none⟩ = some (.int .i64 (l.getD i 0 : Int))
theorem IsNats.on {w w' : World} {v : Value} {l : List Nat} (h : IsNats w v l) (hb : Below w.heap.size w w') : IsNats w' v l := by
  obtain ⟨ao, cap, h1, h4⟩ := h
  refine ⟨ao, cap, h1, fun i hi => ?_⟩
  obtain ⟨b, o, e, hlt, hc⟩ := h4 i hi
  exact ⟨b, o, e, Nat.lt_of_lt_of_le hlt hb.size, by rw [hb.cell (p := ⟨b, o + i, none⟩) hlt]; exact hc⟩
theorem OwnI.nats {B : Nat} {w : World} {v : Value} {l : List Nat} (h : OwnI B w v l) : IsNats w v l := by
  have hlt := World.ownsRow.lt h
  have hcell := @World.ownsRow.cells _ _ _ _ _ _ _ h
  obtain ⟨h1, ⟨rfl, h2⟩ | ⟨g, cap, cur, rfl, h2, h3, h4, h5, h6, h7⟩⟩ := h
  · have : l = [] := List.eq_nil_of_length_eq_zero h2
    subst this
    exact ⟨none, 0, rfl, fun i hi => by simp at hi⟩
  · refine ⟨some ⟨g, 0, none⟩, cap, rfl, fun i hi => ⟨g, 0, rfl, (hlt g rfl).2, ?_⟩⟩
    have := hcell rfl i (.int .i64 (l.getD i 0 : Int)) (by simp [List.getD, hi])
    rwa [Lib.add_plain] at this
theorem lit_cells (w : World) (ns : List Value) (T : TypeId) : ∀ j u, ns[j]? = some u → (w.alloc (.cells ns.toArray T)).cell? ((⟨w.heap.size, 0, none⟩ : Addr).add j) = some u := by
  intro j u hj
  rw [Lib.add_plain, Nat.zero_add, World.cell?_alloc_new]
  simpa using hj
/-- append(v, ints..), the literal laid into a new block -/
theorem appI {ops : Array Oper} {rest : List Oper} {o : Oper} {a : Act} {Q : Exit → Act → World → Prop} (hgd : o.guard = none) (s x : Operand)
    (ho : o.op = .call { callee := .builtin .append, args := #[s, x], argTypes := #[53, 53] })
    {B n : Nat} {w0 w : World} {v : Value} {acc ns : List Nat} (hs : a.eval s = v) (hO : OwnI B w v acc) (hb : Below B w0 w) (hB : B ≤ w0.heap.size) (hl : acc.length ≤ 1000) (hn : ns.length = n) (hn2 : n ≤ 100)
    (hx : a.eval x = .slice (some ⟨w.heap.size, 0, none⟩) n n)
    (h : ∀ v' w', OwnI B w' v' (acc ++ ns) → Below B w0 w' → wpList Tryz.prog ops Q rest (a.put o.dst v') w') :
    wpList Tryz.prog ops Q (o :: rest) a (w.alloc (.cells (ns.map fun (d : Nat) => Value.int .i64 (d : Int)).toArray 3)) := by
  obtain ⟨it, hti, hz0, hz1, hz2⟩ : ∃ i, Tryz.prog.info? 3 = some i ∧ i.zero = some (.int .i64 0) ∧ i.size = 1 ∧ i.bytes = 8 := info_parts (by kernel_rfl)
  have hbs := hb.size
  subst hn
  refine wpList_append_own _ hgd s x 53 ho B 3 it (.int .i64 0) 1 8 Tryz.underlying53 hti hz0 hz1 hz2 rfl (by decide) v acc.length (acc.map fun (d : Nat) => Value.int .i64 (d : Int)) hs (World.ownsRow.alloc hO _) ⟨w.heap.size, 0, none⟩ ns.length ns.length (ns.map fun (d : Nat) => Value.int .i64 (d : Int)) hx (by simp) (lit_cells w _ _) (fun u hu => by obtain ⟨d, _, rfl⟩ := List.mem_map.1 hu; rfl) (by unfold maxLen; omega) (by omega) (by rw [World.size_alloc]; omega) ?_
  intro v' w' hown hgr hnil
  refine h v' w' ?_ ?_
  · unfold OwnI
    rw [List.length_append, List.map_append]
    exact hown
  · exact (hb.alloc (by omega) _).grown hgr (by rw [World.size_alloc]; omega) (fun k hk => (World.ownsRow.lt hO k hk).1)
theorem digV_hex (c : UInt8) (h : hexd c = true) : digV c.toNat = (digN c : Int) := by
  unfold hexd at h
  unfold digV digN
  simp only [Bool.or_eq_true, Bool.and_eq_true, decide_eq_true_eq] at h
  rcases h with h | h
  · rw [if_pos h, if_pos h.2]; omega
  · rw [if_neg (by omega), if_pos h, if_neg (by omega)]; omega
theorem hexDigs_take (m : ByteArray) (k : Nat) (h : k < 16) : (hexDigs m).take (k + 1) = (hexDigs m).take k ++ [(digsT m).getD k 0] := by
  have hl := hexDigs_len m
  rw [List.take_succ_eq_append_getElem (by omega)]
  congr 2
  unfold digsT
  simp [List.getD, List.getElem?_append_left, hl, h]
theorem digit_at (m s : ByteArray) (hS : sumS m = s) (k : Nat) (hk : k < 16) (hks : k < s.size) (w : World) :
    Calls Tryz.prog 63 #[.int .u8 (s[k].toNat : Int)] w fun e w' => e = .returned (.int .i64 ((digsT m).getD k 0 : Int)) ∧ w' = w := by
  subst hS
  obtain ⟨h1, h2⟩ := hexAt m k hk
  have hl : k < (sumS m).data.toList.length := by rw [(sumS_list m).1]; exact hk
  have e : (sumS m)[k] = (sumS m).data.toList.getD k 0 := by
    rw [show (sumS m).data.toList.getD k 0 = (sumS m).data.toList[k] by simp only [List.getD, List.getElem?_eq_getElem hl, Option.getD_some]]
    rfl
  rw [e, h2, ← digV_hex _ h1]
  exact digit_calls _ (UInt8.toNat_lt _) w
set_option maxRecDepth 100000 in
set_option maxHeartbeats 2000000 in
theorem rdigits_calls (m : ByteArray) (w : World) (hm : m.size ≤ 4611686018427387904) :
    Calls Tryz.prog 30 #[.string m] w fun e w' => ∃ v', e = .returned v' ∧ OwnI w.heap.size w' v' (digsT m) ∧ Below w.heap.size w w' := by
  go_enter Tryz.func30, Tryz.ntmps30
  go_wp2_with fail
  refine (rsum_calls m hm w).mono ?_
  rintro e w1 ⟨rfl, rfl⟩
  have hss := sumS_size m
  obtain ⟨s, hS⟩ : ∃ s, s = sumS m := ⟨_, rfl⟩
  rw [← hS] at hss ⊢
  have HS := Lib.hid hS.symm
  clear hS
  go_wp2_with fail
  go_loopw [4, 5, 6] (fun v4 v5 v6 W => ∃ k r : Nat, v6 = .int .i64 (k : Int) ∧ v5 = .int .i64 (r : Int) ∧ k ≤ 16 ∧ r ≤ 15 * k ∧ Hid (r = restOf ((hexDigs m).take k) ∧ OwnI w1.heap.size W v4 ((hexDigs m).take k) ∧ Below w1.heap.size w1 W)) (fun _ _ v6 _ => 16 - (RowKit.intOf v6).toNat)
  case atStart => exact ⟨0, 0, rfl, rfl, by omega, by omega, Lib.hid ⟨rfl, OwnI.nil _ _, Below.refl _ _⟩⟩
  case round =>
    obtain ⟨k, r, rfl, rfl, hk, hr, HI⟩ := hrel
    by_cases hlt : k < 16
    · have hks : k < s.size := by omega
      have HD := Lib.hid (fun W => digit_at m s HS.out k hlt hks W)
      have HT := Lib.hid (hexDigs_take m k hlt)
      have HR := Lib.hid (restOf_take m k hlt)
      have hd15 := dig_le m k
      have hlen : ((hexDigs m).take k).length ≤ 16 := by rw [List.length_take]; omega
      generalize (digsT m).getD k 0 = d at *
      go_wp2_with fail
      refine (HD.out _).mono ?_
      rintro e w2 ⟨rfl, rfl⟩
      go_wp2_with (at_builtin; refine appI (n := 1) (ns := [d]) rfl (.tmp 20) (.tmp 22) rfl rfl HI.out.2.1 HI.out.2.2 (Nat.le_refl _) (by omega) rfl (by decide) rfl ?_)
      intro v' w3 ho h3
      have HI2 : Hid (r + (15 - d) = restOf ((hexDigs m).take (k + 1)) ∧ OwnI w1.heap.size w3 v' ((hexDigs m).take (k + 1)) ∧ Below w1.heap.size w1 w3) := Lib.hid ⟨by rw [HR.out, HI.out.1], by rw [HT.out]; exact ho, h3⟩
      clear ho h3 HI HT HR HD
      go_wp2
      go_round
      case rel => exact ⟨k + 1, r + (15 - d), by go_num, by congr 1; omega, by omega, by omega, HI2⟩
      case measure => simp only [RowKit.intOf]; omega
    · obtain rfl : k = 16 := by omega
      have HF : Hid ((hexDigs m).take 16 = hexDigs m) := Lib.hid (List.take_of_length_le (by rw [hexDigs_len]; omega))
      have HI2 : Hid (r = restOf (hexDigs m) ∧ OwnI w1.heap.size wr u4 (hexDigs m) ∧ Below w1.heap.size w1 wr) := by have := HI.out; rw [HF.out] at this; exact Lib.hid this
      have HL := Lib.hid (hexDigs_len m)
      obtain ⟨q, hq⟩ : ∃ q, q = r / 16 := ⟨_, rfl⟩
      obtain ⟨t, ht⟩ : ∃ t, t = r % 16 := ⟨_, rfl⟩
      have hq1 : (r : Int) / 16 = (q : Int) := by omega
      have hq2 : (r : Int) % 16 = (t : Int) := by omega
      have HDT : Hid (hexDigs m ++ [q, t] = digsT m) := Lib.hid (by rw [hq, ht, HI2.out.1]; rfl)
      clear HI hq ht
      go_wp2_with (at_builtin; refine appI (n := 2) (ns := [q, t]) rfl (.tmp 28) (.tmp 33) rfl rfl HI2.out.2.1 HI2.out.2.2 (Nat.le_refl _) (by have := HL.out; omega) rfl (by decide) rfl ?_)
      intro v' w3 ho h3
      have HO : Hid (OwnI w1.heap.size w3 v' (digsT m) ∧ Below w1.heap.size w1 w3) := by rw [← HDT.out]; exact Lib.hid ⟨ho, h3⟩
      clear ho h3 HI2 HDT hq1 hq2
      go_wp2
      go_ret
      exact ⟨_, rfl, HO.out.1, HO.out.2⟩
end Go.Proofs.YtpogffdbencfnaaGreatDoor
