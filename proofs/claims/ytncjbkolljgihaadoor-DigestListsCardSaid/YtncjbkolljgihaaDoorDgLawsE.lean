import Derived.Test.YtncjbkolljgihaaDoorDgLawsC
import Derived.Deep.Cut
set_option linter.unusedVariables false
namespace Go.Proofs.YtncjbkolljgihaaDoor
open Go Go.RowKit

theorem bS_inj {a b : List UInt8} (h : bS a = bS b) : a = b := by
  have := congrArg (fun x : ByteArray => x.data.toList) h
  simpa [bS] using this
theorem mapInj {α β : Type} {f : α → β} (hf : Function.Injective f) : ∀ {l m : List α}, l.map f = m.map f → l = m
  | [], [], _ => rfl
  | [], _ :: _, h => by simp at h
  | _ :: _, [], h => by simp at h
  | a :: l, b :: m, h => by
    simp only [List.map_cons, List.cons.injEq] at h
    rw [hf h.1, mapInj hf h.2]
theorem joinB_inj {l m : List ByteArray} (h : joinB l = joinB m) : l = m := by
  have h := joinL_inj h
  unfold listsOf at h
  have hinj : Function.Injective (fun x : ByteArray => x.data.toList) := fun a b h => ByteArray.ext (Array.toList_inj.1 h)
  exact mapInj hinj h
theorem lists_cmp (l m : List ByteArray) : ∃ c : Bool, ((bS (joinB l)).toList == (bS (joinB m)).toList) = c ∧ sameB l m = c ∧
    ((bS (joinB l)).size ≤ 7 → (bS (joinB m)).size ≤ 7 → ((sumS (bS (joinB l))).toList == (sumS (bS (joinB m))).toList) = c) := by
  by_cases h : l = m
  · subst h
    exact ⟨true, by simp, by simp [sameB], fun _ _ => by simp⟩
  · have hne : (bS (joinB l)).data.toList ≠ (bS (joinB m)).data.toList := fun e => h (joinB_inj (bS_inj (ByteArray.ext (Array.toList_inj.1 e))))
    exact ⟨false, by rw [eqS]; exact decide_eq_false hne, by simp [sameB, h], fun h1 h2 => sum_ne h1 h2 hne⟩

theorem app_list (a b : ByteArray) : (a ++ b).data.toList = a.data.toList ++ b.data.toList := by simp
theorem lists_one (o t : ByteArray) (hl : o.size = t.size) (h9 : o.size ≤ 9) (h6 : o.data.toList.take 6 = t.data.toList.take 6) :
    ((sumS (bS (joinB [o]))).toList == (sumS (bS (joinB [t]))).toList) = (o.toList == t.toList) := by
  rw [eqS, eqS]
  by_cases h : o.data.toList = t.data.toList
  · have : o = t := ByteArray.ext (Array.toList_inj.1 h)
    subst this; simp
  · rw [decide_eq_false h]
    refine decide_eq_false fun e => h ?_
    rw [Lib.size_eq] at h9
    rw [Lib.size_eq, Lib.size_eq] at hl
    refine one_inj hl h9 h6 ?_
    simpa [sumS, bS, joinB, listsOf] using e
theorem strs_one (w : World) (s : ByteArray) : IsStrs (w.alloc (.cells #[.string s] 9)) (.slice (some ⟨w.heap.size, 0, none⟩) 1 1) [s] := by
  refine ⟨some ⟨w.heap.size, 0, none⟩, 1, rfl, (show 1 ≤ maxLen by decide), fun i hi => ⟨w.heap.size, 0, rfl, by rw [World.size_alloc]; omega, ?_⟩⟩
  rw [World.cell?_alloc_new]
  match i, hi with
  | 0, _ => rfl
theorem two_cut (o two : ByteArray) (k n : Nat) (ho : o.size = n) (hk : k ≤ n) (hn : n ≤ two.size) : (o.extract 0 k).size = k ∧ (two.extract k n).size = n - k ∧ (o.extract 0 k).data.toList = o.data.toList.take k := by
  refine ⟨by rw [ByteArray.size_extract]; omega, by rw [ByteArray.size_extract]; omega, ?_⟩
  rw [ByteArray.data_extract, Array.toList_extract]
  simp [List.extract_eq_take_drop]
set_option maxRecDepth 100000 in
set_option maxHeartbeats 1000000 in
theorem lists_law (v1 v2 : Value) (l m : List ByteArray) (one two : ByteArray) (w : World) (hv1 : IsStrs w v1 l) (hv2 : IsStrs w v2 m) (h1 : one.size ≤ 9223372036854775807) (h2 : two.size ≤ 9223372036854775807) (hT : Tabs w) :
    Calls Tryd.prog 9 #[v1, v2, .string one, .string two] w fun e w' => e = .returned (.bool true) ∧ Below w.heap.size w w' := by
  have HT := Lib.hid hT
  have HV1 := Lib.hid hv1
  have HV2 := Lib.hid hv2
  clear hT hv1 hv2
  cases hf1 : fewB l 200 with
  | false =>
    go_enter Tryd.func9, Tryd.ntmps9
    go_wp2_with fail
    refine (head01_calls w HT.out).mono ?_
    rintro e w1 ⟨rfl, h1⟩
    have H1 := Lib.hid h1
    clear h1
    go_wp2_with fail
    refine (few_calls v1 l w1 (HV1.out.on H1.out) 200).mono ?_
    rintro e w2 ⟨rfl, rfl⟩
    rw [hf1]
    go_wp2
    go_ret
    exact ⟨rfl, H1.out⟩
  | true =>
    cases hf2 : fewB m 200 with
    | false =>
      go_enter Tryd.func9, Tryd.ntmps9
      go_wp2_with fail
      refine (head01_calls w HT.out).mono ?_
      rintro e w1 ⟨rfl, h1⟩
      have H1 := Lib.hid h1
      clear h1
      go_wp2_with fail
      refine (few_calls v1 l w1 (HV1.out.on H1.out) 200).mono ?_
      rintro e w2 ⟨rfl, rfl⟩
      rw [hf1]
      go_wp2_with fail
      refine (few_calls v2 m w2 (HV2.out.on H1.out) 200).mono ?_
      rintro e w3 ⟨rfl, rfl⟩
      rw [hf2]
      go_wp2
      go_ret
      exact ⟨rfl, H1.out⟩
    | true =>
      have HQ1 := Lib.hid (few_of hf1)
      have HQ2 := Lib.hid (few_of hf2)
      go_enter Tryd.func9, Tryd.ntmps9
      go_wp2_with fail
      refine (head01_calls w HT.out).mono ?_
      rintro e w1 ⟨rfl, h1⟩
      have H1 := Lib.hid h1
      clear h1
      go_wp2_with fail
      refine (few_calls v1 l w1 (HV1.out.on H1.out) 200).mono ?_
      rintro e w2 ⟨rfl, rfl⟩
      rw [hf1]
      go_wp2_with fail
      refine (few_calls v2 m w2 (HV2.out.on H1.out) 200).mono ?_
      rintro e w3 ⟨rfl, rfl⟩
      rw [hf2]
      go_wp2_with fail
      refine (joined_calls v1 l w3 (HV1.out.on H1.out) (by have := HQ1.out.1; omega) (by have := HQ1.out.2; omega)).mono ?_
      rintro e w4 ⟨rfl, h4⟩
      have H4 := Lib.hid (H1.out.trans (h4.mono H1.out.size))
      clear h4
      go_wp2_with fail
      refine (joined_calls v2 m w4 (HV2.out.on H4.out) (by have := HQ2.out.1; omega) (by have := HQ2.out.2; omega)).mono ?_
      rintro e w5 ⟨rfl, h5⟩
      have H5 := Lib.hid (H4.out.trans (h5.mono H4.out.size))
      clear h5
      obtain ⟨c, hc1, hc2, hc3⟩ := lists_cmp l m
      have hA := HQ1.out.2
      have hB := HQ2.out.2
      rw [← bS_size] at hA hB
      have H3 := Lib.hid hc3
      clear hc3
      go_wp2_with fail
      refine (list_calls v1 l w5 (HV1.out.on H5.out) (by have := HQ1.out.2; omega) (HT.out.on H5.out)).mono ?_
      rintro e w6 ⟨rfl, h6⟩
      have H6 := Lib.hid (H5.out.trans (h6.mono H5.out.size))
      clear h6
      go_wp2_with fail
      refine (sum_calls _ (by omega) w6 (HT.out.on H6.out)).mono ?_
      rintro e w7 ⟨rfl, h7⟩
      have H7 := Lib.hid (H6.out.trans (h7.mono H6.out.size))
      clear h7
      go_wp2_with fail
      refine (same_calls v1 v2 l m w7 (HV1.out.on H7.out) (HV2.out.on H7.out)).mono ?_
      rintro e w8 ⟨rfl, h8⟩
      have H8 := Lib.hid (H7.out.trans (h8.mono H7.out.size))
      clear h8
      rw [hc2]
      go_upto_if 40 with (fail)
      go_cut [] from 13 (fun wx => wx = w8)
      case first => go_wp2_with fail; go_meet; exact rfl
      case rest =>
        subst hcut
        go_step
        refine wp_seq_k fun K hK => ?_
        go_cut [] from 13 (fun wx => Hid (Below w.heap.size w wx))
        case first =>
          by_cases h7 : (bS (joinB l)).size ≤ 7
          · by_cases h8 : (bS (joinB m)).size ≤ 7
            · have hs := H3.out h7 h8
              go_wp2_with fail
              refine (list_calls v1 l wc (HV1.out.on H8.out) (by have := HQ1.out.2; omega) (HT.out.on H8.out)).mono ?_
              rintro e w9 ⟨rfl, h9⟩
              have H9 := Lib.hid (H8.out.trans (h9.mono H8.out.size))
              clear h9
              go_wp2_with fail
              refine (list_calls v2 m w9 (HV2.out.on H9.out) (by have := HQ2.out.2; omega) (HT.out.on H9.out)).mono ?_
              rintro e w10 ⟨rfl, h10⟩
              have H10 := Lib.hid (H9.out.trans (h10.mono H9.out.size))
              clear h10
              go_wp2_with fail
              refine (same_calls v1 v2 l m w10 (HV1.out.on H10.out) (HV2.out.on H10.out)).mono ?_
              rintro e w11 ⟨rfl, h11⟩
              have H11 := Lib.hid (H10.out.trans (h11.mono H10.out.size))
              clear h11
              rw [hc2]
              go_wp2_with fail
              go_meet
              exact H11
            · go_wp2_with fail
              go_meet
              exact H8
          · go_wp2_with fail
            go_meet
            exact H8
        case rest =>
          have H9 := hcut
          clear hcut hc1 hc2 H3 H8 hA hB HQ1 HQ2
          obtain ⟨n, hn⟩ : ∃ n : Nat, n = min (min one.size two.size) 9 := ⟨_, rfl⟩
          have hm3 : ∀ W, (Builtin.min_ #[3, 3, 3] 3 #[.int .i64 (one.size : Int), .int .i64 (two.size : Int), .int .i64 9]).run Tryd.prog W = .ok (.int .i64 (n : Int)) W := fun W => by
            simp only [Builtin.min_, Builtin.min2, List.foldlM_cons, List.foldlM_nil, pure_bind]
            rw [show (if 9 < (if (two.size : Int) < (one.size : Int) then (two.size : Int) else one.size) then 9 else (if (two.size : Int) < (one.size : Int) then (two.size : Int) else one.size)) = (n : Int) by split <;> split <;> omega]
            rfl
          have hna : n ≤ one.size := by omega
          have hnb : n ≤ two.size := by omega
          have hn9 : n ≤ 9 := by omega
          have hnb2 : n ≤ 9223372036854775807 := by omega
          clear hn
          go_upto_region 12 with fail
          obtain ⟨k, hk⟩ : ∃ k : Nat, k = min n 6 := ⟨_, rfl⟩
          have hki : min (n : Int) 6 = (k : Int) := by omega
          have hkn : k ≤ n := by omega
          have hk6 : k = n ∨ k = 6 := by omega
          have hso : (one.extract 0 n).size = n := by rw [ByteArray.size_extract]; omega
          have hsl : ∀ W, (Instr.slice 9 (.string (one.extract 0 n)) none (some (.int .i64 (k : Int))) none).run Tryd.prog W = .ok (.string ((one.extract 0 n).extract 0 k)) W := fun W => by
            simp [Instr.slice, go_sem]
            intro h
            exfalso
            omega
          have hsl2 : ∀ W, (Instr.slice 9 (.string two) (some (.int .i64 (k : Int))) (some (.int .i64 (n : Int))) none).run Tryd.prog W = .ok (.string (two.extract k n)) W := fun W => by
            rw [run_slice_string W 9 _ _ _ _ _ Tryd.underlying9 (by omega) (by omega) (by omega)]
            rfl
          clear hk hm3
          have hpq := two_cut (one.extract 0 n) two k n hso hkn hnb
          generalize one.extract 0 n = o at *
          generalize o.extract 0 k = p at *
          generalize two.extract k n = q at *
          have hps : p.size ≤ 9 := by omega
          have hqs : q.size ≤ 9 := by omega
          have hpqs : p.size + q.size ≤ 9223372036854775807 := by omega
          have hpqs2 : (p ++ q).size ≤ 9223372036854775807 := by rw [ByteArray.size_append]; omega
          refine wp_region_any (by kernel_rfl) ?_
          change wpAny _ _ _ _ _ _ _ (World.drew _)
          refine wpAny_take (i := 0) (v := .string o) rfl (by kernel_rfl) (by kernel_rfl) (by kernel_rfl) (fun _ _ _ h => h) (Or.inl ⟨by kernel_rfl, fun W => by go_simp⟩) ?_
          refine wpAny_take (i := 1) (v := .int .i64 (n : Int)) rfl (by kernel_rfl) (by kernel_rfl) (by kernel_rfl) (fun _ _ _ h => h) (Or.inl ⟨by kernel_rfl, fun W => by go_simp⟩) ?_
          refine wpAny_take (i := 2) (v := .int .i64 (k : Int)) rfl (by kernel_rfl) (by kernel_rfl) (by kernel_rfl) (fun _ _ _ h => h) (Or.inl ⟨by kernel_rfl, fun W => by go_simp⟩) ?_
          refine wpAny_take (i := 3) (v := .string p) rfl (by kernel_rfl) (by kernel_rfl) (by kernel_rfl) (fun _ _ _ h => h) (Or.inl ⟨by kernel_rfl, fun W => by go_simp⟩) ?_
          refine wpAny_take (i := 4) (v := .string two) rfl (by kernel_rfl) (by kernel_rfl) (by kernel_rfl) (fun _ _ _ h => h) (Or.inl ⟨by kernel_rfl, fun W => by go_simp⟩) ?_
          refine wpAny_take (i := 5) (v := .int .i64 (n : Int)) rfl (by kernel_rfl) (by kernel_rfl) (by kernel_rfl) (fun _ _ _ h => h) (Or.inl ⟨by kernel_rfl, fun W => by go_simp⟩) ?_
          refine wpAny_take (i := 6) (v := .int .i64 (k : Int)) rfl (by kernel_rfl) (by kernel_rfl) (by kernel_rfl) (fun _ _ _ h => h) (Or.inl ⟨by kernel_rfl, fun W => by go_simp⟩) ?_
          refine wpAny_take (i := 7) (v := .int .i64 (n : Int)) rfl (by kernel_rfl) (by kernel_rfl) (by kernel_rfl) (fun _ _ _ h => h) (Or.inl ⟨by kernel_rfl, fun W => by go_simp⟩) ?_
          refine wpAny_take (i := 8) (v := .string q) rfl (by kernel_rfl) (by kernel_rfl) (by kernel_rfl) (fun _ _ _ h => h) (Or.inl ⟨by kernel_rfl, fun W => by go_simp⟩) ?_
          refine wpAny_take (i := 9) (v := .string (p ++ q)) rfl (by kernel_rfl) (by kernel_rfl) (by kernel_rfl) (fun _ _ _ h => h) (Or.inl ⟨by kernel_rfl, fun W => by go_simp⟩) ?_
          refine wpAny_take (i := 10) (v := .string (p ++ q)) rfl (by kernel_rfl) (by kernel_rfl) (by kernel_rfl) (fun _ _ _ h => h) (Or.inl ⟨by kernel_rfl, fun W => by go_simp⟩) ?_
          refine wpAny_done (by kernel_rfl) ?_ _
          have hsz : ∀ x : ByteArray, x.size ≤ 18 → (joinB [x]).length ≤ 140737488355328 := fun x hx => by
            have := (few_need [x] (fun s hs => by rw [List.mem_singleton.1 hs]; omega)).2
            simp at this; omega
          have hso9 : o.size ≤ 18 := by omega
          have hpq9 : (p ++ q).size ≤ 18 := by rw [ByteArray.size_append]; omega
          have hlen : o.size = (p ++ q).size := by rw [ByteArray.size_append]; omega
          have hone := lists_one o (p ++ q) hlen (by omega) (by
            rw [app_list, hpq.2.2]
            rcases hk6 with e | e
            · subst e
              have e1 : q.data.toList = [] := List.eq_nil_of_length_eq_zero (by rw [← Lib.size_eq]; omega)
              rw [e1, List.append_nil, List.take_of_length_le (i := k) (l := o.data.toList) (by rw [← Lib.size_eq]; omega)]
            · subst e
              rw [List.take_append_of_le_length (by rw [List.length_take, ← Lib.size_eq]; omega), List.take_take, Nat.min_self])
          have HO := Lib.hid hone
          clear hone hki hk6 hlen hpq hsl hsl2 hso hna hnb hps hqs hpqs hpqs2
          generalize p ++ q = t at *
          have hszo := hsz o hso9
          have hszt := hsz t hpq9
          clear hsz hso9 hpq9
          go_wp2_with fail
          have hb1 := (H9.out.drew).alloc H9.out.drew.size (.cells #[.string o] 9)
          refine (list_calls _ [o] _ (strs_one wc.drew o) hszo (HT.out.on hb1)).mono ?_
          rintro e w10 ⟨rfl, h10⟩
          have H10 : Hid (Below w.heap.size w w10) := Lib.hid (hb1.trans (h10.mono hb1.size))
          clear h10 hb1
          go_wp2_with fail
          have hb2 := (H10.out).alloc H10.out.size (.cells #[.string t] 9)
          refine (list_calls _ [t] _ (strs_one w10 t) hszt (HT.out.on hb2)).mono ?_
          rintro e w11 ⟨rfl, h11⟩
          have H11 : Hid (Below w.heap.size w w11) := Lib.hid (hb2.trans (h11.mono hb2.size))
          clear h11 hb2
          obtain ⟨c3, hc3⟩ : ∃ c3, c3 = (o.toList == t.toList) := ⟨_, rfl⟩
          have hc4 := HO.out
          rw [← hc3] at hc4
          have hc5 := hc3.symm
          clear HO hc3
          go_wp2
          go_ret
          exact ⟨rfl, H11.out⟩
end Go.Proofs.YtncjbkolljgihaaDoor
namespace Go.Proofs.YtncjbkolljgihaaDoor.digestLists
open Go Go.RowKit
theorem walk {w : World} (hT : Tabs w) (v1 : Value) (l : List ByteArray) (hv1 : IsStrs w v1 l) (v2 : Value) (m : List ByteArray) (hv2 : IsStrs w v2 m) (a : ByteArray) (wa : a.size ≤ maxLen) (b : ByteArray) (wb : b.size ≤ maxLen) :
    Calls Tryd.prog 9 #[v1, v2, .string a, .string b] w fun e w' => e = .returned (.bool true) ∧ Below w.heap.size w w' :=
  lists_law v1 v2 l m a b w hv1 hv2 wa wb hT
end Go.Proofs.YtncjbkolljgihaaDoor.digestLists
