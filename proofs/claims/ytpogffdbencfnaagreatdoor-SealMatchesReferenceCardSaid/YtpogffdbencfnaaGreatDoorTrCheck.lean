import Derived.Test.YtpogffdbencfnaaGreatDoorTrUp
import Derived.Test.YtpogffdbencfnaaGreatDoorTrPath
import Derived.Laws.EntriesVeiled
set_option linter.unusedVariables false
namespace Go.Proofs.YtpogffdbencfnaaGreatDoor
open Go Go.RowKit

theorem clone_calls (v : Value) (p : List ByteArray) (w : World) (hv : IsStrC w v p) (hl : p.length ≤ 1099511627776) :
    Calls Tryz.prog 67 #[v] w fun e w' => ∃ v', e = .returned v' ∧ Own w.heap.size w' v' p ∧ Below w.heap.size w w' := by
  obtain ⟨ao, cap, rfl, hlc, hmax, hcells⟩ := hv
  cases ao with
  | none =>
    refine (Tryz.slices_Clone_string_nil p.length cap w).mono ?_
    rintro e w' ⟨rfl, rfl⟩
    have : p = [] := by
      cases p with
      | nil => rfl
      | cons a r => obtain ⟨b, o, e, _⟩ := hcells 0 (by simp); cases e
    subst this
    exact ⟨_, rfl, Own.nil _ _, Below.refl _ _⟩
  | some a =>
    rcases Nat.eq_zero_or_pos p.length with h0 | h0
    · have : p = [] := List.eq_nil_of_length_eq_zero h0
      subst this
      refine (Tryz.slices_Clone_string_zero a cap w).mono ?_
      rintro e w' ⟨v', rfl, ho, _, hb⟩
      exact ⟨v', rfl, ho, hb⟩
    · obtain ⟨b, o, e, hlt, _⟩ := hcells 0 h0
      cases e
      refine (Tryz.slices_Clone_string b o p.length cap p w (Nat.le_refl _) (by omega) (fun j hj => ?_)).mono ?_
      · obtain ⟨b', o', e, _, hc⟩ := hcells j hj
        cases e
        exact hc
      · rintro e w' ⟨v', rfl, ho, _, hb⟩
        rw [List.take_length] at ho
        exact ⟨v', rfl, ho, hb⟩
theorem isS_size {s : ByteArray} (h : isS s = true) : s.size = 16 := by
  unfold isS isL at h
  simp only [Bool.and_eq_true, beq_iff_eq] at h
  rw [Lib.size_eq]; exact h.1
/-- the world in which a closure is first called -/
def startW (w4 : World) (lb : Nat) (fn : Value) (tv tu : TypeId) : World :=
  ((w4.alloc (.cells #[.pointer (some ⟨lb, 0, none⟩), .bool false] 76)).alloc (.cells #[.pointer (some ⟨w4.heap.size, 0, none⟩)] tv)).alloc (.cells #[fn] tu)
theorem setup {w w2 w4 : World} {x : ByteArray} {ao : Option Addr} {cap : Nat} {p : List ByteArray} (fn : Value) (tv tu : TypeId)
    (h2 : Below (w.alloc (.cells #[.string x] 9)).heap.size (w.alloc (.cells #[.string x] 9)) w2)
    (ho : Own (w.alloc (.cells #[.string x] 9)).heap.size w2 (.slice ao p.length cap) p) (hc1 : p.length ≤ cap) (hc2 : cap ≤ maxLen) (hp : p.all isS = true)
    (h4 : Below (w2.alloc (.cells #[.slice ao p.length cap] 71)).heap.size (w2.alloc (.cells #[.slice ao p.length cap] 71)) w4) (hT : Tabs w) :
    Up0 w (startW w4 w2.heap.size fn tv tu) w2.heap.size w4.heap.size (w4.heap.size + 1) (w4.heap.size + 1 + 1) w.heap.size ao cap p x fn ∧
    Rd (startW w4 w2.heap.size fn tv tu) w2.heap.size w4.heap.size ao cap p.length false (startW w4 w2.heap.size fn tv tu) := by
  have hb1 : Below w.heap.size w (w.alloc (.cells #[.string x] 9)) := (Below.refl w.heap.size w).alloc (Nat.le_refl _) _
  have s1 : (w.alloc (.cells #[.string x] 9)).heap.size = w.heap.size + 1 := World.size_alloc ..
  have s3 : (w2.alloc (.cells #[.slice ao p.length cap] 71)).heap.size = w2.heap.size + 1 := World.size_alloc ..
  have e2 := h2.size
  have e4 := h4.size
  rw [s1] at e2
  rw [s3] at e4
  have B2 : Below w.heap.size w w2 := hb1.trans (h2.mono hb1.size)
  have B3 : Below w.heap.size w (w2.alloc (.cells #[.slice ao p.length cap] 71)) := B2.alloc B2.size _
  have B4 : Below w.heap.size w w4 := B3.trans (h4.mono B3.size)
  have b5 := Below.refl w4.heap.size w4
  have B5 : Below w4.heap.size w4 (startW w4 w2.heap.size fn tv tu) := by
    unfold startW
    refine ((b5.alloc (Nat.le_refl _) _).alloc ?_ _).alloc ?_ _ <;> simp only [World.size_alloc] <;> omega
  have sz : (startW w4 w2.heap.size fn tv tu).heap.size = w4.heap.size + 1 + 1 + 1 := by unfold startW; simp only [World.size_alloc]
  have hl : (startW w4 w2.heap.size fn tv tu).heap[w2.heap.size]? = some (.cells #[.slice ao p.length cap] 71 (0, 0)) := by
    rw [B5.block _ (by omega), h4.block _ (by rw [s3]; omega)]
    exact heap_alloc_new w2 _
  have hpb : (startW w4 w2.heap.size fn tv tu).heap[w4.heap.size]? = some (.cells #[.pointer (some ⟨w2.heap.size, 0, none⟩), .bool false] 76 (0, 0)) := by
    unfold startW
    rw [heap_alloc_old _ _ (by simp only [World.size_alloc]; omega), heap_alloc_old _ _ (by simp only [World.size_alloc]; omega)]
    exact heap_alloc_new w4 _
  have hv : (startW w4 w2.heap.size fn tv tu).heap[w4.heap.size + 1]? = some (.cells #[.pointer (some ⟨w4.heap.size, 0, none⟩)] tv (0, 0)) := by
    unfold startW
    rw [heap_alloc_old _ _ (by simp only [World.size_alloc]; omega)]
    have := heap_alloc_new (w4.alloc (.cells #[.pointer (some ⟨w2.heap.size, 0, none⟩), .bool false] 76)) (.cells #[.pointer (some ⟨w4.heap.size, 0, none⟩)] tv)
    rwa [World.size_alloc] at this
  have hu : (startW w4 w2.heap.size fn tv tu).heap[w4.heap.size + 1 + 1]? = some (.cells #[fn] tu (0, 0)) := by
    unfold startW
    have := heap_alloc_new ((w4.alloc (.cells #[.pointer (some ⟨w2.heap.size, 0, none⟩), .bool false] 76)).alloc (.cells #[.pointer (some ⟨w4.heap.size, 0, none⟩)] tv)) (.cells #[fn] tu)
    rwa [World.size_alloc, World.size_alloc] at this
  have hx : (startW w4 w2.heap.size fn tv tu).heap[w.heap.size]? = some (.cells #[.string x] 9 (0, 0)) := by
    rw [B5.block _ (by omega), h4.block _ (by rw [s3]; omega), heap_alloc_old _ _ (by omega), h2.block _ (by rw [s1]; omega)]
    exact heap_alloc_new w _
  refine ⟨⟨⟨by omega, by omega, by omega, hc1, hc2, fun s hs => isS_size (List.all_eq_true.1 hp s hs), fun i hi => ?_⟩, B4.trans (B5.mono B4.size), by omega, by omega, ⟨by omega, by omega, by omega, ?_⟩, ⟨by omega, by omega, by omega, ?_⟩, ⟨by omega, by omega, by omega, ?_⟩, hT⟩, ⟨Chg.refl _ _, hl, hpb⟩⟩
  · obtain ⟨ao', cap', he, _, _, hcells⟩ := ho.strc
    simp only [Value.slice.injEq] at he
    obtain ⟨rfl, _, rfl⟩ := he
    obtain ⟨b, o, rfl, hlt, hc⟩ := hcells i hi
    refine ⟨b, o, rfl, by omega, by omega, by omega, ?_⟩
    rw [World.cell?_of_block (B5.block b (by omega)), World.cell?_of_block (h4.block b (by rw [s3]; omega)), World.cell?_of_block (heap_alloc_old w2 _ hlt)]
    exact hc
  · rw [cell_of_row _ _ 0 _ _ _ hv]; rfl
  · rw [cell_of_row _ _ 0 _ _ _ hu]; rfl
  · rw [cell_of_row _ _ 0 _ _ _ hx]; rfl
theorem eqB (a b : ByteArray) : (a.toList == b.toList) = decide (a = b) := by
  rw [eqS]
  exact decide_eq_decide.2 ⟨fun h => ByteArray.ext (Array.toList_inj.1 h), fun h => by rw [h]⟩
theorem check_val {root leaf : ByteArray} {n i : Nat} {p : List ByteArray} (hn : n ≤ 1000000) (hi : i < n) (hp : p.all isS = true) :
    checkT root n i leaf p = (decide (p.length = lenT n i) && decide (upT n i (dg [sLeaf, leaf]) p = root)) := by
  unfold checkT
  rw [hp, decide_eq_true (by omega : (n : Int) ≤ 1000000), decide_eq_true (by omega : (0 : Int) ≤ i), decide_eq_true (by omega : (i : Int) < n)]
  simp
theorem done_val (n L : Nat) : (!(false || decide (n < L)) && decide (n - L = 0)) = decide (n = L) := by
  by_cases h : n < L
  · rw [decide_eq_true h, decide_eq_false (by omega : ¬ n = L)]; rfl
  · rw [decide_eq_false h]
    simp only [Bool.or_false, Bool.not_false, Bool.true_and]
    exact decide_eq_decide.2 (by omega)
set_option maxRecDepth 100000 in
set_option maxHeartbeats 1000000 in
theorem check_ok (root : ByteArray) (n i : Nat) (leaf : ByteArray) (v : Value) (p : List ByteArray) (w : World) (hv : IsStrC w v p) (hl : p.length ≤ 1099511627776) (hp : p.all isS = true) (hs : ∀ s ∈ p, s.size ≤ 1099511627776)
    (hx : leaf.size ≤ 1099511627776) (hn : n ≤ 1000000) (hi : i < n) (hT : Tabs w) :
    Calls Tryz.prog 39 #[.string root, .int .i64 (n : Int), .int .i64 (i : Int), .string leaf, v] w fun e w' => e = .returned (.bool (checkT root n i leaf p)) ∧ Below w.heap.size w w' := by
  have HT := Lib.hid hT
  have HV := Lib.hid hv
  have HS := Lib.hid hs
  have HP := Lib.hid hp
  clear hT hv hs hp
  have hd1 : decide ((1000000 : Int) < (n : Int)) = false := decide_eq_false (by omega)
  have hd2 : decide ((i : Int) < 0) = false := decide_eq_false (by omega)
  have hd3 : decide ((n : Int) ≤ (i : Int)) = false := decide_eq_false (by omega)
  have hd4 : decide (n ≤ i) = false := decide_eq_false (by omega)
  go_enter Tryz.func39, Tryz.ntmps39
  go_wp2_with fail
  have hb1 := (Below.refl w.heap.size w).alloc (Nat.le_refl _) (.cells #[.string leaf] 9)
  refine (clone_calls v p _ (HV.out.on hb1) hl).mono ?_
  rintro e w2 ⟨v', rfl, ho, h2⟩
  have H12 := Lib.hid h2
  have H2 := Lib.hid (hb1.trans (h2.mono hb1.size))
  have hsc := ho.strc
  obtain ⟨ao, cap, rfl, hlc, hcm, hcells⟩ := hsc
  have HO := Lib.hid ho
  clear ho h2 hcells hb1
  go_wp2_with fail
  have hb3 := H2.out.alloc H2.out.size (.cells #[.slice ao p.length cap] 71)
  have hv3 : IsStrC (w2.alloc (.cells #[.slice ao p.length cap] 71)) (.slice ao p.length cap) p := HO.out.strc.on ((Below.refl _ _).alloc (Nat.le_refl _) _)
  refine (proper_calls _ p _ hv3 HS.out).mono ?_
  rintro e w4 ⟨rfl, h4⟩
  rw [HP.out]
  have H4 := Lib.hid h4
  clear h4 hb3 hv3
  go_wp2_with fail
  obtain ⟨hU, hR⟩ := setup (.func (Fn.func 69) #[] #[.pointer (some ⟨w.heap.size, 0, none⟩), .pointer (some ⟨w4.heap.size + 1, 0, none⟩), .pointer (some ⟨w4.heap.size + 1 + 1, 0, none⟩)]) _ _ H12.out HO.out hlc hcm HP.out H4.out HT.out
  have HU := Lib.hid hU
  clear hU
  refine (up_calls hx HU.out n i p.length false _ (by omega) hn hi (Nat.le_refl _) hR).mono ?_
  rintro e w5 ⟨rfl, h5⟩
  have H5 := Lib.hid h5
  clear h5 hR
  rw [List.take_length]
  have hvc := HU.out.vc H5.out
  have hcv : Hid (checkT root n i leaf p = (decide (p.length = lenT n i) && decide (upT n i (dg [sLeaf, leaf]) p = root))) := Lib.hid (check_val hn hi HP.out)
  have hB := Lib.hid (HU.out.below H5.out)
  generalize upT n i (dg [sLeaf, leaf]) p = u at *
  by_cases hq : u = root
  · have hq2 : (u.toList == root.toList) = true := by rw [hq]; simp
    go_wp2_with fail
    refine (done_calls HU.out.rd H5.out).mono ?_
    rintro e w6 ⟨rfl, rfl⟩
    rw [done_val]
    go_wp2
    go_ret
    exact ⟨by rw [hcv.out, decide_eq_true hq, Bool.and_true]; rfl, hB.out⟩
  · have hq2 : (u.toList == root.toList) = false := by rw [eqB]; exact decide_eq_false hq
    go_wp2
    go_ret
    exact ⟨by rw [hcv.out, decide_eq_false hq, Bool.and_false]; rfl, hB.out⟩
set_option maxHeartbeats 1000000 in
theorem check_bad (root : ByteArray) (n i : Int) (leaf : ByteArray) (v : Value) (p : List ByteArray) (w : World) (hv : IsStrC w v p) (hl : p.length ≤ 1099511627776) (hs : ∀ s ∈ p, s.size ≤ 1099511627776)
    (hb : ¬ (n ≤ 1000000 ∧ 0 ≤ i ∧ i < n)) :
    Calls Tryz.prog 39 #[.string root, .int .i64 n, .int .i64 i, .string leaf, v] w fun e w' => e = .returned (.bool false) ∧ Below w.heap.size w w' := by
  have HV := Lib.hid hv
  clear hv hs
  by_cases h1 : (1000000 : Int) < n
  · go_enter Tryz.func39, Tryz.ntmps39
    go_wp2_with fail
    have hb1 := (Below.refl w.heap.size w).alloc (Nat.le_refl _) (.cells #[.string leaf] 9)
    refine (clone_calls v p _ (HV.out.on hb1) hl).mono ?_
    rintro e w2 ⟨v', rfl, ho, h2⟩
    have H2 := Lib.hid (hb1.trans (h2.mono hb1.size))
    obtain ⟨ao, cap, rfl, _⟩ := ho.strc
    clear ho h2 hb1
    go_wp2
    go_ret
    exact ⟨rfl, H2.out.alloc H2.out.size _⟩
  · by_cases h2 : i < 0
    · go_enter Tryz.func39, Tryz.ntmps39
      go_wp2_with fail
      have hb1 := (Below.refl w.heap.size w).alloc (Nat.le_refl _) (.cells #[.string leaf] 9)
      refine (clone_calls v p _ (HV.out.on hb1) hl).mono ?_
      rintro e w2 ⟨v', rfl, ho, h2⟩
      have H2 := Lib.hid (hb1.trans (h2.mono hb1.size))
      obtain ⟨ao, cap, rfl, _⟩ := ho.strc
      clear ho h2 hb1
      go_wp2
      go_ret
      exact ⟨rfl, H2.out.alloc H2.out.size _⟩
    · have h3 : n ≤ i := by omega
      go_enter Tryz.func39, Tryz.ntmps39
      go_wp2_with fail
      have hb1 := (Below.refl w.heap.size w).alloc (Nat.le_refl _) (.cells #[.string leaf] 9)
      refine (clone_calls v p _ (HV.out.on hb1) hl).mono ?_
      rintro e w2 ⟨v', rfl, ho, h2⟩
      have H2 := Lib.hid (hb1.trans (h2.mono hb1.size))
      obtain ⟨ao, cap, rfl, _⟩ := ho.strc
      clear ho h2 hb1
      go_wp2
      go_ret
      exact ⟨rfl, H2.out.alloc H2.out.size _⟩
set_option maxHeartbeats 1000000 in
theorem check_improper (root : ByteArray) (n i : Int) (leaf : ByteArray) (v : Value) (p : List ByteArray) (w : World) (hv : IsStrC w v p) (hl : p.length ≤ 1099511627776) (hs : ∀ s ∈ p, s.size ≤ 1099511627776)
    (hn : n ≤ 1000000) (hi : 0 ≤ i) (hin : i < n) (hp : p.all isS = false) :
    Calls Tryz.prog 39 #[.string root, .int .i64 n, .int .i64 i, .string leaf, v] w fun e w' => e = .returned (.bool false) ∧ Below w.heap.size w w' := by
  have HV := Lib.hid hv
  have HS := Lib.hid hs
  have HP := Lib.hid hp
  clear hv hs hp
  go_enter Tryz.func39, Tryz.ntmps39
  go_wp2_with fail
  have hb1 := (Below.refl w.heap.size w).alloc (Nat.le_refl _) (.cells #[.string leaf] 9)
  refine (clone_calls v p _ (HV.out.on hb1) hl).mono ?_
  rintro e w2 ⟨v', rfl, ho, h2⟩
  have H2 := Lib.hid (hb1.trans (h2.mono hb1.size))
  have hsc := ho.strc
  obtain ⟨ao, cap, rfl, _⟩ := hsc
  have HO := Lib.hid ho
  clear ho h2 hb1
  go_wp2_with fail
  have hb3 := H2.out.alloc H2.out.size (.cells #[.slice ao p.length cap] 71)
  have hv3 : IsStrC (w2.alloc (.cells #[.slice ao p.length cap] 71)) (.slice ao p.length cap) p := HO.out.strc.on ((Below.refl _ _).alloc (Nat.le_refl _) _)
  refine (proper_calls _ p _ hv3 HS.out).mono ?_
  rintro e w4 ⟨rfl, h4⟩
  rw [HP.out]
  have H4 := Lib.hid (hb3.trans (h4.mono hb3.size))
  clear h4 hb3 hv3
  go_wp2
  go_ret
  exact ⟨rfl, H4.out⟩
theorem check_calls (root : ByteArray) (n i : Int) (leaf : ByteArray) (v : Value) (p : List ByteArray) (w : World) (hv : IsStrC w v p) (hl : p.length ≤ 1099511627776) (hs : ∀ s ∈ p, s.size ≤ 1099511627776)
    (hx : leaf.size ≤ 1099511627776) (hT : Tabs w) :
    Calls Tryz.prog 39 #[.string root, .int .i64 n, .int .i64 i, .string leaf, v] w fun e w' => e = .returned (.bool (checkT root n i leaf p)) ∧ Below w.heap.size w w' := by
  by_cases hb : n ≤ 1000000 ∧ 0 ≤ i ∧ i < n
  · cases hp : p.all isS with
    | true =>
      obtain ⟨a, rfl⟩ : ∃ a : Nat, n = (a : Int) := ⟨n.toNat, by omega⟩
      obtain ⟨b, rfl⟩ : ∃ b : Nat, i = (b : Int) := ⟨i.toNat, by omega⟩
      exact check_ok root a b leaf v p w hv hl hp hs hx (by omega) (by omega) hT
    | false =>
      have e : checkT root n i leaf p = false := by unfold checkT; rw [hp]; simp
      rw [e]
      exact check_improper root n i leaf v p w hv hl hs hb.1 hb.2.1 hb.2.2 hp
  · have e : checkT root n i leaf p = false := by
      unfold checkT
      by_cases h1 : n ≤ 1000000
      · by_cases h2 : 0 ≤ i
        · rw [decide_eq_false (by omega : ¬ i < n)]; simp
        · rw [decide_eq_false h2]; simp
      · rw [decide_eq_false h1]; simp
    rw [e]
    exact check_bad root n i leaf v p w hv hl hs hb
end Go.Proofs.YtpogffdbencfnaaGreatDoor
