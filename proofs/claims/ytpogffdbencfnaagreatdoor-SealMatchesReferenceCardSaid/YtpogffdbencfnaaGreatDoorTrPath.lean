import Derived.Test.YtpogffdbencfnaaGreatDoorTrRoot
import Derived.Test.YtpogffdbencfnaaGreatDoorShelf
import Derived.OwnWalk
set_option linter.unusedVariables false
namespace Go.Proofs.YtpogffdbencfnaaGreatDoor
open Go Go.RowKit

def Own (B : Nat) (w : World) (v : Value) (l : List ByteArray) : Prop := w.ownsRow B 9 1 v l.length (l.map Value.string)
theorem Own.nil (B : Nat) (w : World) : Own B w (.slice none 0 0) [] := World.ownsRow_nil w B _ 1
theorem Own.on {B : Nat} {w w' : World} {v : Value} {l : List ByteArray} (h : Own B w v l) (hb : Below w.heap.size w w') : Own B w' v l := by
  refine World.ownsRow.kept h (grownBy_of_below hb) ?_
  by_cases hn : v.ownBlock = none
  · exact .inl hn
  · exact .inr hn
theorem Own.strc {B : Nat} {w : World} {v : Value} {l : List ByteArray} (h : Own B w v l) : IsStrC w v l := by
  have hlt := World.ownsRow.lt h
  have hcell := @World.ownsRow.cells _ _ _ _ _ _ _ h
  obtain ⟨h1, ⟨rfl, h2⟩ | ⟨g, cap, cur, rfl, h2, h3, h4, h5, h6, h7⟩⟩ := h
  · have : l = [] := List.eq_nil_of_length_eq_zero h2
    subst this
    exact strc_nil w
  · refine ⟨some ⟨g, 0, none⟩, cap, rfl, h4, h5, fun i hi => ⟨g, 0, rfl, (hlt g rfl).2, ?_⟩⟩
    have := hcell rfl i (.string (l.getD i ByteArray.empty)) (by simp [List.getD, hi])
    rwa [Lib.add_plain] at this
theorem below_cells {B : Nat} {a : World} (b : Nat) (hb : B ≤ b) : ∀ (vs : List Value) (o : Nat) {w : World}, Below B a w → Below B a (w.setCells b o vs)
  | [], _, _, h => h
  | v :: r, o, _, h => below_cells b hb r (o + 1) (h.setCell (p := ⟨b, o, none⟩) hb v)
theorem size_cells (b : Nat) : ∀ (vs : List Value) (o : Nat) (w : World), (w.setCells b o vs).heap.size = w.heap.size
  | [], _, _ => rfl
  | v :: r, o, w => by rw [World.setCells, size_cells b r, World.size_setCell]
theorem below_drewN {B : Nat} {a w : World} (h : Below B a w) (q : Nat) : Below B a (w.drewN q) := ⟨h.os, h.tape, h.output, h.size, h.block⟩
theorem rev_new (B : Nat) (v : Value) (acc : List ByteArray) (w0 w : World) (ho : Own B w v acc) (hb : Below B w0 w) (hn : acc.length ≤ 1099511627776) :
    Calls Tryz.prog 62 #[v] w fun e w' => e = .returned (.tuple #[]) ∧ IsStrC w' v acc.reverse ∧ Below B w0 w' ∧ w.heap.size ≤ w'.heap.size := by
  have hsc := ho.strc
  match acc, ho, hn, hsc with
  | [], ho, hn, hsc =>
    obtain ⟨ao, cap, rfl, h2, h3, h4⟩ := hsc
    refine (Tryz.slices_Reverse_string_empty ao cap w).mono ?_
    rintro e w' ⟨rfl, rfl⟩
    exact ⟨rfl, ⟨ao, cap, rfl, h2, h3, h4⟩, hb, Nat.le_refl _⟩
  | x :: r, ho, hn, hsc =>
    obtain ⟨z, hz⟩ : ∃ z, z = x :: r := ⟨_, rfl⟩
    rw [← hz] at ho hn hsc ⊢
    obtain ⟨ao, cap, rfl, h2, h3, h4⟩ := hsc
    obtain ⟨g, o, rfl, hlt, _⟩ := h4 0 (by rw [hz]; simp)
    have ho' := ho
    obtain ⟨h1, ⟨he, _⟩ | ⟨g', cap', cur, he, hB, hblk, _⟩⟩ := ho'
    · cases he
    · simp only [Value.slice.injEq, Option.some.injEq, Addr.mk.injEq] at he
      obtain ⟨⟨rfl, rfl, _⟩, _, rfl⟩ := he
      refine (Tryz.slices_Reverse_string_cells g 0 z.length cap (fun i => z.getD i ByteArray.empty) w (by omega) (fun i hi => ?_) (fun j hj => ?_)).mono ?_
      · obtain ⟨b', o', e, _, hc⟩ := h4 i hi
        simp only [Option.some.injEq, Addr.mk.injEq] at e
        obtain ⟨rfl, rfl, _⟩ := e
        exact hc
      · rw [Nat.zero_add]; exact World.ownsRow.frozenAt ho j
      · rintro e w' ⟨rfl, q, rfl⟩
        have hl : (Lib.strsOf (fun i => z.getD i ByteArray.empty) z.length) = z.map (fun s => s.data.toList) := by
          apply List.ext_getElem
          · simp [Lib.strsOf]
          · intro i h1 h2
            simp [Lib.strsOf] at h1 ⊢
            simp [h1]
        rw [hl]
        refine ⟨rfl, ⟨_, cap, by rw [List.length_reverse], by rw [List.length_reverse]; exact h2, h3, fun i hi => ⟨g, 0, rfl, ?_, ?_⟩⟩, ?_, ?_⟩
        · rw [size_cells]; exact hlt
        · rw [List.length_reverse] at hi
          have := World.cell?_setCells_in g ((z.map (fun s => s.data.toList)).reverse.map encStr) 0 (w.drewN q) (fun j hj => ?_) i (by simpa using hi)
          · rw [this]
            simp [List.getD, hi]
          · obtain ⟨b', o', e, _, hc⟩ := h4 j (by simpa using hj)
            simp only [Option.some.injEq, Addr.mk.injEq] at e
            obtain ⟨rfl, rfl, _⟩ := e
            show (w.cell? ⟨g, 0 + j, none⟩).isSome = true
            rw [hc]; rfl
        · exact below_cells g hB _ 0 (below_drewN hb q)
        · rw [size_cells]; exact Nat.le_refl _
theorem rev_calls (B : Nat) (v : Value) (acc : List ByteArray) (w0 w : World) (ho : Own B w v acc) (hb : Below B w0 w) (hn : acc.length ≤ 1099511627776) :
    Calls Tryz.prog 62 #[v] w fun e w' => e = .returned (.tuple #[]) ∧ IsStrC w' v acc.reverse ∧ Below B w0 w' :=
  (rev_new B v acc w0 w ho hb hn).mono fun e w' ⟨h1, h2, h3, _⟩ => ⟨h1, h2, h3⟩
def sliceLen : Value → Nat
  | .slice _ n _ => n
  | _ => 0
set_option maxRecDepth 100000 in
set_option maxHeartbeats 1000000 in
theorem path_new (l0 : List ByteArray) (v : Value) (i0 : Nat) (w : World) (hv : IsStrC w v l0) (hs : ∀ s ∈ l0, s.size ≤ 1099511627776) (hl0 : l0.length ≤ 1099511627776) (hi0 : i0 < l0.length) (hT : Tabs w) :
    Calls Tryz.prog 28 #[v, .int .i64 (i0 : Int)] w fun e w' => ∃ v', e = .returned (.tuple #[v', .int .i64 0]) ∧ IsStrC w' v' (pathT l0 i0) ∧ (∀ b, v'.ownBlock = some b → w.heap.size ≤ b ∧ b < w'.heap.size) ∧ Below w.heap.size w w' := by
  have HV0 := Lib.hid hv
  have HT := Lib.hid hT
  have HS := Lib.hid hs
  clear hT hs
  obtain ⟨it, hti, hz0, hz1, hz2⟩ : ∃ i, Tryz.prog.info? 9 = some i ∧ i.zero = some (.string ByteArray.empty) ∧ i.size = 1 ∧ i.bytes = 16 := info_parts (by kernel_rfl)
  have Hi := Lib.hid hti
  have Hz0 := Lib.hid hz0
  have Hz1 := Lib.hid hz1
  have Hz2 := Lib.hid hz2
  clear hti hz0 hz1 hz2
  obtain ⟨ao0, cap0, rfl, hlc, hmax, hcells⟩ := hv
  clear hcells hlc hmax
  have hd1 : decide ((i0 : Int) < 0) = false := decide_eq_false (by omega)
  have hd2 : decide (l0.length ≤ i0) = false := decide_eq_false (by omega)
  go_enter Tryz.func28, Tryz.ntmps28
  go_wp2_with fail
  clear hd1 hd2
  go_loopw [0, 1, 6] (fun v0 v1 v6 W => ∃ (ao : Option Addr) (cap : Nat) (l : List ByteArray) (i : Nat) (acc : List ByteArray), v0 = .slice ao l.length cap ∧ v1 = .int .i64 (i : Int) ∧ i < l.length ∧ acc.length + l.length ≤ l0.length ∧ Hid (Own w.heap.size W v6 acc ∧ IsStrC w (.slice ao l.length cap) l ∧ pathT l0 i0 = pathT l i ++ acc.reverse ∧ ∀ s ∈ l, s.size ≤ 1099511627776) ∧ Hid (Below w.heap.size w W)) (fun v0 _ _ _ => sliceLen v0)
  case atStart => exact ⟨ao0, cap0, l0, i0, [], rfl, rfl, hi0, by simp, Lib.hid ⟨Own.nil _ _, HV0.out, by simp, HS.out⟩, Lib.hid (Below.refl _ _)⟩
  case round =>
    obtain ⟨ao, cap, l, i, acc, rfl, rfl, hi, hacc, HX, HB⟩ := hrel
    clear HV0 HS hi0
    by_cases h2 : 2 ≤ l.length
    · have hcell := HX.out.2.1
      obtain ⟨ao', cap', he, hlc, hmax, hcells⟩ := hcell
      simp only [Value.slice.injEq] at he
      obtain ⟨rfl, _, rfl⟩ := he
      obtain ⟨b, o, rfl, hlt, hc0⟩ := hcells 0 (by omega)
      clear hcells hc0
      have hk1 := half_lt h2
      have hk0 := half_pos h2
      have hl1 : (l.take (half l.length)).length = half l.length := by rw [List.length_take]; omega
      have hl2 : (l.drop (half l.length)).length = l.length - half l.length := by rw [List.length_drop]
      have HV1 := Lib.hid (HX.out.2.1.take (half l.length) (by omega))
      have HV2 := Lib.hid (HX.out.2.1.drop (half l.length) (by omega))
      have hsl1 := run_slice_to (b := b) (o := o) (n := l.length) (cap := cap) (k := half l.length) (by omega)
      have hsl2 := run_slice_from (b := b) (o := o) (n := l.length) (cap := cap) (k := half l.length) (by omega) (by omega) (by omega)
      have HI1 := Lib.hid (root_calls _ (l.take (half l.length)) _ wr rfl (HV1.out.on HB.out) (fun s hs => HX.out.2.2.2 s (List.mem_of_mem_take hs)) (by omega) (HT.out.on HB.out))
      have HI2 := Lib.hid (root_calls _ (l.drop (half l.length)) _ wr rfl (HV2.out.on HB.out) (fun s hs => HX.out.2.2.2 s (List.mem_of_mem_drop hs)) (by omega) (HT.out.on HB.out))
      have HH := Lib.hid (fun W => half_calls l.length h2 (by omega) W)
      have HP : Hid (pathT l i = if i < half l.length then pathT (l.take (half l.length)) i ++ [rootT (l.drop (half l.length))] else pathT (l.drop (half l.length)) (i - half l.length) ++ [rootT (l.take (half l.length))]) := by
        rw [pathT, dif_neg (by omega)]; exact Lib.hid rfl
      generalize rootT (l.take (half l.length)) = r1 at *
      generalize rootT (l.drop (half l.length)) = r2 at *
      have hn1 : 1 < l.length := by omega
      clear hlc hmax h2
      by_cases hik : i < half l.length
      · have hik' : (i : Int) < (half l.length : Nat) := by omega
        have HP : Hid (pathT l0 i0 = pathT (l.take (half l.length)) i ++ [r2] ++ acc.reverse) := by rw [HX.out.2.2.1, HP.out, if_pos hik]; exact Lib.hid rfl
        go_wp2_with fail
        refine (HH.out _).mono ?_
        rintro e w1 ⟨rfl, rfl⟩
        go_wp2_with fail
        refine (HI2.out).mono ?_
        rintro e w2 ⟨rfl, h2⟩
        have H2 := Lib.hid (HB.out.trans (h2.mono HB.out.size))
        have HO2 : Hid (Own w.heap.size w2 u6 acc) := Lib.hid (HX.out.1.on h2)
        clear h2
        go_wp2_with (at_builtin; refine wpList_append_own _ rfl (.tmp 25) (.tmp 30) 22 rfl w.heap.size 9 it (.string ByteArray.empty) 1 16 Tryz.underlying22 Hi.out Hz0.out Hz1.out Hz2.out rfl (by decide) _ _ _ rfl (HO2.out.alloc _) ⟨w2.heap.size, 0, none⟩ 1 1 [.string r2] rfl rfl (cell_byte_new _ _ _) (by simp [Value.oneCell']) (by unfold maxLen; omega) (by omega) (by have := H2.out.size; rw [World.size_alloc]; omega) ?_)
        intro v' w3 hown hgr hnil
        have HO3 : Hid (Own w.heap.size w3 v' (acc ++ [r2])) := by
          unfold Own
          rw [List.length_append, List.map_append]
          exact Lib.hid hown
        have H3 : Hid (Below w.heap.size w w3) := Lib.hid ((H2.out.alloc H2.out.size _).grown hgr (by have := H2.out.size; rw [World.size_alloc]; omega) (fun k hk => (World.ownsRow.lt HO2.out k hk).1))
        have HV3 : Hid (IsStrC w (.slice (some ⟨b, o, none⟩) (l.take (half l.length)).length cap) (l.take (half l.length))) := by rw [hl1]; exact HV1
        clear hown hgr hnil HO2 H2
        go_wp2
        go_round
        case rel => exact ⟨(some ⟨b, o, none⟩), cap, l.take (half l.length), i, acc ++ [r2], by rw [hl1], rfl, by omega, by rw [List.length_append]; simp; omega, Lib.hid ⟨HO3.out, HV3.out, by rw [HP.out, List.reverse_append]; simp, fun s hs => HX.out.2.2.2 s (List.mem_of_mem_take hs)⟩, H3⟩
        case measure => simp only [sliceLen]; omega
      · have hik' : ¬ (i : Int) < (half l.length : Nat) := by omega
        have HP : Hid (pathT l0 i0 = pathT (l.drop (half l.length)) (i - half l.length) ++ [r1] ++ acc.reverse) := by rw [HX.out.2.2.1, HP.out, if_neg hik]; exact Lib.hid rfl
        go_wp2_with fail
        refine (HH.out _).mono ?_
        rintro e w1 ⟨rfl, rfl⟩
        go_wp2_with fail
        refine (HI1.out).mono ?_
        rintro e w2 ⟨rfl, h2⟩
        have H2 := Lib.hid (HB.out.trans (h2.mono HB.out.size))
        have HO2 : Hid (Own w.heap.size w2 u6 acc) := Lib.hid (HX.out.1.on h2)
        clear h2
        go_wp2_with (at_builtin; refine wpList_append_own _ rfl (.tmp 35) (.tmp 40) 22 rfl w.heap.size 9 it (.string ByteArray.empty) 1 16 Tryz.underlying22 Hi.out Hz0.out Hz1.out Hz2.out rfl (by decide) _ _ _ rfl (HO2.out.alloc _) ⟨w2.heap.size, 0, none⟩ 1 1 [.string r1] rfl rfl (cell_byte_new _ _ _) (by simp [Value.oneCell']) (by unfold maxLen; omega) (by omega) (by have := H2.out.size; rw [World.size_alloc]; omega) ?_)
        intro v' w3 hown hgr hnil
        have HO3 : Hid (Own w.heap.size w3 v' (acc ++ [r1])) := by
          unfold Own
          rw [List.length_append, List.map_append]
          exact Lib.hid hown
        have H3 : Hid (Below w.heap.size w w3) := Lib.hid ((H2.out.alloc H2.out.size _).grown hgr (by have := H2.out.size; rw [World.size_alloc]; omega) (fun k hk => (World.ownsRow.lt HO2.out k hk).1))
        have HV3 : Hid (IsStrC w (.slice (some ⟨b, o + half l.length, none⟩) (l.drop (half l.length)).length (cap - half l.length)) (l.drop (half l.length))) := by rw [hl2]; exact HV2
        clear hown hgr hnil HO2 H2
        go_wp2
        go_round
        case rel => exact ⟨(some ⟨b, o + half l.length, none⟩), (cap - half l.length), l.drop (half l.length), i - half l.length, acc ++ [r1], by rw [hl2], by congr 1; omega, by omega, by rw [List.length_append]; simp; omega, Lib.hid ⟨HO3.out, HV3.out, by rw [HP.out, List.reverse_append]; simp, fun s hs => HX.out.2.2.2 s (List.mem_of_mem_drop hs)⟩, H3⟩
        case measure => simp only [sliceLen]; omega
    · have he : l.length = 1 := by omega
      have HE : Hid (pathT l0 i0 = acc.reverse) := by rw [HX.out.2.2.1, pathT, dif_pos (by omega)]; exact Lib.hid rfl
      rw [he] at *
      go_wp2_with fail
      refine (rev_new w.heap.size u6 acc w wr HX.out.1 HB.out (by omega)).mono ?_
      rintro e w1 ⟨rfl, h1, h2, h3⟩
      have HLT : Hid (∀ b, u6.ownBlock = some b → w.heap.size ≤ b ∧ b < w1.heap.size) := Lib.hid (fun b hb => ⟨(World.ownsRow.lt HX.out.1 b hb).1, Nat.lt_of_lt_of_le (World.ownsRow.lt HX.out.1 b hb).2 h3⟩)
      clear h3
      go_wp2
      go_ret2
      exact ⟨_, rfl, by rw [HE.out]; exact h1, HLT.out, h2⟩
theorem path_ok (l0 : List ByteArray) (v : Value) (i0 : Nat) (w : World) (hv : IsStrC w v l0) (hs : ∀ s ∈ l0, s.size ≤ 1099511627776) (hl0 : l0.length ≤ 1099511627776) (hi0 : i0 < l0.length) (hT : Tabs w) :
    Calls Tryz.prog 28 #[v, .int .i64 (i0 : Int)] w fun e w' => ∃ v', e = .returned (.tuple #[v', .int .i64 0]) ∧ IsStrC w' v' (pathT l0 i0) ∧ Below w.heap.size w w' :=
  (path_new l0 v i0 w hv hs hl0 hi0 hT).mono fun e w' ⟨v', h1, h2, _, h3⟩ => ⟨v', h1, h2, h3⟩
end Go.Proofs.YtpogffdbencfnaaGreatDoor
