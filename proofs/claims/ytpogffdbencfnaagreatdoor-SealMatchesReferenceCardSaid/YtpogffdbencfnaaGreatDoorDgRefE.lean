import Derived.Test.YtpogffdbencfnaaGreatDoorDgRefD
import Derived.OwnWalk
set_option linter.unusedVariables false
namespace Go.Proofs.YtpogffdbencfnaaGreatDoor
open Go Go.RowKit

/-- the capacity that Joined asks for -/
def needN : List ByteArray → Nat
  | [] => 0
  | s :: r => s.size + 21 + needN r
theorem needN_append (l m : List ByteArray) : needN (l ++ m) = needN l + needN m := by
  induction l with
  | nil => simp [needN]
  | cons s r ih => simp only [List.cons_append, needN, ih]; omega
theorem needN_take (l : List ByteArray) (i : Nat) (h : i < l.length) : needN (l.take (i + 1)) = needN (l.take i) + ((l.getD i ByteArray.empty).size + 21) := by
  rw [List.take_add_one, needN_append, List.getElem?_eq_getElem h]
  have e : l.getD i ByteArray.empty = l[i] := by simp [List.getD, List.getElem?_eq_getElem h]
  rw [e]
  simp [needN]
theorem needN_take_le (l : List ByteArray) (i : Nat) : needN (l.take i) ≤ needN l := by
  have := needN_append (l.take i) (l.drop i)
  rw [List.take_append_drop] at this
  omega

theorem cell_byte_new (w : World) (v : Value) (e : TypeId) : ∀ j u, [v][j]? = some u → (w.alloc (.cells #[v] e)).cell? ((⟨w.heap.size, 0, none⟩ : Addr).add j) = some u := by
  intro j u h
  match j, h with
  | 0, h =>
    simp only [List.getElem?_cons_zero, Option.some.injEq] at h
    subst h
    rw [Lib.add_plain, World.cell?_alloc_new]; rfl
set_option maxHeartbeats 1000000 in
set_option maxRecDepth 100000 in
theorem joined_calls (v : Value) (ls : List ByteArray) (w : World) (hv : IsStrs w v ls) (hN : needN ls ≤ 70368744177664) (hJ : (joinB ls).length ≤ 70368744177664) :
    Calls Tryz.prog 44 #[v] w fun e w' => e = .returned (.string (bS (joinB ls))) ∧ Below w.heap.size w w' := by
  obtain ⟨ao, cap, rfl, hmax, hcells⟩ := hv
  have HC := Lib.hid hcells
  clear hcells
  have hmx : ls.length ≤ 9223372036854775807 := hmax
  clear hmax
  obtain ⟨it, hti, hz0, hz1, hz2⟩ : ∃ i, Tryz.prog.info? 5 = some i ∧ i.zero = some (.int .u8 0) ∧ i.size = 1 ∧ i.bytes = 1 := info_parts (by kernel_rfl)
  have Hi := Lib.hid hti
  have Hz0 := Lib.hid hz0
  have Hz1 := Lib.hid hz1
  have Hz2 := Lib.hid hz2
  clear hti hz0 hz1 hz2
  go_enter Tryz.func44, Tryz.ntmps44
  go_wp2_with fail
  go_loop [3, 4] (fun vn vi => ∃ i n : Nat, vn = .int .i64 (n : Int) ∧ vi = .int .i64 (i : Int) ∧ i ≤ ls.length ∧ n ≤ 70368744177664 ∧ Hid (n = needN (ls.take i))) (fun _ vi => ls.length - (RowKit.intOf vi).toNat)
  case atStart => exact ⟨0, 0, rfl, rfl, by omega, by omega, Lib.hid rfl⟩
  case round =>
    obtain ⟨i, n, rfl, rfl, hi, hn, HI⟩ := hrel
    by_cases hlt : i < ls.length
    · obtain ⟨b, o, rfl, _, hc⟩ := HC.out i hlt
      have h1 := needN_take ls i hlt
      have h2 := needN_take_le ls (i + 1)
      generalize ls.getD i ByteArray.empty = s at *
      have h3 : n + (s.size + 21) ≤ 70368744177664 := by have := HI.out; omega
      have HI2 : Hid (n + (s.size + 21) = needN (ls.take (i + 1))) := by rw [h1, HI.out]; exact Lib.hid rfl
      clear h1 h2 HI
      go_wp2
      go_round
      case rel => exact ⟨i + 1, n + (s.size + 21), rfl, rfl, by omega, h3, HI2⟩
      case measure => simp only [RowKit.intOf]; omega
    · have e : i = ls.length := by omega
      clear HI
      go_wp2_with (at_make; refine wpList_make_own _ rfl _ _ 80 rfl w.heap.size 5 it (.int .u8 0) 1 Tryz.underlying80 Hi.out Hz0.out Hz1.out .i64 .i64 _ n rfl rfl rfl (by rw [Hz2.out]; omega) (by unfold maxLen; omega) (Nat.le_refl _) ?_)
      intro wm hown hgr
      have HB0 : Hid (Below w.heap.size w wm) := Lib.hid ((Below.refl _ w).grown hgr (Nat.le_refl _) (fun k hk => by cases hk))
      have HO0 : Hid (wm.ownsRow w.heap.size 5 1 (.slice (some ⟨w.heap.size, 0, none⟩) 0 n) (joinB (ls.take 0)).length (Lib.byteCells (joinB (ls.take 0)))) := Lib.hid hown
      clear hown hgr e hn
      go_wp2_with fail
      go_loopw [5, 6] (fun vo vi W => ∃ i : Nat, vi = .int .i64 (i : Int) ∧ i ≤ ls.length ∧ Hid (W.ownsRow w.heap.size 5 1 vo (joinB (ls.take i)).length (Lib.byteCells (joinB (ls.take i))) ∧ Below w.heap.size w W ∧ vo ≠ .slice none 0 0)) (fun _ vi _ => ls.length - (RowKit.intOf vi).toNat)
      case atStart => exact ⟨0, rfl, by omega, HO0.out, HB0.out, by intro e; cases e⟩
      case round =>
        clear HO0 HB0
        obtain ⟨i, rfl, hi, HI⟩ := hrel
        by_cases hlt : i < ls.length
        · obtain ⟨b, o, rfl, hbl, hc⟩ := HC.out i hlt
          have hcw : wr.cell? ⟨b, o + i, none⟩ = some (.string (ls.getD i ByteArray.empty)) := by rw [HI.out.2.1.cell (p := ⟨b, o + i, none⟩) hbl]; exact hc
          have HJ := Lib.hid (joinB_take ls i hlt)
          have HL := Lib.hid (joinB_take_le ls (i + 1))
          generalize ls.getD i ByteArray.empty = s at *
          have hlen : (joinB (ls.take i)).length + (Lib.decDigits s.size).length + 1 + s.size ≤ 70368744177664 := by
            have h1 := HL.out
            rw [HJ.out] at h1
            simp only [List.length_append, List.length_singleton, ← Lib.size_eq] at h1
            omega
          have hss : s.size ≤ 9223372036854775807 := by omega
          have hl2 : (itoaS s.size).size = (Lib.decDigits s.size).length := by rw [Lib.size_eq]; simp [itoaS]
          have HLEN := Lib.hid hlen
          have HL2 := Lib.hid hl2
          have HCELL := Lib.hid hc
          clear hlen hl2 hc
          go_wp2_with fail
          refine (decimal_calls s.size hss wr).mono ?_
          rintro e w1 ⟨rfl, rfl⟩
          go_wp2_with (at_builtin; refine Lib.wpList_append_own_string _ rfl (.tmp 29) (.tmp 35) 80 9 rfl w.heap.size 5 it Tryz.underlying80 Tryz.underlying9 Hi.out Hz0.out Hz1.out Hz2.out _ _ _ rfl HI.out.1 (itoaS s.size) rfl (by have := HLEN.out; have := HL2.out; unfold maxLen; omega) (by have := HLEN.out; have := HL2.out; omega) HI.out.2.1.size ?_)
          intro v1 wa hown1 hgr1 hnil1
          have H1 : Hid (wa.ownsRow w.heap.size 5 1 v1 ((joinB (ls.take i)).length + (itoaS s.size).size) (Lib.byteCells (joinB (ls.take i)) ++ Lib.strCells (itoaS s.size)) ∧ Below w.heap.size w wa ∧ v1 ≠ .slice none 0 0) :=
            Lib.hid ⟨hown1, HI.out.2.1.grown hgr1 HI.out.2.1.size (fun k hk => (HI.out.1.lt k hk).1), fun e => HI.out.2.2 (hnil1.1 e).1⟩
          clear hown1 hgr1 hnil1 HI hcw
          go_wp2_with (at_builtin; refine wpList_append_own _ rfl (.tmp 37) (.tmp 38) 80 rfl w.heap.size 5 it (.int .u8 0) 1 1 Tryz.underlying80 Hi.out Hz0.out Hz1.out Hz2.out rfl (by decide) _ _ _ rfl (H1.out.1.alloc _) ⟨wa.heap.size, 0, none⟩ 1 1 [.int .u8 58] rfl rfl (cell_byte_new _ _ _) (by simp [Value.oneCell']) (by have := HLEN.out; have := HL2.out; unfold maxLen; omega) (by have := HLEN.out; have := HL2.out; omega) (by have := H1.out.2.1.size; rw [World.size_alloc]; omega) ?_)
          intro v2 wb hown2 hgr2 hnil2
          have H2 : Hid (wb.ownsRow w.heap.size 5 1 v2 ((joinB (ls.take i)).length + (itoaS s.size).size + 1) (Lib.byteCells (joinB (ls.take i)) ++ Lib.strCells (itoaS s.size) ++ [.int .u8 58]) ∧ Below w.heap.size w wb ∧ v2 ≠ .slice none 0 0) :=
            Lib.hid ⟨by rw [List.append_assoc]; exact hown2, (H1.out.2.1.alloc H1.out.2.1.size _).grown hgr2 (by have := H1.out.2.1.size; rw [World.size_alloc]; omega) (fun k hk => (H1.out.1.lt k hk).1), hnil2⟩
          have hcw2 : wb.cell? ⟨b, o + i, none⟩ = some (.string s) := by rw [H2.out.2.1.cell (p := ⟨b, o + i, none⟩) hbl]; exact HCELL.out
          clear hown2 hgr2 hnil2 H1
          go_wp2_with (at_builtin; refine Lib.wpList_append_own_string _ rfl (.tmp 40) (.tmp 44) 80 9 rfl w.heap.size 5 it Tryz.underlying80 Tryz.underlying9 Hi.out Hz0.out Hz1.out Hz2.out _ _ _ rfl H2.out.1 s rfl (by have := HLEN.out; have := HL2.out; unfold maxLen; omega) (by have := HLEN.out; have := HL2.out; omega) H2.out.2.1.size ?_)
          intro v3 wc hown3 hgr3 hnil3
          have H3 : Hid (wc.ownsRow w.heap.size 5 1 v3 (joinB (ls.take (i + 1))).length (Lib.byteCells (joinB (ls.take (i + 1)))) ∧ Below w.heap.size w wc ∧ v3 ≠ .slice none 0 0) := by
            refine Lib.hid ⟨?_, H2.out.2.1.grown hgr3 H2.out.2.1.size (fun k hk => (H2.out.1.lt k hk).1), fun e => H2.out.2.2 (hnil3.1 e).1⟩
            rw [HJ.out]
            have e1 : Lib.byteCells (joinB (ls.take i) ++ (Lib.decDigits s.size ++ [58] ++ s.data.toList)) = Lib.byteCells (joinB (ls.take i)) ++ Lib.strCells (itoaS s.size) ++ [.int .u8 58] ++ Lib.strCells s := by
              simp [Lib.byteCells, Lib.strCells, itoaS]
            have e2 : (joinB (ls.take i) ++ (Lib.decDigits s.size ++ [58] ++ s.data.toList)).length = (joinB (ls.take i)).length + (itoaS s.size).size + 1 + s.size := by
              have := HL2.out
              simp only [List.length_append, List.length_singleton, ← Lib.size_eq]
              omega
            rw [e1, e2]
            simp only [List.append_assoc, List.cons_append, List.nil_append]
            exact hown3
          clear hown3 hgr3 hnil3 H2 hcw2
          go_wp2
          go_round
          case rel => exact ⟨i + 1, rfl, by omega, H3.out⟩
          case measure => simp only [RowKit.intOf]; omega
        · have e : i = ls.length := by omega
          subst e
          have HO : Hid (wr.ownsRow w.heap.size 5 1 u5 (joinB ls).length (Lib.byteCells (joinB ls))) := by
            have := HI.out.1
            rw [List.take_length] at this
            exact Lib.hid this
          have HB := Lib.hid HI.out.2.1
          obtain ⟨g, cap', rfl⟩ : ∃ g cap', u5 = .slice (some ⟨g, 0, none⟩) (joinB ls).length cap' := by
            rcases HO.out.2 with ⟨e, _⟩ | ⟨g', cap', cur, e, _⟩
            · exact absurd e HI.out.2.2
            · exact ⟨g', cap', e⟩
          have hcv : (convert 80 9 (.slice (some ⟨g, 0, none⟩) (joinB ls).length cap')).run Tryz.prog wr = .ok (.string (bS (joinB ls))) wr :=
            run_convert_bytes_back (P := Tryz.prog) wr 80 9 5 ⟨g, 0, none⟩ cap' (joinB ls) Tryz.underlying80 Tryz.underlying5 Tryz.underlying9 (fun j hj => by
              refine HO.out.cells rfl j _ ?_
              simp [Lib.byteCells, List.getElem?_eq_getElem hj])
          clear HI HO
          generalize (joinB ls).length = jl at *
          go_wp2
          go_ret
          exact ⟨rfl, HB.out⟩
end Go.Proofs.YtpogffdbencfnaaGreatDoor
