import Derived.Test.YtpogffdbencfnaaGreatDoorSlIt
import Derived.Test.YtpogffdbencfnaaGreatDoorKn
import Derived.Test.YtpogffdbencfnaaGreatDoorTrFk
import Derived.Test.YtpogffdbencfnaaGreatDoorTrState
import Derived.RangeFuncWrites
import Derived.BigQuiet
set_option linter.unusedVariables false
namespace Go.Proofs.YtpogffdbencfnaaGreatDoor
open Go Go.RowKit Go.Shelf

theorem calls_of_wp_marks {n : Nat} {P : Program} {f : FuncId} {fn : Func} {c : Code} {args : Array Value} {w : World} {R : Ending → World → Prop}
    (hf : P.funcs[f]? = some fn) (hb : fn.body = some c) (h : c.wp P (bodyPostM Fence.wide n P fn R) { tmps := args ++ Array.replicate (fn.ntmps - args.size) undef, defers := [] } w) : Calls P f args w R :=
  callsIn_wide.1 (callsIn_of_wp_marks hf hb trivial (wpIn_wide.2 h))
theorem wp_normal {P : Program} {c : Code} {K : Act → World → Prop} {Q' : Exit → Act → World → Prop} {a : Act} {w : World} (h : c.wp P (Exit.then K (fun _ _ _ => False)) a w) : c.wp P (Exit.then K Q') a w :=
  wp_mono h fun e _ _ hq => by cases e <;> first | exact hq | exact hq.elim
theorem own_cells {B : Nat} {w : World} {v : Value} {l : List ByteArray} (h : Own B w v l) {b : Nat} (hb : v.ownBlock = some b) : ∃ cs t f, w.heap[b]? = some (.cells cs t f) := by
  rcases h.2 with ⟨rfl, _⟩ | ⟨g, cap, cur, rfl, hB, hgg, rest⟩
  · cases hb
  · cases hb; exact ⟨_, _, _, hgg⟩
theorem old_block {B b : Nat} {w w' : World} (h : Below B w w') (hb : b < B) (hw : b < w.heap.size) : w'.heap[b]? = w.heap[b]? := h.block b hb
/-- a seal under way: its block, the texts that its second field holds -/
def SigAt (ob : Nat) (T : TypeId) (x : Value) (W1 : World) (l : List ByteArray) (W : World) : Prop :=
  ∃ v, W.heap[ob]? = some (.cells #[x, v, .slice none 0 0] T (0, 0)) ∧ Own (ob + 1) W v l ∧ Below ob W1 W
theorem sigAt_from {β : Type} {ob : Nat} {T : TypeId} {x : Value} {W1 : World} (f : β → List ByteArray) {B : Nat} (hB : ob + 1 ≤ B) (hob : ob ≤ W1.heap.size) : OwnFrom B (fun s W => SigAt ob T x W1 (f s) W) := by
  rintro s W W' row ⟨v, h1, h2, h3⟩ hg hr
  have hk : ∀ k cs t fr, W.heap[k]? = some (Obj.cells cs t fr) → W'.heap[k]? = W.heap[k]? := fun k cs t fr hk => hg.block k (Array.getElem?_eq_some_iff.1 hk).1 (fun e => by
    obtain ⟨_, o, ho, hc⟩ := hr k e.symm
    rw [hk] at ho; cases ho; cases hc)
  have hlt : ob < W.heap.size := (Array.getElem?_eq_some_iff.1 h1).1
  have hb : Below (ob + 1) W W' := ⟨hg.os, hg.tape, hg.output, hg.size, fun k hk2 => hg.block k (by omega) (fun e => by have := (hr k e.symm).1; omega)⟩
  refine ⟨v, (hk _ _ _ _ h1).trans h1, ?_, h3.trans (hb.mono (by omega))⟩
  exact ownF_stable (ob + 1) (f s) W W' v hb (fun b hb2 => by
    obtain ⟨cs, t, fr, he⟩ := own_cells h2 hb2
    exact hk b cs t fr he) h2
theorem keeps_of {W W' : World} {S : Nat → Prop} (hs : W.heap.size ≤ W'.heap.size) (hk : ∀ b, b < W.heap.size → ¬ S b → W'.heap[b]? = W.heap[b]?) (hc : ∀ b, S b → ∃ cs t f, W.heap[b]? = some (.cells cs t f)) : KeepsOthers W W' :=
  ⟨hs, fun k o hk2 ho => by
    refine (hk k (Array.getElem?_eq_some_iff.1 hk2).1 (fun h => ?_)).trans hk2
    obtain ⟨cs, t, f, he⟩ := hc k h
    rw [hk2] at he; cases he; cases ho⟩
theorem letsOut_then {K : Act → World → Prop} {Q : Exit → Act → World → Prop} (h : ¬ LetsOut Q) : ¬ LetsOut (Exit.then K Q) := fun ⟨a, w, hq⟩ => h ⟨a, w, hq⟩
theorem letsOut_own {α : Type} {Kp : World → World → Prop} {I : List α → World → Prop} {Ix : Code → List α → World → Prop} {xs : List α} {W : World} : ¬ LetsOut (ownPostK Kp I Ix xs W) := fun ⟨_, _, h⟩ => h
theorem chainN_nat (n : Nat) (h : n ≤ 1000) : chainN (n : Int) = n := by unfold chainN; split <;> (try split) <;> omega
theorem sig_map (secret : ByteArray) (i : Nat) (m : ByteArray) : (digP 18).map (fun x => chainS (startT secret i x.val) (digA m x.val)) = sigT secret i m := digP_map (fun k => chainS (startT secret i k) ((digsT m).getD k 0))
theorem keys_sizes (secret : ByteArray) (h : Nat) : ∀ s ∈ keysT secret h, s.size ≤ 1099511627776 := fun s hs => by
  unfold keysT at hs
  obtain ⟨i, _, rfl⟩ := List.mem_map.1 hs
  rw [keyT_size]; omega
theorem strc_form {w : World} {v : Value} {l : List ByteArray} (h : IsStrC w v l) : ∃ ao cap, v = .slice ao l.length cap := by
  obtain ⟨ao, cap, e, _⟩ := h
  exact ⟨ao, cap, e⟩
theorem sign_end {W : World} {rb D : Nat} {x v p : Value} {T : TypeId} (hr : W.heap[rb]? = some (.cells #[.int .i64 0, .slice none 0 0, .slice none 0 0] T (0, 0))) (hD : W.heap[D]? = some (.deferred (some []))) :
    (((W.setCell ⟨rb, 0, none⟩ x).setCell ⟨rb, 1, none⟩ v).setCell ⟨rb, 2, none⟩ p).heap[D]? = some (.deferred (some [])) ∧
    ((((W.setCell ⟨rb, 0, none⟩ x).setCell ⟨rb, 1, none⟩ v).setCell ⟨rb, 2, none⟩ p).putObj D (.deferred none)).heap[rb]? = some (.cells #[x, v, p] T (0, 0)) ∧
    (∀ b o s, W.cell? ⟨b, o, none⟩ = some (.string s) → ((((W.setCell ⟨rb, 0, none⟩ x).setCell ⟨rb, 1, none⟩ v).setCell ⟨rb, 2, none⟩ p).putObj D (.deferred none)).cell? ⟨b, o, none⟩ = some (.string s)) ∧
    W.heap.size ≤ ((((W.setCell ⟨rb, 0, none⟩ x).setCell ⟨rb, 1, none⟩ v).setCell ⟨rb, 2, none⟩ p).putObj D (.deferred none)).heap.size ∧
    ∀ B, B ≤ rb → B ≤ D → Below B W ((((W.setCell ⟨rb, 0, none⟩ x).setCell ⟨rb, 1, none⟩ v).setCell ⟨rb, 2, none⟩ p).putObj D (.deferred none)) := by
  have hne : rb ≠ D := fun e => by subst e; rw [hr] at hD; cases hD
  have h1 := heap_set_same W rb 0 x _ _ _ hr
  have h2 := heap_set_same _ rb 1 v _ _ _ h1
  have h3 := heap_set_same _ rb 2 p _ _ _ h2
  have hk : ∀ k, k ≠ rb → (((W.setCell ⟨rb, 0, none⟩ x).setCell ⟨rb, 1, none⟩ v).setCell ⟨rb, 2, none⟩ p).heap[k]? = W.heap[k]? := fun k hk => by
    rw [heap_set_other _ rb 2 p k hk, heap_set_other _ rb 1 v k hk, heap_set_other _ rb 0 x k hk]
  have hsz : (((W.setCell ⟨rb, 0, none⟩ x).setCell ⟨rb, 1, none⟩ v).setCell ⟨rb, 2, none⟩ p).heap.size = W.heap.size := by simp only [World.size_setCell]
  have hDF := (hk D (Ne.symm hne)).trans hD
  have hBF : ∀ B, B ≤ rb → Below B W (((W.setCell ⟨rb, 0, none⟩ x).setCell ⟨rb, 1, none⟩ v).setCell ⟨rb, 2, none⟩ p) := fun B hB => (((Below.refl _ _).setCell (p := ⟨rb, 0, none⟩) hB x).setCell (p := ⟨rb, 1, none⟩) hB v).setCell (p := ⟨rb, 2, none⟩) hB p
  generalize (((W.setCell ⟨rb, 0, none⟩ x).setCell ⟨rb, 1, none⟩ v).setCell ⟨rb, 2, none⟩ p) = WF at *
  have hg := grownBy_putObj' WF D (.deferred none)
  have hrF : (WF.putObj D (.deferred none)).heap[rb]? = WF.heap[rb]? := hg.block rb (Array.getElem?_eq_some_iff.1 h3).1 (fun e => hne (Option.some.inj e))
  refine ⟨hDF, hrF.trans h3, fun b o s hc => ?_, by have := hg.size; omega, fun B h4 h5 => ?_⟩
  · have hlt := World.block_lt_of_cell? W _ hc
    have hb1 : b ≠ rb := fun e => by
      subst e
      rw [cell_of_row _ _ o _ _ _ hr] at hc
      match o, hc with
      | 0, hc => simp at hc
      | 1, hc => simp at hc
      | 2, hc => simp at hc
      | o + 3, hc => simp at hc
    have hb2 : b ≠ D := fun e => by
      subst e
      simp [World.cell?, hD] at hc
    have : (WF.putObj D (.deferred none)).heap[b]? = W.heap[b]? := (hg.block b (by have : b < W.heap.size := hlt; omega) (fun e => hb2 (Option.some.inj e))).trans (hk b hb1)
    rw [World.cell?_of_block (a := ⟨b, o, none⟩) this]; exact hc
  · have h6 := hBF B h4
    refine h6.trans ⟨hg.os, hg.tape, hg.output, hg.size, fun k hk2 => hg.block k ?_ (fun e => by have := Option.some.inj e; omega)⟩
    have := (Array.getElem?_eq_some_iff.1 hDF).1
    omega
theorem push_old (h : Array Obj) (o : Obj) (k : Nat) (hk : k < h.size) : (h.push o)[k]? = h[k]? := by rw [Array.getElem?_push, if_neg (by omega)]
theorem push_at (h : Array Obj) (o : Obj) (k : Nat) (hk : k = h.size) : (h.push o)[k]? = some o := by subst hk; simp
theorem heap_five (w : World) (q : Nat) (a b c d e : Obj) :
    let W := (((((w.alloc a).alloc b).alloc c).drewN q).alloc d).alloc e
    W.heap.size = w.heap.size + 5 ∧ W.heap[w.heap.size]? = some a ∧ W.heap[w.heap.size + 1]? = some b ∧ W.heap[w.heap.size + 1 + 1]? = some c ∧ W.heap[w.heap.size + 1 + 1 + 1]? = some d ∧ W.heap[w.heap.size + 1 + 1 + 1 + 1]? = some e := by
  show (((((w.heap.push a).push b).push c).push d).push e).size = _ ∧ (((((w.heap.push a).push b).push c).push d).push e)[w.heap.size]? = _ ∧ (((((w.heap.push a).push b).push c).push d).push e)[w.heap.size + 1]? = _ ∧ (((((w.heap.push a).push b).push c).push d).push e)[w.heap.size + 1 + 1]? = _ ∧ (((((w.heap.push a).push b).push c).push d).push e)[w.heap.size + 1 + 1 + 1]? = _ ∧ (((((w.heap.push a).push b).push c).push d).push e)[w.heap.size + 1 + 1 + 1 + 1]? = _
  refine ⟨by simp, ?_, ?_, ?_, ?_, ?_⟩
  · rw [push_old _ _ _ (by simp <;> omega), push_old _ _ _ (by simp <;> omega), push_old _ _ _ (by simp <;> omega), push_old _ _ _ (by simp), push_at _ _ _ rfl]
  · rw [push_old _ _ _ (by simp <;> omega), push_old _ _ _ (by simp <;> omega), push_old _ _ _ (by simp), push_at _ _ _ (by simp)]
  · rw [push_old _ _ _ (by simp <;> omega), push_old _ _ _ (by simp), push_at _ _ _ (by simp)]
  · rw [push_old _ _ _ (by simp), push_at _ _ _ (by simp)]
  · rw [push_at _ _ _ (by simp)]
theorem below_five (w : World) (q : Nat) (a b c d e : Obj) : Below w.heap.size w ((((((w.alloc a).alloc b).alloc c).drewN q).alloc d).alloc e) := by
  have h3 : Below w.heap.size w (((w.alloc a).alloc b).alloc c) := (((Below.refl _ w).alloc (Nat.le_refl _) a).alloc (by simp) b).alloc (by simp <;> omega) c
  have h4 := below_drewN h3 q
  exact (h4.alloc h4.size d).alloc (by have := h4.size; simp; omega) e
theorem digest_size (t : ByteArray) (n : Nat) (h : t.size ≤ 1099511627776) : (chainS t n).size ≤ 1099511627776 := by
  cases n with
  | zero => exact h
  | succ n => rw [chainS, sumS_size]; omega

end Go.Proofs.YtpogffdbencfnaaGreatDoor

namespace Go.Proofs.YtpogffdbencfnaaGreatDoor
open Go Go.RowKit Go.Shelf
attribute [local go_sem] Oper.semAt_some

set_option maxRecDepth 100000 in
set_option maxHeartbeats 4000000 in
theorem sign_ok (secret m : ByteArray) (h i : Nat) (w : World) (hs : secret.size ≤ 1099511627776) (hm : m.size ≤ 1099511627776) (hh : h ≤ 9) (hh8 : h ≤ 8) (hi : i < 2 ^ h) (hT : Tabs w) :
    Calls Tryz.prog 12 #[.string secret, .int .i64 (h : Int), .int .i64 (i : Int), .string m] w fun e w' => ∃ vs vp, e = .returned (.tuple #[.agg #[.int .i64 (i : Int), vs, vp], .int .i64 0]) ∧
      IsStrC w' vs (sigT secret i m) ∧ IsStrC w' vp (pathT (keysT secret h) i) ∧ Below w.heap.size w w' := by
  have HT := Lib.hid hT
  have HI := Lib.hid hi
  have HP := Lib.hid (wrap_pow h (by omega))
  have HPW : Hid (2 ^ h ≤ 512) := Lib.hid (Nat.pow_le_pow_right (n := 2) (by decide) hh)
  have hn : 2 ^ h ≤ 512 := Nat.pow_le_pow_right (n := 2) (by decide) hh
  have hi' : i ≤ 512 := by omega
  have hd1 : decide ((h : Int) < 0) = false := decide_eq_false (by omega)
  have hd2 : decide ((8 : Int) < (h : Int)) = false := decide_eq_false (by omega)
  have hd3 : decide ((i : Int) < 0) = false := decide_eq_false (by omega)
  have hd4 : decide (((2 ^ h : Nat) : Int) ≤ (i : Int)) = false := decide_eq_false (by omega)
  have hd4' : decide (((2 : Int) ^ h) ≤ (i : Int)) = false := by
    have e : ((2 ^ h : Nat) : Int) = (2 : Int) ^ h := by simp
    rw [← e]; exact hd4
  have hwp := HP.out
  clear hT hi hn
  refine calls_of_wp_marks (n := 5) Tryz.func12 rfl ?_
  simp only [Tryz.ntmps12, List.size_toArray, List.length_cons, List.length_nil, Nat.reduceAdd, Nat.reduceSub, Array.replicate_succ, Array.replicate_zero, List.push_toArray, List.append_toArray, List.nil_append, List.cons_append]
  go_wp2_with fail
  go_quiet (fail)
  go_wp2_with fail
  refine (sdigits_calls m _).mono ?_
  rintro e w' ⟨rfl, rfl⟩
  go_wp2_with fail

  have hfive := heap_five w nq (.cells #[.string secret] 9) (.cells #[.int .i64 (i : Int)] 3) (.cells #[.int .i64 0, .slice none 0 0, .slice none 0 0] 24) (.cells #[.int .i64 (i : Int), .slice none 0 0, .slice none 0 0] 24) (.cells #[.string m] 9)
  have hb5 := below_five w nq (.cells #[.string secret] 9) (.cells #[.int .i64 (i : Int)] 3) (.cells #[.int .i64 0, .slice none 0 0, .slice none 0 0] 24) (.cells #[.int .i64 (i : Int), .slice none 0 0, .slice none 0 0] 24) (.cells #[.string m] 9)
  simp only at hfive
  generalize (((((w.alloc (.cells #[.string secret] 9)).alloc (.cells #[.int .i64 (i : Int)] 3)).alloc (.cells #[.int .i64 0, .slice none 0 0, .slice none 0 0] 24)).drewN nq).alloc (.cells #[.int .i64 (i : Int), .slice none 0 0, .slice none 0 0] 24)).alloc (.cells #[.string m] 9) = W1 at *
  obtain ⟨hz1, hS1, hX1, hR1, hO1, hM1⟩ := hfive
  obtain ⟨ob, hob⟩ : ∃ ob, ob = w.heap.size + 1 + 1 + 1 := ⟨_, rfl⟩
  rw [← hob] at hO1 hM1
  rw [← hob]
  have hob1 : w.heap.size + 3 ≤ ob := by omega
  have hob2 : ob ≤ w.heap.size + 3 := by omega
  clear hob
  have HB1 := Lib.hid hb5
  have HS1 := Lib.hid hS1
  have HX1 := Lib.hid hX1
  have HR1 := Lib.hid hR1
  have HM1 := Lib.hid hM1
  have hlo1 : w.heap.size + 5 ≤ W1.heap.size := by omega
  have hlo2 : W1.heap.size ≤ w.heap.size + 5 := by omega
  have hT1 : Tabs W1 := HT.out.on hb5
  have HT1 := Lib.hid hT1
  have h0 : SigAt ob 24 (.int .i64 (i : Int)) W1 [] W1 := ⟨_, hO1, Own.nil _ _, Below.refl _ _⟩
  clear hT1 hb5 hz1 hS1 hX1 hR1 hO1 hM1 hwp hd1 hd2 hd3 hd4 hd4'
  have hseq := digits_stops 4 (by omega) (ob + 1) ob m hm W1 (by omega) (by rw [cell_of_row _ _ 0 _ _ _ HM1.out]; rfl) (by omega) HT1.out
  have hfrom := sigAt_from (T := 24) (x := .int .i64 (i : Int)) (W1 := W1) (ob := ob) (B := W1.heap.size) (fun pre : List (Fin 18) => pre.map fun x => chainS (startT secret i x.val) (digA m x.val)) (by omega) (by omega)
  have hKb : ∀ (W : World) (l : Nat) (o o' : Obj), W1.heap.size ≤ l → W.heap[l]? = some o → o.isCells = false → o.isWalk = false → Below ob W (W.putObj l o') := belowK_b (by omega)
  refine (wpIn_wide (n := 5)).1 ?_
  refine' wpIn_rangeFunc_ownF (F := Fence.wide) (n := 5) rfl (by omega) (gf := 58) (lb := #[.pointer (some ⟨ob + 1, 0, none⟩)]) rfl trivial (enters_of Tryz.func58 (by kernel_rfl) rfl)
    hseq ?hkt ?hkb ?hb0 ?hps (fun pre W => SigAt ob 24 (.int .i64 (i : Int)) W1 (pre.map fun x => chainS (startT secret i x.val) (digA m x.val)) W)
    (fun c pre W => False) ?hI ?hIx ?h00 _ ?assign ?body ?done ?stop
  case hkt => exact belowK_t
  case hkb => exact hKb
  case hb0 => exact Below.refl _ _
  case hps => exact fun _ => rfl
  case hI => exact hfrom
  case hIx => exact fun c _ _ _ _ h _ _ => h.elim
  case h00 => exact h0
  case assign =>
    intro l x W K hK
    gi_wp2
    exact hK
  case stop =>
    rintro D c pre W hD ⟨k, hk, rfl⟩ hx hK
    exact hx.elim
  case body =>
    rintro l pre x WB ⟨v, hv1, hv2, hv3⟩ hlen
    obtain ⟨k, hk⟩ := x
    have hkk : k ≤ 18 := by omega
    have hobW : ob < WB.heap.size := (Array.getElem?_eq_some_iff.1 hv1).1
    have hacc : (pre.map fun x : Fin 18 => chainS (startT secret i x.val) (digA m x.val)).length ≤ 18 := by rw [List.length_map]; omega
    have hdle : digA m k ≤ 15 := dig_le m k
    have hst16 := startT_size secret i k
    have HV1 := Lib.hid hv1
    have HV2 := Lib.hid hv2
    have HV3 := Lib.hid hv3
    have HMP : Hid ((pre ++ [(⟨k, hk⟩ : Fin 18)]).map (fun x => chainS (startT secret i x.val) (digA m x.val)) = pre.map (fun x : Fin 18 => chainS (startT secret i x.val) (digA m x.val)) ++ [chainS (startT secret i k) (digA m k)]) := Lib.hid (by simp)
    have HBW : Hid (Below w.heap.size w WB) := Lib.hid (HB1.out.trans (hv3.mono (by omega)))
    have HCS : Hid (WB.cell? ⟨w.heap.size, 0, none⟩ = some (.string secret)) := Lib.hid (by rw [hv3.cell (p := ⟨w.heap.size, 0, none⟩) (by show w.heap.size < ob; omega), cell_of_row _ _ 0 _ _ _ HS1.out]; rfl)
    have HCX : Hid (WB.cell? ⟨w.heap.size + 1, 0, none⟩ = some (.int .i64 (i : Int))) := Lib.hid (by rw [hv3.cell (p := ⟨w.heap.size + 1, 0, none⟩) (by show w.heap.size + 1 < ob; omega), cell_of_row _ _ 0 _ _ _ HX1.out]; rfl)
    clear hv1 hv2 hv3
    generalize pre.map (fun x : Fin 18 => chainS (startT secret i x.val) (digA m x.val)) = acc at *
    generalize digA m k = d at *
    gi_wp2_with fail
    refine wpIn_region_res 12 (ob) (fun ii u => [valF (.pointer (some ⟨ob, 1, none⟩)), OwnF (ob + 1) (acc), valF (.string secret), valF (.int .i64 (i : Int)), valF (.int .i64 (k : Int)), valF (.string (startT secret i k)), valF (.int .i64 (d : Int)), valF (.string (chainS (startT secret i k) d)), OwnF (ob + 1) ([chainS (startT secret i k) d]), OwnF (ob + 1) (acc ++ [chainS (startT secret i k) d]), valF (.pointer (some ⟨ob, 1, none⟩)), MemK ob (.cells #[.int .i64 (i : Int), u 9, .slice none 0 0] 24 (0, 0))].getD ii anyF) (fun jj ii => (jj == 9 && ii == 1)) (fun jj bb => (jj = 1 ∧ v.ownBlock = some bb) ∨ (jj = 11 ∧ bb = ob)) (by kernel_rfl) (by kernel_rfl) (fun ⟨_, _, h⟩ => h) (by kernel_rfl) (by kernel_rfl) (by kernel_rfl) (by kernel_rfl) (Nat.le_of_lt hobW) ?_ ?_ ?_ ?_ ?_
    · intro ii u hii
      refine AllKStable.at ?_ ii
      exact ⟨.inl (valF_stable _ _), .inl (ownF_st _ _ _), .inl (valF_stable _ _), .inl (valF_stable _ _), .inl (valF_stable _ _), .inl (valF_stable _ _), .inl (valF_stable _ _), .inl (valF_stable _ _), .inl (ownF_st _ _ _), .inl (ownF_st _ _ _), .inl (valF_stable _ _), .inl (memK_st _ _ _), trivial⟩
    · intro ii u u2 hii hx
      match ii, hii, hx with
      | 0, _, _ => rfl
      | 1, _, _ => rfl
      | 2, _, _ => rfl
      | 3, _, _ => rfl
      | 4, _, _ => rfl
      | 5, _, _ => rfl
      | 6, _, _ => rfl
      | 7, _, _ => rfl
      | 8, _, _ => rfl
      | 9, _, _ => rfl
      | 10, _, _ => rfl
      | 11, _, hx =>
        have h9 := hx 9 (by decide) (by kernel_rfl)
        show MemK ob (.cells #[.int .i64 (i : Int), u 9, .slice none 0 0] 24 (0, 0)) = MemK ob (.cells #[.int .i64 (i : Int), u2 9, .slice none 0 0] 24 (0, 0))
        rw [h9]
      | m + 12, hm, _ => exact absurd hm (by omega)
    · refine ⟨fun j b _ h => ?_, fun j j2 b _ _ h h2 => ?_⟩
      · rcases h with ⟨_, h⟩ | ⟨_, h⟩
        · have := own_block HV2.out b h; omega
        · omega
      · rcases h with ⟨_, h⟩ | ⟨_, h⟩ <;> rcases h2 with ⟨_, h2⟩ | ⟨_, h2⟩
        · omega
        · have := own_block HV2.out b h; omega
        · have := own_block HV2.out b h2; omega
        · omega
    · refine And.intro (fun u W A hW hBW hd hv hr => ?_) ?_
      · have t10 : A.eval (.tmp 10) = .pointer (some ⟨ob, 0, none⟩) := (hv 10 (by kernel_rfl)).trans (by kernel_rfl)
        clear hd hv
        have s10 := evalT t10
        clear t10
        refine fk_run ?_
        go_simp
      refine And.intro (fun u W A hW hBW hd hv hr => ?_) ?_
      · have e0 : u 0 = .pointer (some ⟨ob, 1, none⟩) := hd 0 (by decide) (by kernel_rfl)
        have t36 : A.eval (.tmp 36) = .pointer (some ⟨ob, 1, none⟩) := (hv 36 (by kernel_rfl)).trans ((by kernel_rfl : slotV _ _ _ u 36 = u 0).trans e0)
        have hW1 := below_undrew hW
        have hsz : WB.heap.size ≤ W.heap.size := hW1.size
        have ho : Own (ob + 1) W v acc := ownF_st (ob + 1) ob acc _ W v hW1 (fun b hb => hr 1 b (by decide) (.inl rfl) (.inl ⟨rfl, hb⟩)) HV2.out
        have hcl : W.cell? ⟨ob, 1, none⟩ = some v := by rw [cell_of_row W ob 1 _ _ _ ((hr 11 ob (by decide) (.inr (by kernel_rfl)) (.inr ⟨rfl, rfl⟩)).trans HV1.out)]; rfl
        clear hd hv
        have s36 := evalT t36
        clear t36
        exact fk_load_own (v := v) (by go_simp) ho (fun b hb => .inr (.inl ⟨rfl, hb⟩))
      refine And.intro (fun u W A hW hBW hd hv hr => ?_) ?_
      · have t4 : A.eval (.tmp 4) = .pointer (some ⟨w.heap.size, 0, none⟩) := (hv 4 (by kernel_rfl)).trans (by kernel_rfl)
        have hW1 := below_undrew hW
        have hsz : WB.heap.size ≤ W.heap.size := hW1.size
        have hcl : W.cell? ⟨w.heap.size, 0, none⟩ = some (.string secret) := by rw [hW1.cell (p := ⟨w.heap.size, 0, none⟩) (by show w.heap.size < ob; omega)]; exact HCS.out
        clear hd hv
        have s4 := evalT t4
        clear t4
        refine fk_run ?_
        go_simp
      refine And.intro (fun u W A hW hBW hd hv hr => ?_) ?_
      · have t6 : A.eval (.tmp 6) = .pointer (some ⟨w.heap.size + 1, 0, none⟩) := (hv 6 (by kernel_rfl)).trans (by kernel_rfl)
        have hW1 := below_undrew hW
        have hsz : WB.heap.size ≤ W.heap.size := hW1.size
        have hcl : W.cell? ⟨w.heap.size + 1, 0, none⟩ = some (.int .i64 (i : Int)) := by rw [hW1.cell (p := ⟨w.heap.size + 1, 0, none⟩) (by show w.heap.size + 1 < ob; omega)]; exact HCX.out
        clear hd hv
        have s6 := evalT t6
        clear t6
        refine fk_run ?_
        go_simp
      refine And.intro (fun u W A hW hBW hd hv hr => ?_) ?_
      · have t11 : A.eval (.tmp 11) = .int .i64 (k : Int) := (hv 11 (by kernel_rfl)).trans (by kernel_rfl)
        clear hd hv
        have s11 := evalT t11
        clear t11
        refine fk_run ?_
        go_simp
      refine And.intro (fun u W A hW hBW hd hv hr => ?_) ?_
      · have e2 : u 2 = .string secret := hd 2 (by decide) (by kernel_rfl)
        have e3 : u 3 = .int .i64 (i : Int) := hd 3 (by decide) (by kernel_rfl)
        have e4 : u 4 = .int .i64 (k : Int) := hd 4 (by decide) (by kernel_rfl)
        have t38 : A.eval (.tmp 38) = .string secret := (hv 38 (by kernel_rfl)).trans ((by kernel_rfl : slotV _ _ _ u 38 = u 2).trans e2)
        have t39 : A.eval (.tmp 39) = .int .i64 (i : Int) := (hv 39 (by kernel_rfl)).trans ((by kernel_rfl : slotV _ _ _ u 39 = u 3).trans e3)
        have t40 : A.eval (.tmp 40) = .int .i64 (k : Int) := (hv 40 (by kernel_rfl)).trans ((by kernel_rfl : slotV _ _ _ u 40 = u 4).trans e4)
        have hW1 := below_undrew hW
        have hsz : WB.heap.size ≤ W.heap.size := hW1.size
        clear hd hv
        have s38 := evalT t38
        have s39 := evalT t39
        have s40 := evalT t40
        clear t38 t39 t40
        refine fk_enter (f := 27) (args := #[.string secret, .int .i64 (i : Int), .int .i64 (k : Int)]) (by go_simp) (fk_val ?_)
        exact start_calls secret i k W hs (by omega) (by omega) (HT.out.on (HBW.out.trans (hW1.mono (by omega))))
      refine And.intro (fun u W A hW hBW hd hv hr => ?_) ?_
      · have t12 : A.eval (.tmp 12) = .int .i64 (d : Int) := (hv 12 (by kernel_rfl)).trans (by kernel_rfl)
        clear hd hv
        have s12 := evalT t12
        clear t12
        refine fk_run ?_
        go_simp
      refine And.intro (fun u W A hW hBW hd hv hr => ?_) ?_
      · have e5 : u 5 = .string (startT secret i k) := hd 5 (by decide) (by kernel_rfl)
        have e6 : u 6 = .int .i64 (d : Int) := hd 6 (by decide) (by kernel_rfl)
        have t41 : A.eval (.tmp 41) = .string (startT secret i k) := (hv 41 (by kernel_rfl)).trans ((by kernel_rfl : slotV _ _ _ u 41 = u 5).trans e5)
        have t42 : A.eval (.tmp 42) = .int .i64 (d : Int) := (hv 42 (by kernel_rfl)).trans ((by kernel_rfl : slotV _ _ _ u 42 = u 6).trans e6)
        have hW1 := below_undrew hW
        have hsz : WB.heap.size ≤ W.heap.size := hW1.size
        clear hd hv
        have s41 := evalT t41
        have s42 := evalT t42
        clear t41 t42
        refine fk_enter (f := 26) (args := #[.string (startT secret i k), .int .i64 (d : Int)]) (by go_simp) (fk_val ?_)
        have hch := chain_calls (startT secret i k) (by omega) (d : Int) W (HT.out.on (HBW.out.trans (hW1.mono (by omega))))
        rw [chainN_nat d (by omega)] at hch
        exact hch
      refine And.intro (fun u W A hW hBW hd hv hr => ?_) ?_
      · have e7 : u 7 = .string (chainS (startT secret i k) d) := hd 7 (by decide) (by kernel_rfl)
        have t43 : A.eval (.tmp 43) = .string (chainS (startT secret i k) d) := (hv 43 (by kernel_rfl)).trans ((by kernel_rfl : slotV _ _ _ u 43 = u 7).trans e7)
        have hW1 := below_undrew hW
        have hsz : WB.heap.size ≤ W.heap.size := hW1.size
        clear hd hv
        have s43 := evalT t43
        clear t43
        exact fk_step (v := .slice (some ⟨W.heap.size, 0, none⟩) 1 1) (w' := W.alloc (.cells #[.string (chainS (startT secret i k) d)] 9)) (by go_simp) (fk_own_of (by omega) (own_lit W [chainS (startT secret i k) d] (show 1 ≤ maxLen by decide)) ((Below.refl _ _).alloc (Nat.le_refl _) _))
      refine And.intro (fun u W A hW hBW hd hv hr => ?_) ?_
      · have e1 : Own (ob + 1) W (u 1) (acc) := hd 1 (by decide) (by kernel_rfl)
        have e8 : Own (ob + 1) W (u 8) ([chainS (startT secret i k) d]) := hd 8 (by decide) (by kernel_rfl)
        have t37 : A.eval (.tmp 37) = u 1 := (hv 37 (by kernel_rfl)).trans (by kernel_rfl)
        have t44 : A.eval (.tmp 44) = u 8 := (hv 44 (by kernel_rfl)).trans (by kernel_rfl)
        have hW1 := below_undrew hW
        have hsz : WB.heap.size ≤ W.heap.size := hW1.size
        clear hd hv
        exact fk_append (.tmp 37) (.tmp 44) rfl t37 t44 e1 e8.strc (by omega) (by simp <;> omega) (fun c hc => .inl ⟨1, by decide, by decide, hc⟩)
      refine And.intro (fun u W A hW hBW hd hv hr => ?_) ?_
      · have t10 : A.eval (.tmp 10) = .pointer (some ⟨ob, 0, none⟩) := (hv 10 (by kernel_rfl)).trans (by kernel_rfl)
        clear hd hv
        have s10 := evalT t10
        clear t10
        refine fk_run ?_
        go_simp
      refine And.intro (fun u W A hW hBW hd hv hr => ?_) ?_
      · have e9 : Own (ob + 1) W (u 9) (acc ++ [chainS (startT secret i k) d]) := hd 9 (by decide) (by kernel_rfl)
        have e10 : u 10 = .pointer (some ⟨ob, 1, none⟩) := hd 10 (by decide) (by kernel_rfl)
        have t46 : A.eval (.tmp 46) = .pointer (some ⟨ob, 1, none⟩) := (hv 46 (by kernel_rfl)).trans ((by kernel_rfl : slotV _ _ _ u 46 = u 10).trans e10)
        have t45 : A.eval (.tmp 45) = u 9 := (hv 45 (by kernel_rfl)).trans (by kernel_rfl)
        have hW1 := below_undrew hW
        have hsz : WB.heap.size ≤ W.heap.size := hW1.size
        have hob5 := (hr 11 ob (by decide) (.inl rfl) (.inr ⟨rfl, rfl⟩)).trans HV1.out
        clear hd hv
        have s46 := evalT t46
        have s45 := evalT t45
        clear t46 t45
        have hcl : W.cell? ⟨ob, 1, none⟩ = some v := by rw [cell_of_row W ob 1 _ _ _ hob5]; rfl
        have hfz : W.frozen? ⟨ob, 1, none⟩ = false := by simp [World.frozen?, hob5]
        obtain ⟨ao9, n9, c9, hv9⟩ := own_form e9
        change fkindAt _ _ _ _ _ _ (MemK ob (.cells #[.int .i64 (i : Int), u 9, .slice none 0 0] 24 (0, 0)))
        rw [hv9] at s45 ⊢
        refine fk_store (b := ob) (i := 1) (v := .slice ao9 n9 c9) (by go_simp) (by omega) (.inr (.inr ⟨rfl, rfl⟩)) ?_
        rw [heap_set_same W ob 1 _ _ _ _ hob5]; rfl
      exact trivial
    intro u W' hb' hk' hf'
    have e9 : Own (ob + 1) W' (u 9) (acc ++ [chainS (startT secret i k) d]) := hf' 9 (by decide) (by decide)
    have e11 : W'.heap[ob]? = some (.cells #[.int .i64 (i : Int), u 9, .slice none 0 0] 24 (0, 0)) := hf' 11 (by decide) (by decide)
    have hb1 := below_undrew hb'
    clear hf' hb'
    simp only [List.drop, wpList]
    refine ⟨keeps_of hb1.size (S := fun b => v.ownBlock = some b ∨ b = ob) (fun b hb hS => hk' b hb (fun j _ h => ?_)) (fun b hS => ?_), hb1, u 9, e11, by rw [HMP.out]; exact e9, HV3.out.trans hb1⟩
    · rcases h with ⟨_, h⟩ | ⟨_, h⟩
      · exact hS (.inl h)
      · exact hS (.inr h)
    · rcases hS with h | h
      · exact own_cells HV2.out h
      · exact ⟨_, _, _, by rw [h]; exact HV1.out⟩
  case done =>
    rintro D xs WD hD rfl ⟨v, hv1, hv2, hv3⟩ hK
    rw [sig_map] at hv2
    obtain ⟨aov, nv, cv, rfl⟩ := own_form hv2
    have hobW : ob < WD.heap.size := (Array.getElem?_eq_some_iff.1 hv1).1
    have HV1 := Lib.hid hv1
    have HV2 := Lib.hid hv2
    have HKD := Lib.hid hK
    have HBW : Hid (Below w.heap.size w WD) := Lib.hid (HB1.out.trans (hv3.mono (by omega)))
    have HCS : Hid (WD.cell? ⟨w.heap.size, 0, none⟩ = some (.string secret)) := Lib.hid (by rw [hv3.cell (p := ⟨w.heap.size, 0, none⟩) (by show w.heap.size < ob; omega), cell_of_row _ _ 0 _ _ _ HS1.out]; rfl)
    have HCX : Hid (WD.cell? ⟨w.heap.size + 1, 0, none⟩ = some (.int .i64 (i : Int))) := Lib.hid (by rw [hv3.cell (p := ⟨w.heap.size + 1, 0, none⟩) (by show w.heap.size + 1 < ob; omega), cell_of_row _ _ 0 _ _ _ HX1.out]; rfl)
    have HRD : Hid (WD.heap[w.heap.size + 1 + 1]? = some (.cells #[.int .i64 0, .slice none 0 0, .slice none 0 0] 24 (0, 0))) := Lib.hid ((hv3.block _ (by omega)).trans HR1.out)
    clear hv1 hv2 hv3 hK
    go_wp2_with fail
    refine wp_region_res 10 (ob) (fun ii u => [valF (.string secret), valF (.int .i64 (h : Int)), OwnF ob (keysT secret h), valF (.int .i64 (i : Int)), TupO (pathT (keysT secret h) i), TupO (pathT (keysT secret h) i), FstK (u 5), valF (.int .i64 0), valF (.pointer (some ⟨ob, 2, none⟩)), MemK ob (.cells #[.int .i64 (i : Int), .slice aov nv cv, u 6] 24 (0, 0))].getD ii anyF) (fun jj ii => (jj == 5 && ii == 4)) (fun jj bb => (jj = 9 ∧ bb = ob)) (by kernel_rfl) (by kernel_rfl) (by kernel_rfl) (by kernel_rfl) (by kernel_rfl) (Nat.le_of_lt hobW) ?_ ?_ ?_ ?_ ?_
    · intro ii u hii
      refine AllKStable.at ?_ ii
      exact ⟨.inl (valF_stable _ _), .inl (valF_stable _ _), .inl (ownF_st _ _ _), .inl (valF_stable _ _), .inl (tupO_st _ _), .inl (tupO_st _ _), .inl (fstK_st _ _), .inl (valF_stable _ _), .inl (valF_stable _ _), .inl (memK_st _ _ _), trivial⟩
    · intro ii u u2 hii hx
      match ii, hii, hx with
      | 0, _, _ => rfl
      | 1, _, _ => rfl
      | 2, _, _ => rfl
      | 3, _, _ => rfl
      | 4, _, _ => rfl
      | 5, _, _ => rfl
      | 6, _, hx =>
        have h5 := hx 5 (by decide) (by kernel_rfl)
        show FstK (u 5) = FstK (u2 5)
        rw [h5]
      | 7, _, _ => rfl
      | 8, _, _ => rfl
      | 9, _, hx =>
        have h6 := hx 6 (by decide) (by kernel_rfl)
        show MemK ob (.cells #[.int .i64 (i : Int), .slice aov nv cv, u 6] 24 (0, 0)) = MemK ob (.cells #[.int .i64 (i : Int), .slice aov nv cv, u2 6] 24 (0, 0))
        rw [h6]
      | m + 10, hm, _ => exact absurd hm (by omega)
    · refine ⟨fun j b _ h => ?_, fun j j2 b _ _ h h2 => ?_⟩
      · obtain ⟨_, h⟩ := h; omega
      · obtain ⟨h, _⟩ := h; obtain ⟨h2, _⟩ := h2; omega
    · refine And.intro (fun u W A hW hBW hd hv hr => ?_) ?_
      · have t4 : A.eval (.tmp 4) = .pointer (some ⟨w.heap.size, 0, none⟩) := (hv 4 (by kernel_rfl)).trans (by kernel_rfl)
        have hW1 := below_undrew hW
        have hsz : WD.heap.size ≤ W.heap.size := hW1.size
        have hcl : W.cell? ⟨w.heap.size, 0, none⟩ = some (.string secret) := by rw [hW1.cell (p := ⟨w.heap.size, 0, none⟩) (by show w.heap.size < ob; omega)]; exact HCS.out
        clear hd hv
        have s4 := evalT t4
        clear t4
        refine fk_run ?_
        go_simp
      refine And.intro (fun u W A hW hBW hd hv hr => ?_) ?_
      · have t1 : A.eval (.tmp 1) = .int .i64 (h : Int) := (hv 1 (by kernel_rfl)).trans (by kernel_rfl)
        clear hd hv
        have s1 := evalT t1
        clear t1
        refine fk_run ?_
        go_simp
      refine And.intro (fun u W A hW hBW hd hv hr => ?_) ?_
      · have e0 : u 0 = .string secret := hd 0 (by decide) (by kernel_rfl)
        have e1 : u 1 = .int .i64 (h : Int) := hd 1 (by decide) (by kernel_rfl)
        have t48 : A.eval (.tmp 48) = .string secret := (hv 48 (by kernel_rfl)).trans ((by kernel_rfl : slotV _ _ _ u 48 = u 0).trans e0)
        have t49 : A.eval (.tmp 49) = .int .i64 (h : Int) := (hv 49 (by kernel_rfl)).trans ((by kernel_rfl : slotV _ _ _ u 49 = u 1).trans e1)
        have hW1 := below_undrew hW
        have hsz : WD.heap.size ≤ W.heap.size := hW1.size
        clear hd hv
        have s48 := evalT t48
        have s49 := evalT t49
        clear t48 t49
        refine fk_enter (f := 22) (args := #[.string secret, .int .i64 (h : Int)]) (by go_simp) (fk_own (by omega) ?_)
        exact keys_calls secret h W hs (by omega) (HT.out.on (HBW.out.trans (hW1.mono (by omega))))
      refine And.intro (fun u W A hW hBW hd hv hr => ?_) ?_
      · have t6 : A.eval (.tmp 6) = .pointer (some ⟨w.heap.size + 1, 0, none⟩) := (hv 6 (by kernel_rfl)).trans (by kernel_rfl)
        have hW1 := below_undrew hW
        have hsz : WD.heap.size ≤ W.heap.size := hW1.size
        have hcl : W.cell? ⟨w.heap.size + 1, 0, none⟩ = some (.int .i64 (i : Int)) := by rw [hW1.cell (p := ⟨w.heap.size + 1, 0, none⟩) (by show w.heap.size + 1 < ob; omega)]; exact HCX.out
        clear hd hv
        have s6 := evalT t6
        clear t6
        refine fk_run ?_
        go_simp
      refine And.intro (fun u W A hW hBW hd hv hr => ?_) ?_
      · have e2 : Own ob W (u 2) (keysT secret h) := hd 2 (by decide) (by kernel_rfl)
        have e3 : u 3 = .int .i64 (i : Int) := hd 3 (by decide) (by kernel_rfl)
        have t50 : A.eval (.tmp 50) = u 2 := (hv 50 (by kernel_rfl)).trans (by kernel_rfl)
        have t51 : A.eval (.tmp 51) = .int .i64 (i : Int) := (hv 51 (by kernel_rfl)).trans ((by kernel_rfl : slotV _ _ _ u 51 = u 3).trans e3)
        have hW1 := below_undrew hW
        have hsz : WD.heap.size ≤ W.heap.size := hW1.size
        clear hd hv
        have s50 := evalT t50
        have s51 := evalT t51
        clear t50 t51
        refine fk_enter (f := 28) (args := #[u 2, .int .i64 (i : Int)]) (by go_simp) (fk_tup ?_)
        exact path_new (keysT secret h) (u 2) i W e2.strc (keys_sizes secret h) (by rw [keysT_len]; have := HPW.out; omega) (by rw [keysT_len]; exact HI.out) (HT.out.on (HBW.out.trans (hW1.mono (by omega))))
      refine And.intro (fun u W A hW hBW hd hv hr => ?_) ?_
      · have e4 : ∃ v', u 4 = .tuple #[v', .int .i64 0] ∧ IsStrC W v' (pathT (keysT secret h) i) ∧ ∀ b, v'.ownBlock = some b → b < W.heap.size := hd 4 (by decide) (by kernel_rfl)
        have t52 : A.eval (.tmp 52) = u 4 := (hv 52 (by kernel_rfl)).trans (by kernel_rfl)
        clear hd hv
        have s52 := evalT t52
        clear t52
        refine fk_step (v := u 4) (w' := W) (by go_simp) ⟨Fr.of_ext (Ext.refl W), e4, fun b hb => ?_⟩
        obtain ⟨v4, h4, hs4, hl4⟩ := e4
        obtain ⟨v2, h2, hb2⟩ := hb
        have e2 : v4 = v2 := by rw [h4] at h2; simpa using h2
        subst e2
        exact ⟨.inr (.inl ⟨4, by decide, by decide, ⟨v4, h4, hb2⟩⟩), hl4 b hb2⟩
      refine And.intro (fun u W A hW hBW hd hv hr => ?_) ?_
      · have e5 : ∃ v', u 5 = .tuple #[v', .int .i64 0] ∧ IsStrC W v' (pathT (keysT secret h) i) ∧ ∀ b, v'.ownBlock = some b → b < W.heap.size := hd 5 (by decide) (by kernel_rfl)
        have t47 : A.eval (.tmp 47) = u 5 := (hv 47 (by kernel_rfl)).trans (by kernel_rfl)
        clear hd hv
        have s47 := evalT t47
        clear t47
        obtain ⟨v5, h5, hs5, hl5⟩ := e5
        rw [h5] at s47
        obtain ⟨ao5, c5, hv5⟩ := strc_form hs5
        exact fk_step (v := v5) (w' := W) (by go_simp) ⟨Fr.of_ext (Ext.refl W), ⟨h5, _, _, _, hv5⟩, fun b hb => hb.elim⟩
      refine And.intro (fun u W A hW hBW hd hv hr => ?_) ?_
      · have e5 : ∃ v', u 5 = .tuple #[v', .int .i64 0] ∧ IsStrC W v' (pathT (keysT secret h) i) ∧ ∀ b, v'.ownBlock = some b → b < W.heap.size := hd 5 (by decide) (by kernel_rfl)
        have t47 : A.eval (.tmp 47) = u 5 := (hv 47 (by kernel_rfl)).trans (by kernel_rfl)
        clear hd hv
        have s47 := evalT t47
        clear t47
        obtain ⟨v5, h5, hs5, hl5⟩ := e5
        rw [h5] at s47
        refine fk_run ?_
        go_simp
      refine And.intro (fun u W A hW hBW hd hv hr => ?_) ?_
      · have t10 : A.eval (.tmp 10) = .pointer (some ⟨ob, 0, none⟩) := (hv 10 (by kernel_rfl)).trans (by kernel_rfl)
        clear hd hv
        have s10 := evalT t10
        clear t10
        refine fk_run ?_
        go_simp
      refine And.intro (fun u W A hW hBW hd hv hr => ?_) ?_
      · have e6 : u 5 = .tuple #[u 6, .int .i64 0] ∧ ∃ ao n c, u 6 = .slice ao n c := hd 6 (by decide) (by kernel_rfl)
        have e8 : u 8 = .pointer (some ⟨ob, 2, none⟩) := hd 8 (by decide) (by kernel_rfl)
        have t55 : A.eval (.tmp 55) = .pointer (some ⟨ob, 2, none⟩) := (hv 55 (by kernel_rfl)).trans ((by kernel_rfl : slotV _ _ _ u 55 = u 8).trans e8)
        have t53 : A.eval (.tmp 53) = u 6 := (hv 53 (by kernel_rfl)).trans (by kernel_rfl)
        have hW1 := below_undrew hW
        have hsz : WD.heap.size ≤ W.heap.size := hW1.size
        have hob5 := (hr 9 ob (by decide) (.inl rfl) ⟨rfl, rfl⟩).trans HV1.out
        clear hd hv
        have s55 := evalT t55
        have s53 := evalT t53
        clear t55 t53
        have hcl : W.cell? ⟨ob, 2, none⟩ = some (.slice none 0 0) := by rw [cell_of_row W ob 2 _ _ _ hob5]; rfl
        have hfz : W.frozen? ⟨ob, 2, none⟩ = false := by simp [World.frozen?, hob5]
        change fkindAt _ _ _ _ _ _ (MemK ob (.cells #[.int .i64 (i : Int), .slice aov nv cv, u 6] 24 (0, 0)))
        obtain ⟨e6, ao6, n6, c6, hv6⟩ := e6
        rw [hv6] at s53 ⊢
        refine fk_store (b := ob) (i := 2) (v := .slice ao6 n6 c6) (by go_simp) (by omega) (.inr ⟨rfl, rfl⟩) ?_
        rw [heap_set_same W ob 2 _ _ _ _ hob5]; rfl
      exact trivial
    intro u W' hb' hk' hf'
    have e5 : ∃ v', u 5 = .tuple #[v', .int .i64 0] ∧ IsStrC W' v' (pathT (keysT secret h) i) ∧ _ := hf' 5 (by decide) (by decide)
    have e6 : u 5 = .tuple #[u 6, .int .i64 0] := (hf' 6 (by decide) (by decide)).1
    have e9 : W'.heap[ob]? = some (.cells #[.int .i64 (i : Int), .slice aov nv cv, u 6] 24 (0, 0)) := hf' 9 (by decide) (by decide)
    have hb1 := below_undrew hb'
    clear hf' hb'
    obtain ⟨vp, hvp, hsp, _⟩ := e5
    have h6 : u 6 = vp := by rw [hvp] at e6; simpa using e6.symm
    rw [h6] at e9
    obtain ⟨aop, cp, rfl⟩ := strc_form hsp
    generalize hnp : (pathT (keysT secret h) i).length = np at *
    have HSP := Lib.hid hsp
    clear hsp hnp e6
    have hrb : W'.heap[w.heap.size + 1 + 1]? = some (.cells #[.int .i64 0, .slice none 0 0, .slice none 0 0] 24 (0, 0)) := (hb1.block _ (by omega)).trans HRD.out
    have c0 : W'.cell? ⟨ob, 0, none⟩ = some (.int .i64 (i : Int)) := by rw [cell_of_row _ _ 0 _ _ _ e9]; rfl
    have c1 : W'.cell? ⟨ob, 1, none⟩ = some (.slice aov nv cv) := by rw [cell_of_row _ _ 1 _ _ _ e9]; rfl
    have c2 : W'.cell? ⟨ob, 2, none⟩ = some (.slice aop np cp) := by rw [cell_of_row _ _ 2 _ _ _ e9]; rfl
    have r0 : W'.cell? ⟨w.heap.size + 1 + 1, 0, none⟩ = some (.int .i64 0) := by rw [cell_of_row _ _ 0 _ _ _ hrb]; rfl
    have r1 : W'.cell? ⟨w.heap.size + 1 + 1, 1, none⟩ = some (.slice none 0 0) := by rw [cell_of_row _ _ 1 _ _ _ hrb]; rfl
    have r2 : W'.cell? ⟨w.heap.size + 1 + 1, 2, none⟩ = some (.slice none 0 0) := by rw [cell_of_row _ _ 2 _ _ _ hrb]; rfl
    have f0 : ∀ o, W'.frozen? ⟨w.heap.size + 1 + 1, o, none⟩ = false := fun o => by simp [World.frozen?, hrb]
    have HE9 := Lib.hid e9
    have HRB := Lib.hid hrb
    have HB2 := Lib.hid hb1
    have HK2 := Lib.hid hk'
    clear e9 hrb hb1 hk'
    simp only [List.take, lexPut, Nat.zero_add, Nat.reduceAdd, hvp, h6, Act.put, List.setIfInBounds_toArray, List.set_cons_succ, List.set_cons_zero]
    clear hvp h6
    simp only [List.drop, wpList]
    go_wp2_with fail
    have HKD2 : Hid (W'.heap[D]? = some (.deferred (some []))) := Lib.hid ((HK2.out D (Array.getElem?_eq_some_iff.1 HKD.out).1 (fun j _ h => by
      have := HV1.out
      rw [← h.2, HKD.out] at this
      cases this)).trans HKD.out)
    obtain ⟨g1, g2, g3, g4, g5⟩ := sign_end (x := .int .i64 (i : Int)) (v := .slice aov nv cv) (p := .slice aop np cp) HRB.out HKD2.out
    refine ⟨by simp, .inl ⟨_, _, rfl, run_takeDeferred g1, ?_⟩⟩
    have hBF := g5 w.heap.size (by omega) (by omega)
    have q0 := cell_of_row _ _ 0 _ _ _ g2
    have q1 := cell_of_row _ _ 1 _ _ _ g2
    have q2 := cell_of_row _ _ 2 _ _ _ g2
    have HG3 := Lib.hid g3
    have HG4 := Lib.hid g4
    have HBF := Lib.hid hBF
    clear g1 g2 g3 g4 g5 hBF c0 c1 c2 r0 r1 r2 f0
    generalize ((((W'.setCell ⟨w.heap.size + 1 + 1, 0, none⟩ (.int .i64 (i : Int))).setCell ⟨w.heap.size + 1 + 1, 1, none⟩ (.slice aov nv cv)).setCell ⟨w.heap.size + 1 + 1, 2, none⟩ (.slice aop np cp)).putObj D (.deferred none)) = WF at *
    refine ⟨.tuple #[.agg #[.int .i64 (i : Int), .slice aov nv cv, .slice aop np cp], .int .i64 0], by simp [results, Tryz.f12, go_sem, q0, q1, q2], .slice aov nv cv, .slice aop np cp, rfl, ?_, strc_keep HSP.out HG4.out HG3.out, ?_⟩
    · have ho : Own (ob + 1) W' (.slice aov nv cv) (sigT secret i m) := ownF_st (ob + 1) ob _ WD W' _ HB2.out (fun b hb => HK2.out b (own_block HV2.out b hb).2 (fun j _ h => by have := (own_block HV2.out b hb).1; omega)) HV2.out
      exact strc_keep ho.strc HG4.out HG3.out
    · exact (HBW.out.trans (HB2.out.mono (by omega))).trans HBF.out
end Go.Proofs.YtpogffdbencfnaaGreatDoor

namespace Go.Proofs.YtpogffdbencfnaaGreatDoor
open Go Go.RowKit

def SignNo (w : World) (e : Ending) (w' : World) : Prop := e = .returned (.tuple #[.agg #[.int .i64 0, .slice none 0 0, .slice none 0 0], .int .i64 1]) ∧ Below w.heap.size w w'
theorem three_new (w : World) (q : Nat) (a b : Obj) (x y z x2 y2 z2 : Value) (T : TypeId) :
    let W := (((w.alloc a).alloc b).alloc (.cells #[x, y, z] T)).drewN q
    W.heap[w.heap.size + 1 + 1]? = some (.cells #[x, y, z] T (0, 0)) ∧ Below w.heap.size w W := by
  refine ⟨?_, ?_⟩
  · show (((w.heap.push a).push b).push (.cells #[x, y, z] T))[w.heap.size + 1 + 1]? = _
    rw [push_at _ _ _ (by simp)]
  · have h3 : Below w.heap.size w (((w.alloc a).alloc b).alloc (.cells #[x, y, z] T)) := (((Below.refl _ w).alloc (Nat.le_refl _) a).alloc (by simp) b).alloc (by simp <;> omega) _
    exact below_drewN h3 q
set_option maxRecDepth 100000 in
set_option maxHeartbeats 2000000 in
theorem sign_no1 (secret m : ByteArray) (h i : Int) (w : World) (h1 : h < 0) :
    Calls Tryz.prog 12 #[.string secret, .int .i64 h, .int .i64 i, .string m] w (SignNo w) := by
  have hd1 : decide (h < 0) = true := decide_eq_true h1
  go_enter Tryz.func12, Tryz.ntmps12
  go_wp2_with fail
  go_quiet (fail)
  obtain ⟨hr, hb⟩ := three_new w nq (.cells #[.string secret] 9) (.cells #[.int .i64 i] 3) (.int .i64 0) (.slice none 0 0) (.slice none 0 0) (.int .i64 0) (.slice none 0 0) (.slice none 0 0) 24
  generalize (((w.alloc (.cells #[.string secret] 9)).alloc (.cells #[.int .i64 i] 3)).alloc (.cells #[.int .i64 0, .slice none 0 0, .slice none 0 0] 24)).drewN nq = W at *
  have r0 : W.cell? ⟨w.heap.size + 1 + 1, 0, none⟩ = some (.int .i64 0) := by rw [cell_of_row _ _ 0 _ _ _ hr]; rfl
  have r1 : W.cell? ⟨w.heap.size + 1 + 1, 1, none⟩ = some (.slice none 0 0) := by rw [cell_of_row _ _ 1 _ _ _ hr]; rfl
  have r2 : W.cell? ⟨w.heap.size + 1 + 1, 2, none⟩ = some (.slice none 0 0) := by rw [cell_of_row _ _ 2 _ _ _ hr]; rfl
  have f0 : ∀ o, W.frozen? ⟨w.heap.size + 1 + 1, o, none⟩ = false := fun o => by simp [World.frozen?, hr]
  have HR := Lib.hid hr
  have HB := Lib.hid hb
  clear hr hb
  go_wp2
  have g1 := heap_set_same W _ 0 (.int .i64 0) _ _ _ HR.out
  have g2 := heap_set_same _ _ 1 (.slice none 0 0) _ _ _ g1
  have g3 := heap_set_same _ _ 2 (.slice none 0 0) _ _ _ g2
  have q0 := cell_of_row _ _ 0 _ _ _ g3
  have q1 := cell_of_row _ _ 1 _ _ _ g3
  have q2 := cell_of_row _ _ 2 _ _ _ g3
  have HBF : Hid (Below w.heap.size w (((W.setCell ⟨w.heap.size + 1 + 1, 0, none⟩ (.int .i64 0)).setCell ⟨w.heap.size + 1 + 1, 1, none⟩ (.slice none 0 0)).setCell ⟨w.heap.size + 1 + 1, 2, none⟩ (.slice none 0 0))) := Lib.hid (((HB.out.setCell (p := ⟨w.heap.size + 1 + 1, 0, none⟩) (by show w.heap.size ≤ w.heap.size + 1 + 1; omega) _).setCell (p := ⟨w.heap.size + 1 + 1, 1, none⟩) (by show w.heap.size ≤ w.heap.size + 1 + 1; omega) _).setCell (p := ⟨w.heap.size + 1 + 1, 2, none⟩) (by show w.heap.size ≤ w.heap.size + 1 + 1; omega) _)
  clear r0 r1 r2 f0 g1 g2 g3
  generalize ((W.setCell ⟨w.heap.size + 1 + 1, 0, none⟩ (.int .i64 0)).setCell ⟨w.heap.size + 1 + 1, 1, none⟩ (.slice none 0 0)).setCell ⟨w.heap.size + 1 + 1, 2, none⟩ (.slice none 0 0) = WF at *
  exact bodyPost_ret (v := .tuple #[.agg #[.int .i64 0, .slice none 0 0, .slice none 0 0], .int .i64 1]) (by simp [results, Tryz.f12, go_sem, q0, q1, q2]) rfl ⟨rfl, HBF.out⟩
set_option maxRecDepth 100000 in
set_option maxHeartbeats 2000000 in
theorem sign_no2 (secret m : ByteArray) (h i : Int) (w : World) (h1 : ¬ h < 0) (h2 : 8 < h) :
    Calls Tryz.prog 12 #[.string secret, .int .i64 h, .int .i64 i, .string m] w (SignNo w) := by
  have hd1 : decide (h < 0) = false := decide_eq_false h1
  have hd2 : decide (8 < h) = true := decide_eq_true h2
  go_enter Tryz.func12, Tryz.ntmps12
  go_wp2_with fail
  go_quiet (fail)
  obtain ⟨hr, hb⟩ := three_new w nq (.cells #[.string secret] 9) (.cells #[.int .i64 i] 3) (.int .i64 0) (.slice none 0 0) (.slice none 0 0) (.int .i64 0) (.slice none 0 0) (.slice none 0 0) 24
  generalize (((w.alloc (.cells #[.string secret] 9)).alloc (.cells #[.int .i64 i] 3)).alloc (.cells #[.int .i64 0, .slice none 0 0, .slice none 0 0] 24)).drewN nq = W at *
  have r0 : W.cell? ⟨w.heap.size + 1 + 1, 0, none⟩ = some (.int .i64 0) := by rw [cell_of_row _ _ 0 _ _ _ hr]; rfl
  have r1 : W.cell? ⟨w.heap.size + 1 + 1, 1, none⟩ = some (.slice none 0 0) := by rw [cell_of_row _ _ 1 _ _ _ hr]; rfl
  have r2 : W.cell? ⟨w.heap.size + 1 + 1, 2, none⟩ = some (.slice none 0 0) := by rw [cell_of_row _ _ 2 _ _ _ hr]; rfl
  have f0 : ∀ o, W.frozen? ⟨w.heap.size + 1 + 1, o, none⟩ = false := fun o => by simp [World.frozen?, hr]
  have HR := Lib.hid hr
  have HB := Lib.hid hb
  clear hr hb
  go_wp2
  have g1 := heap_set_same W _ 0 (.int .i64 0) _ _ _ HR.out
  have g2 := heap_set_same _ _ 1 (.slice none 0 0) _ _ _ g1
  have g3 := heap_set_same _ _ 2 (.slice none 0 0) _ _ _ g2
  have q0 := cell_of_row _ _ 0 _ _ _ g3
  have q1 := cell_of_row _ _ 1 _ _ _ g3
  have q2 := cell_of_row _ _ 2 _ _ _ g3
  have HBF : Hid (Below w.heap.size w (((W.setCell ⟨w.heap.size + 1 + 1, 0, none⟩ (.int .i64 0)).setCell ⟨w.heap.size + 1 + 1, 1, none⟩ (.slice none 0 0)).setCell ⟨w.heap.size + 1 + 1, 2, none⟩ (.slice none 0 0))) := Lib.hid (((HB.out.setCell (p := ⟨w.heap.size + 1 + 1, 0, none⟩) (by show w.heap.size ≤ w.heap.size + 1 + 1; omega) _).setCell (p := ⟨w.heap.size + 1 + 1, 1, none⟩) (by show w.heap.size ≤ w.heap.size + 1 + 1; omega) _).setCell (p := ⟨w.heap.size + 1 + 1, 2, none⟩) (by show w.heap.size ≤ w.heap.size + 1 + 1; omega) _)
  clear r0 r1 r2 f0 g1 g2 g3
  generalize ((W.setCell ⟨w.heap.size + 1 + 1, 0, none⟩ (.int .i64 0)).setCell ⟨w.heap.size + 1 + 1, 1, none⟩ (.slice none 0 0)).setCell ⟨w.heap.size + 1 + 1, 2, none⟩ (.slice none 0 0) = WF at *
  exact bodyPost_ret (v := .tuple #[.agg #[.int .i64 0, .slice none 0 0, .slice none 0 0], .int .i64 1]) (by simp [results, Tryz.f12, go_sem, q0, q1, q2]) rfl ⟨rfl, HBF.out⟩
set_option maxRecDepth 100000 in
set_option maxHeartbeats 2000000 in
theorem sign_no3 (secret m : ByteArray) (h i : Int) (w : World) (h1 : ¬ h < 0) (h2 : ¬ 8 < h) (h3 : i < 0) :
    Calls Tryz.prog 12 #[.string secret, .int .i64 h, .int .i64 i, .string m] w (SignNo w) := by
  have hd1 : decide (h < 0) = false := decide_eq_false h1
  have hd2 : decide (8 < h) = false := decide_eq_false h2
  have hd3 : decide (i < 0) = true := decide_eq_true h3
  go_enter Tryz.func12, Tryz.ntmps12
  go_wp2_with fail
  go_quiet (fail)
  obtain ⟨hr, hb⟩ := three_new w nq (.cells #[.string secret] 9) (.cells #[.int .i64 i] 3) (.int .i64 0) (.slice none 0 0) (.slice none 0 0) (.int .i64 0) (.slice none 0 0) (.slice none 0 0) 24
  generalize (((w.alloc (.cells #[.string secret] 9)).alloc (.cells #[.int .i64 i] 3)).alloc (.cells #[.int .i64 0, .slice none 0 0, .slice none 0 0] 24)).drewN nq = W at *
  have r0 : W.cell? ⟨w.heap.size + 1 + 1, 0, none⟩ = some (.int .i64 0) := by rw [cell_of_row _ _ 0 _ _ _ hr]; rfl
  have r1 : W.cell? ⟨w.heap.size + 1 + 1, 1, none⟩ = some (.slice none 0 0) := by rw [cell_of_row _ _ 1 _ _ _ hr]; rfl
  have r2 : W.cell? ⟨w.heap.size + 1 + 1, 2, none⟩ = some (.slice none 0 0) := by rw [cell_of_row _ _ 2 _ _ _ hr]; rfl
  have f0 : ∀ o, W.frozen? ⟨w.heap.size + 1 + 1, o, none⟩ = false := fun o => by simp [World.frozen?, hr]
  have HR := Lib.hid hr
  have HB := Lib.hid hb
  clear hr hb
  go_wp2
  have g1 := heap_set_same W _ 0 (.int .i64 0) _ _ _ HR.out
  have g2 := heap_set_same _ _ 1 (.slice none 0 0) _ _ _ g1
  have g3 := heap_set_same _ _ 2 (.slice none 0 0) _ _ _ g2
  have q0 := cell_of_row _ _ 0 _ _ _ g3
  have q1 := cell_of_row _ _ 1 _ _ _ g3
  have q2 := cell_of_row _ _ 2 _ _ _ g3
  have HBF : Hid (Below w.heap.size w (((W.setCell ⟨w.heap.size + 1 + 1, 0, none⟩ (.int .i64 0)).setCell ⟨w.heap.size + 1 + 1, 1, none⟩ (.slice none 0 0)).setCell ⟨w.heap.size + 1 + 1, 2, none⟩ (.slice none 0 0))) := Lib.hid (((HB.out.setCell (p := ⟨w.heap.size + 1 + 1, 0, none⟩) (by show w.heap.size ≤ w.heap.size + 1 + 1; omega) _).setCell (p := ⟨w.heap.size + 1 + 1, 1, none⟩) (by show w.heap.size ≤ w.heap.size + 1 + 1; omega) _).setCell (p := ⟨w.heap.size + 1 + 1, 2, none⟩) (by show w.heap.size ≤ w.heap.size + 1 + 1; omega) _)
  clear r0 r1 r2 f0 g1 g2 g3
  generalize ((W.setCell ⟨w.heap.size + 1 + 1, 0, none⟩ (.int .i64 0)).setCell ⟨w.heap.size + 1 + 1, 1, none⟩ (.slice none 0 0)).setCell ⟨w.heap.size + 1 + 1, 2, none⟩ (.slice none 0 0) = WF at *
  exact bodyPost_ret (v := .tuple #[.agg #[.int .i64 0, .slice none 0 0, .slice none 0 0], .int .i64 1]) (by simp [results, Tryz.f12, go_sem, q0, q1, q2]) rfl ⟨rfl, HBF.out⟩
set_option maxRecDepth 100000 in
set_option maxHeartbeats 2000000 in
theorem sign_no4 (secret m : ByteArray) (n : Nat) (i : Int) (w : World) (h2 : n ≤ 8) (h3 : ¬ i < 0) (h4 : ((2 ^ n : Nat) : Int) ≤ i) :
    Calls Tryz.prog 12 #[.string secret, .int .i64 (n : Int), .int .i64 i, .string m] w (SignNo w) := by
  have hd1 : decide ((n : Int) < 0) = false := decide_eq_false (by omega)
  have hd2 : decide ((8 : Int) < (n : Int)) = false := decide_eq_false (by omega)
  have hd3 : decide (i < 0) = false := decide_eq_false h3
  have hwp := wrap_pow n (by omega)
  have hd4 : decide (((2 ^ n : Nat) : Int) ≤ i) = true := decide_eq_true h4
  have hd4' : decide (((2 : Int) ^ n) ≤ i) = true := by
    have e : ((2 ^ n : Nat) : Int) = (2 : Int) ^ n := by simp
    rw [← e]; exact hd4
  clear h4
  go_enter Tryz.func12, Tryz.ntmps12
  go_wp2_with fail
  go_quiet (fail)
  obtain ⟨hr, hb⟩ := three_new w nq (.cells #[.string secret] 9) (.cells #[.int .i64 i] 3) (.int .i64 0) (.slice none 0 0) (.slice none 0 0) (.int .i64 0) (.slice none 0 0) (.slice none 0 0) 24
  generalize (((w.alloc (.cells #[.string secret] 9)).alloc (.cells #[.int .i64 i] 3)).alloc (.cells #[.int .i64 0, .slice none 0 0, .slice none 0 0] 24)).drewN nq = W at *
  have r0 : W.cell? ⟨w.heap.size + 1 + 1, 0, none⟩ = some (.int .i64 0) := by rw [cell_of_row _ _ 0 _ _ _ hr]; rfl
  have r1 : W.cell? ⟨w.heap.size + 1 + 1, 1, none⟩ = some (.slice none 0 0) := by rw [cell_of_row _ _ 1 _ _ _ hr]; rfl
  have r2 : W.cell? ⟨w.heap.size + 1 + 1, 2, none⟩ = some (.slice none 0 0) := by rw [cell_of_row _ _ 2 _ _ _ hr]; rfl
  have f0 : ∀ o, W.frozen? ⟨w.heap.size + 1 + 1, o, none⟩ = false := fun o => by simp [World.frozen?, hr]
  have HR := Lib.hid hr
  have HB := Lib.hid hb
  clear hr hb
  go_wp2
  have g1 := heap_set_same W _ 0 (.int .i64 0) _ _ _ HR.out
  have g2 := heap_set_same _ _ 1 (.slice none 0 0) _ _ _ g1
  have g3 := heap_set_same _ _ 2 (.slice none 0 0) _ _ _ g2
  have q0 := cell_of_row _ _ 0 _ _ _ g3
  have q1 := cell_of_row _ _ 1 _ _ _ g3
  have q2 := cell_of_row _ _ 2 _ _ _ g3
  have HBF : Hid (Below w.heap.size w (((W.setCell ⟨w.heap.size + 1 + 1, 0, none⟩ (.int .i64 0)).setCell ⟨w.heap.size + 1 + 1, 1, none⟩ (.slice none 0 0)).setCell ⟨w.heap.size + 1 + 1, 2, none⟩ (.slice none 0 0))) := Lib.hid (((HB.out.setCell (p := ⟨w.heap.size + 1 + 1, 0, none⟩) (by show w.heap.size ≤ w.heap.size + 1 + 1; omega) _).setCell (p := ⟨w.heap.size + 1 + 1, 1, none⟩) (by show w.heap.size ≤ w.heap.size + 1 + 1; omega) _).setCell (p := ⟨w.heap.size + 1 + 1, 2, none⟩) (by show w.heap.size ≤ w.heap.size + 1 + 1; omega) _)
  clear r0 r1 r2 f0 g1 g2 g3
  generalize ((W.setCell ⟨w.heap.size + 1 + 1, 0, none⟩ (.int .i64 0)).setCell ⟨w.heap.size + 1 + 1, 1, none⟩ (.slice none 0 0)).setCell ⟨w.heap.size + 1 + 1, 2, none⟩ (.slice none 0 0) = WF at *
  exact bodyPost_ret (v := .tuple #[.agg #[.int .i64 0, .slice none 0 0, .slice none 0 0], .int .i64 1]) (by simp [results, Tryz.f12, go_sem, q0, q1, q2]) rfl ⟨rfl, HBF.out⟩
theorem sign_bad (secret m : ByteArray) (h i : Int) (w : World) (hb : ¬ (0 ≤ h ∧ h ≤ 8 ∧ 0 ≤ i ∧ i < ((2 ^ h.toNat : Nat) : Int))) :
    Calls Tryz.prog 12 #[.string secret, .int .i64 h, .int .i64 i, .string m] w (SignNo w) := by
  by_cases h1 : h < 0
  · exact sign_no1 secret m h i w h1
  · by_cases h2 : 8 < h
    · exact sign_no2 secret m h i w h1 h2
    · by_cases h3 : i < 0
      · exact sign_no3 secret m h i w h1 h2 h3
      · obtain ⟨n, rfl⟩ : ∃ n : Nat, h = (n : Int) := ⟨h.toNat, by omega⟩
        rw [Int.toNat_natCast] at hb
        refine sign_no4 secret m n i w (by omega) h3 ?_
        generalize ((2 ^ n : Nat) : Int) = p at *
        omega
end Go.Proofs.YtpogffdbencfnaaGreatDoor

