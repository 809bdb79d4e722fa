import Derived.Test.YtdekcppfpgeneaaGreatDoorM3
import Derived.Test.YtdekcppfpgeneaaGreatDoorM2
import Derived.Lib.Atoi
import Derived.Lib.AtoiErrMem
import Derived.Test.YtdekcppfpgeneaaGreatDoorM4
import Derived.KernelRfl
import Derived.WideShapes
import Derived.Test.YtdekcppfpgeneaaGreatDoorRows
import Derived.Lib.LaidTab
import Derived.Lib.LaidU8
import Derived.Stop.LaidErr
set_option linter.unusedVariables false
set_option linter.unusedSimpArgs false
namespace Go.Proofs.YtdekcppfpgeneaaGreatDoor
namespace Nt

/-! Lowest terms: plain. -/
theorem low_cross {n d n' d' : Nat} (hd : 0 < d) (hd' : 0 < d') (h : n * d' = n' * d) : n / Nat.gcd n d = n' / Nat.gcd n' d' ∧ d / Nat.gcd n d = d' / Nat.gcd n' d' := by
 have hg : 0 < Nat.gcd n d := Nat.gcd_pos_of_pos_right _ hd
 have hg' : 0 < Nat.gcd n' d' := Nat.gcd_pos_of_pos_right _ hd'
 have c1 := Nat.coprime_div_gcd_div_gcd hg
 have c2 := Nat.coprime_div_gcd_div_gcd hg'
 obtain ⟨a, ha⟩ := Nat.gcd_dvd_left n d
 obtain ⟨b, hb⟩ := Nat.gcd_dvd_right n d
 obtain ⟨a', ha'⟩ := Nat.gcd_dvd_left n' d'
 obtain ⟨b', hb'⟩ := Nat.gcd_dvd_right n' d'
 generalize Nat.gcd n d = g at *
 generalize Nat.gcd n' d' = g' at *
 subst ha hb ha' hb'
 rw [Nat.mul_div_cancel_left _ hg, Nat.mul_div_cancel_left _ hg] at *
 rw [Nat.mul_div_cancel_left _ hg', Nat.mul_div_cancel_left _ hg'] at *
 have e : a * b' = a' * b := by
  have : (g * g') * (a * b') = (g * g') * (a' * b) := by
   calc (g * g') * (a * b') = (g * a) * (g' * b') := by simp only [Nat.mul_left_comm, Nat.mul_comm, Nat.mul_assoc]
    _ = (g' * a') * (g * b) := h
    _ = (g * g') * (a' * b) := by simp only [Nat.mul_left_comm, Nat.mul_comm, Nat.mul_assoc]
  exact Nat.eq_of_mul_eq_mul_left (Nat.mul_pos hg hg') this
 have d1 : b ∣ b' := c1.symm.dvd_of_dvd_mul_left ⟨a', by rw [e, Nat.mul_comm]⟩
 have d2 : b' ∣ b := c2.symm.dvd_of_dvd_mul_left ⟨a, by rw [← e, Nat.mul_comm]⟩
 have eb := Nat.dvd_antisymm d1 d2
 subst eb
 have hb0 : 0 < b := by rcases Nat.eq_zero_or_pos b with h | h; subst h; simp at hd; exact h
 exact ⟨Nat.eq_of_mul_eq_mul_right hb0 e, rfl⟩
theorem low_pos {n d : Nat} (hd : 0 < d) : 0 < d / Nat.gcd n d := Nat.div_pos (Nat.le_of_dvd hd (Nat.gcd_dvd_right n d)) (Nat.gcd_pos_of_pos_right _ hd)
theorem low_cop {n d : Nat} (hd : 0 < d) : Nat.gcd (n / Nat.gcd n d) (d / Nat.gcd n d) = 1 := (Nat.coprime_div_gcd_div_gcd (Nat.gcd_pos_of_pos_right _ hd)).gcd_eq_one
/-- units of a part -/
theorem low_units {n N : Nat} (hN : 0 < N) : N % (N / Nat.gcd n N) = 0 ∧ n / Nat.gcd n N * (N / (N / Nat.gcd n N)) = n := by
 have hg : 0 < Nat.gcd n N := Nat.gcd_pos_of_pos_right _ hN
 obtain ⟨a, ha⟩ := Nat.gcd_dvd_left n N
 obtain ⟨b, hb⟩ := Nat.gcd_dvd_right n N
 generalize Nat.gcd n N = g at *
 subst ha hb
 have hb0 : 0 < b := by rcases Nat.eq_zero_or_pos b with h | h; subst h; simp at hN; exact h
 rw [Nat.mul_div_cancel_left _ hg, Nat.mul_div_cancel_left _ hg, Nat.mul_div_cancel _ hb0, Nat.mul_mod_left]
 exact ⟨rfl, Nat.mul_comm _ _⟩
end Nt
end Go.Proofs.YtdekcppfpgeneaaGreatDoor
set_option linter.unusedVariables false
set_option linter.unusedSimpArgs false
namespace Go.Proofs.YtdekcppfpgeneaaGreatDoor
open Go Go.RowKit
namespace Rg
open Av Nt
/-! The units of a part. -/
theorem decFrom_val : ∀ (l : List UInt8) (acc : Nat), l.all digitB = true → Lib.decFrom acc l = some (acc * 10 ^ l.length + decVal l)
 | [], acc, _ => by simp [Lib.decFrom, decVal]
 | c :: r, acc, h => by
  rw [List.all_cons, Bool.and_eq_true] at h
  have hd : Lib.digitVal c = some (c.toNat - 48) := by
   have := h.1
   unfold digitB at this
   simp only [Bool.and_eq_true, decide_eq_true_eq] at this
   unfold Lib.digitVal
   rw [if_pos this]
  rw [Lib.decFrom, hd]
  simp only
  rw [decFrom_val r _ h.2]
  have e : decVal (c :: r) = (c.toNat - 48) * 10 ^ r.length + decVal r := by
   have := decVal_append [c] r
   simp only [List.singleton_append] at this
   rw [this]
   simp [decVal]
  rw [e, List.length_cons, Nat.pow_succ, Nat.add_mul]
  congr 1
  rw [Nat.mul_comm (10 ^ r.length) 10, ← Nat.mul_assoc, Nat.add_assoc]
theorem atoi_val {t : ByteArray} (h : IsNat t) : Lib.atoi t.data.toList = some (valS t : Int) := by
 have hd := h.digits
 have hp := h.pos
 rw [Lib.size_eq] at hp
 unfold valS
 cases hl : t.data.toList with
 | nil => rw [hl] at hp; simp at hp
 | cons c r =>
  rw [hl] at hd
  have hc : digitB c = true := by rw [List.all_cons, Bool.and_eq_true] at hd; exact hd.1
  unfold digitB at hc
  simp only [Bool.and_eq_true, decide_eq_true_eq] at hc
  have h1 : (c == 45) = false := by
   rw [beq_eq_false_iff_ne]; rintro rfl; revert hc; decide
  have h2 : (c == 43) = false := by
   rw [beq_eq_false_iff_ne]; rintro rfl; revert hc; decide
  rw [Lib.atoi, h1, h2]
  simp only [Bool.false_eq_true, if_false, Lib.decNat, List.isEmpty_cons]
  rw [decFrom_val _ _ hd]
  simp
def unitsR (r : Rt) : Int := if (validR r && (!r.neg && (decide (r.num.size ≤ 4) && decide (r.den.size ≤ 4)))) = true then (if valS r.num ≤ valS r.den ∧ 6000 % valS r.den = 0 then ((valS r.num * (6000 / valS r.den) : Nat) : Int) else 0) else 0
theorem valid_nat {r : Rt} (h : validR r = true) : IsNat r.num ∧ IsNat r.den ∧ valS r.den ≠ 0 := by
 unfold validR at h
 split at h
 ·rename_i ho
  unfold okN at ho
  rw [Bool.and_eq_true] at ho
  refine ⟨isN_ok ho.1, isN_ok ho.2, fun e => ?_⟩
  rw [if_pos e] at h; cases h
 ·cases h
theorem val_4 {t : ByteArray} (h : IsNat t) (hs : t.size ≤ 4) : valS t < 10000 := by
 have := decVal_lt h.digits
 refine Nat.lt_of_lt_of_le this (Nat.le_trans (Nat.pow_le_pow_right (by decide) (by rw [← Lib.size_eq]; exact hs)) (by decide))
theorem units_bd (r : Rt) : 0 ≤ unitsR r ∧ unitsR r ≤ 6000 := by
 unfold unitsR
 split
 ·split
  ·rename_i h1 h2
   have h := Nat.mul_le_mul_right (6000 / valS r.den) h2.1
   have h3 : valS r.den * (6000 / valS r.den) ≤ 6000 := Nat.mul_div_le _ _
   omega
  ·omega
 ·omega
end Rg
namespace Av
attribute [local irreducible] AW AOps AHOps
open Nt Rg
section
variable (base : World)
theorem atoi_a (t : ByteArray) (h : IsNat t) (hs : t.size ≤ 4) : PureA Tryz.prog base 70 [tA t] (.tup [iA (valS t), .d (.v .nilIface)]) :=
 pure_of_rep Tryz.call70 fun s vs hs' ha => by
  rw [args1 ha]
  refine (Tryz.strconv_Atoi t (valS t) (by omega) (atoi_val h) s.w).mono ?_
  rintro e w' ⟨rfl, tt0, rfl⟩
  have hv := val_4 h hs
  refine ⟨_, rfl, Lib.bytesWorld_below _ _ _, fun s' _ _ => ?_⟩
  simp only [Rep]
  refine ⟨_, rfl, .cons ?_ (.cons ?_ .nil)⟩
  ·simp only [iA, Rep, PRep, true_and, small, IntKind.min, IntKind.max, IntKind.signed, IntKind.bits]
   (try simp)
   omega
  ·simp only [Rep, PRep, true_and, small]
set_option maxRecDepth 100000 in
set_option maxHeartbeats 4000000 in
theorem units_a {base : World} (hT : Tabs base) (r : Rt) (h1 : r.num.size ≤ 9223372036854775807) (h2 : r.den.size ≤ 9223372036854775807) : PureA Tryz.prog base 41 [ratA r] (iA (unitsR r)) := by
 have cv := valid_a hT r h1 h2
 refine pure_enter ttOk Tryz.call41 Tryz.func41 rfl fun H hB hb hF => ?_
 rw [Tryz.results41, Tryz.ntmps41]
 simp only [arr_list, List.length_cons, List.length_nil, List.replicate, List.cons_append, List.nil_append, Nat.reduceAdd, Nat.reduceSub]
 clear hF hb
 obtain ⟨neg, num, den⟩ := r
 have hvn := valid_nat (r := ⟨neg, num, den⟩)
 simp only at h1 h2 hvn
 unfold unitsR
 simp only [ratA, tA, iA] at cv ⊢
 obtain ⟨bv, hbv⟩ : ∃ b, validR ⟨neg, num, den⟩ = b := ⟨_, rfl⟩
 rw [hbv] at cv hvn ⊢
 obtain ⟨b1, e1⟩ : ∃ d, decide (num.size ≤ 4) = d := ⟨_, rfl⟩
 obtain ⟨b2, e2⟩ : ∃ d, decide (den.size ≤ 4) = d := ⟨_, rfl⟩
 have f1 : decide ((num.size : Int) > 4) = !b1 := by
  subst e1; by_cases h : num.size ≤ 4
  ·rw [decide_eq_true h, decide_eq_false (by omega)]; rfl
  ·rw [decide_eq_false h, decide_eq_true (by omega)]; rfl
 have f2 : decide ((den.size : Int) > 4) = !b2 := by
  subst e2; by_cases h : den.size ≤ 4
  ·rw [decide_eq_true h, decide_eq_false (by omega)]; rfl
  ·rw [decide_eq_false h, decide_eq_true (by omega)]; rfl
 rw [e1, e2]
 by_cases hg : (bv && (!neg && (b1 && b2))) = true
 ·rw [if_pos hg]
  simp only [Bool.and_eq_true, Bool.not_eq_true'] at hg
  obtain ⟨rfl, rfl, rfl, rfl⟩ := hg
  obtain ⟨hn, hd, h0⟩ := hvn rfl
  have s1 := of_decide_eq_true e1
  have s2 := of_decide_eq_true e2
  have c1 := atoi_a base num hn s1
  have c2 := atoi_a base den hd s2
  have v1 := val_4 hn s1
  have v2 := val_4 hd s2
  simp only [tA, iA] at c1 c2
  generalize valS num = n at *
  generalize valS den = d at *
  have z1 : ((d : Int) = 0) = False := eq_false (by omega)
  obtain ⟨q, hq⟩ : ∃ q, 6000 / d = q := ⟨_, rfl⟩
  obtain ⟨m, hm⟩ : ∃ m, 6000 % d = m := ⟨_, rfl⟩
  have q1 : q ≤ 6000 := hq ▸ Nat.div_le_self _ _
  have q2 : d * q ≤ 6000 := hq ▸ Nat.mul_div_le _ _
  have m1 : m ≤ 6000 := hm ▸ Nat.mod_le _ _
  have z2 : (6000 : Int).tmod (d : Int) = (m : Int) := by rw [← hm]; rfl
  have z3 : (6000 : Int).tdiv (d : Int) = (q : Int) := by rw [← hq]; rfl
  have z4 : IntKind.i64.wrap (q : Int) = (q : Int) := by rw [IntKind.wrap_i64]; omega
  have z5 : IntKind.i64.wrap (m : Int) = (m : Int) := by rw [IntKind.wrap_i64]; omega
  rw [hq, hm]
  obtain ⟨d1, g1⟩ : ∃ c, decide ((n : Int) > (d : Int)) = c := ⟨_, rfl⟩
  obtain ⟨d2, g2⟩ : ∃ c, decide ((m : Int) = 0) = c := ⟨_, rfl⟩
  have z6 : d1 = false → IntKind.i64.wrap ((n : Int) * (q : Int)) = ((n * q : Nat) : Int) := fun hd1 => by
   have h1 : n ≤ d := by subst hd1; have := of_decide_eq_false g1; omega
   have h2 := Nat.mul_le_mul_right q h1
   rw [← Int.natCast_mul, IntKind.wrap_i64]
   generalize n * q = nq at *
   omega
  have hif : (n ≤ d ∧ m = 0) = (d1 = false ∧ d2 = true) := by
   subst g1 g2
   simp only [decide_eq_false_iff_not, decide_eq_true_eq]
   exact propext ⟨fun h => ⟨by omega, by omega⟩, fun h => ⟨by omega, by omega⟩⟩
  simp only [hif]
  repeat' (first | (refine aops_cons ?_; first | (refine zg rfl ?_; first | refine grd_on ?_ | refine zo ?_ | (refine zs ?_ ?_ <;> intro hb <;> ((try simp only [bn] at hb); first | subst hb | simp only [hb]))) | (apply aops_o; rfl; simp only [estep, avs, tts, seval, f1, f2, z1, z2, z3, z4, z5, g1, g2, Bool.not_true, Bool.not_false] <;> exact rr) | (refine za rfl ?_; first | refine zp (cv) ?_ | refine zp (c1) ?_ | refine zp (c2) ?_)) | refine aops_nil ?_ | (refine ahops_cons ?_; first | (refine yg rfl ?_; first | refine hgrd_on ?_ | refine yo ?_ | (refine ys ?_ ?_ <;> intro hb <;> ((try simp only [bn] at hb); first | subst hb | simp only [hb]))) | (apply ahops_o; rfl; simp only [hstep, avs, tts, seval, f1, f2, z1, z2, z3, z4, z5, g1, g2, Bool.not_true, Bool.not_false] <;> exact rr; first | trivial | omega) | (refine ya rfl ?_; first | refine yp (cv) ?_ | refine yp (c1) ?_ | refine yp (c2) ?_)) | refine ahops_nil ?_ | refine aw_seq ?_ | refine zr ttOk ?_ | refine zR 0 ttOk mixed ?_ | refine zR 1 ttOk mixed ?_ | refine zR 2 ttOk mixed ?_ | refine zR 3 ttOk mixed ?_ | refine zf rfl rfl ?_ | refine zt rfl rfl ?_ | (refine aw_cond rfl rfl ?_ ?_ <;> intro hb <;> ((try simp only [bn] at hb); first | subst hb | simp only [hb])) | refine aw_skip ?_ | refine aw_exit ?_ | refine aw_block ?_)
  all_goals (simp only [Bool.false_eq_true, and_true, and_false, false_and, true_and, if_true, if_false, reduceCtorEq])
  all_goals first
   | (show AW _ _ _ _ _; exact aw_ret ⟨_, rfl, _, rfl, rfl⟩)
   | (rw [z6 rfl]; show AW _ _ _ _ _; exact aw_ret ⟨_, rfl, _, rfl, rfl⟩)
 ·rw [if_neg hg]
  clear hbv e1 e2 hvn
  have hg' : (bv && (!neg && (b1 && b2))) = false := by simpa using hg
  clear hg
  repeat' (first | (refine aops_cons ?_; first | (refine zg rfl ?_; first | refine grd_on ?_ | refine zo ?_ | (refine zs ?_ ?_ <;> intro hb <;> ((try simp only [bn] at hb); first | subst hb | simp only [hb]))) | (apply aops_o; rfl; simp only [estep, avs, tts, seval, f1, f2, Bool.not_true, Bool.not_false] <;> exact rr) | (refine za rfl ?_; refine zp (cv) ?_)) | refine aops_nil ?_ | (refine ahops_cons ?_; first | (refine yg rfl ?_; first | refine hgrd_on ?_ | refine yo ?_ | (refine ys ?_ ?_ <;> intro hb <;> ((try simp only [bn] at hb); first | subst hb | simp only [hb]))) | (apply ahops_o; rfl; simp only [hstep, avs, tts, seval, f1, f2, Bool.not_true, Bool.not_false] <;> exact rr; first | trivial | omega) | (refine ya rfl ?_; refine yp (cv) ?_)) | refine ahops_nil ?_ | refine aw_seq ?_ | refine zr ttOk ?_ | refine zR 0 ttOk mixed ?_ | refine zR 1 ttOk mixed ?_ | refine zR 2 ttOk mixed ?_ | refine zR 3 ttOk mixed ?_ | refine zf rfl rfl ?_ | refine zt rfl rfl ?_ | (refine aw_cond rfl rfl ?_ ?_ <;> intro hb <;> ((try simp only [bn] at hb); first | subst hb | simp only [hb])) | refine aw_skip ?_ | refine aw_exit ?_ | refine aw_block ?_)
  all_goals first
   | (exfalso; revert hg'; decide)
   | (show AW _ _ _ _ _; exact aw_ret ⟨_, rfl, _, rfl, rfl⟩)
end
end Av
end Go.Proofs.YtdekcppfpgeneaaGreatDoor
set_option linter.unusedVariables false
set_option linter.unusedSimpArgs false
namespace Go.Proofs.YtdekcppfpgeneaaGreatDoor
open Go Go.RowKit
namespace Rg
open Av Nt
/-! Well-formed links: plain. -/
def riseB (p : Int × Int) (c h : Int) : Bool := decide (c > p.1) || (decide (c = p.1) && decide (h > p.2))
def lastK (l : List Lk) : Int × Int := match l.getLast? with
 | none => (-1, -1)
 | some x => (x.company, x.holder)
def totU (l : List Lk) (c : Int) : Int := sumF (fun x => decide (x.company = c)) (fun x => unitsR x.part) l
def bad1 (n : Int) (pre : List Lk) (x : Lk) : Bool := decide (x.company < 0) || (decide (x.company ≥ n) || (decide (x.holder < 0) || (decide (x.holder ≥ n) || (decide (x.company = x.holder) || (!riseB (lastK pre) x.company x.holder || (decide (unitsR x.part = 0) || decide (totU (pre ++ [x]) x.company > 6000)))))))
def goodF (n : Int) : List Lk → List Lk → Bool
 | _, [] => true
 | pre, x :: r => !bad1 n pre x && goodF n (pre ++ [x]) r
def goodB (n : Int) (l : List Lk) : Bool := goodF n [] l
theorem goodF_at {n : Int} : ∀ {l pre : List Lk}, goodF n pre l = true ↔ ∀ k (h : k < l.length), bad1 n (pre ++ l.take k) l[k] = false
 | [], pre => by simp [goodF]
 | x :: r, pre => by
  rw [goodF, Bool.and_eq_true, goodF_at]
  constructor
  ·rintro ⟨h1, h2⟩ k hk
   cases k with
   | zero => simpa using h1
   | succ k => have := h2 k (by simpa using hk); simpa using this
  ·intro h
   refine ⟨by have := h 0 (by simp); simpa using this, fun k hk => ?_⟩
   have := h (k + 1) (by simpa using hk)
   simpa using this
theorem goodB_at {n : Int} {l : List Lk} : goodB n l = true ↔ ∀ k (h : k < l.length), bad1 n (l.take k) l[k] = false := by
 unfold goodB; rw [goodF_at]; simp
theorem goodB_no {n : Int} {l : List Lk} {k : Nat} (h : k < l.length) (hb : bad1 n (l.take k) l[k] = true) : goodB n l = false := by
 cases hg : goodB n l with
 | false => rfl
 | true => rw [goodB_at.1 hg k h] at hb; cases hb
theorem totU_snoc (l : List Lk) (x : Lk) (c : Int) : totU (l ++ [x]) c = totU l c + (if x.company = c then unitsR x.part else 0) := by
 unfold totU
 rw [sumF_snoc]
 simp only [decide_eq_true_eq]
theorem totU_nonneg (l : List Lk) (c : Int) : 0 ≤ totU l c := sumF_nonneg fun x _ _ => (units_bd x.part).1
theorem lastK_take {l : List Lk} {k : Nat} (h : k < l.length) : lastK (l.take (k + 1)) = (l[k].company, l[k].holder) := by
 have e : l.take (k + 1) = l.take k ++ [l[k]] := by rw [List.take_add_one, List.getElem?_eq_getElem h]; rfl
 rw [e]
 unfold lastK
 rw [List.getLast?_concat]
def encI (i : Int) : Value := .int .i64 i
theorem keq_I (a b : Int) : keyEq (encI a) (encI b) = decide (a = b) := by
 show keyEq (.int .i64 a) (.int .i64 b) = _
 simp [keyEq, eqV]
def totV (l : List Lk) (c : Int) : AV := .d (.v (.int .i64 (totU l c)))
def totE (l : List Lk) : List (Value × AV) := mpE encI (kfold (l.map Lk.company)) (totV l)
theorem totU_out {l : List Lk} {c : Int} (h : ¬ c ∈ kfold (l.map Lk.company)) : totU l c = 0 := by
 unfold totU
 refine Classical.byContradiction fun hn => ?_
 obtain ⟨x, hx, he⟩ := sumF_pos_mem hn
 exact h (mem_kfold.2 (List.mem_map.2 ⟨x, hx, of_decide_eq_true he⟩))
theorem totE_get (l : List Lk) (c : Int) : (mget (totE l) (.int .i64 c)).getD (.d (.v (.int .i64 0))) = .d (.v (.int .i64 (totU l c))) :=
 mgetD_eq keq_I (f := totV l) (k := c) fun h => by unfold totV; rw [totU_out h]
theorem totE_set (l : List Lk) (x : Lk) : mset (totE l) (.int .i64 x.company) (.d (.v (.int .i64 (totU (l ++ [x]) x.company)))) = totE (l ++ [x]) := by
 have := mset_mpE keq_I (kfold_nodup (l.map Lk.company)) (totV l) x.company (.d (.v (.int .i64 (totU (l ++ [x]) x.company))))
 unfold totE
 rw [show (Value.int .i64 x.company) = encI x.company from rfl, this, List.map_append, List.map_cons, List.map_nil, kfold_snoc]
 congr 1
 funext c
 unfold updF totV
 by_cases h : c = x.company
 ·subst h; rw [if_pos rfl]
 ·rw [if_neg h, totU_snoc, if_neg (fun e => h e.symm), Int.add_zero]
theorem totE_len (l : List Lk) : (totE l).length ≤ l.length := by
 unfold totE
 rw [mpE_len]
 refine Nat.le_trans (kfold_len _) ?_
 simp
theorem bel_totE {n : Nat} {kt et : Nat} {ks : KS} (l : List Lk) : (AObj.mp kt et ks (totE l)).bel n := by
 show belM n (totE l)
 unfold totE mpE
 induction kfold (l.map Lk.company) with
 | nil => exact trivial
 | cons a r ih => exact ⟨trivial, ih⟩
end Rg
namespace Av
attribute [local irreducible] AW AOps AHOps
open Nt Rg
section
variable {base : World} (hT : Tabs base)
include hT
set_option maxRecDepth 100000 in
set_option maxHeartbeats 16000000 in
theorem good_a {H : AHeap} {ln : Nat} (l : List Lk) (n : Int) (hn : H[ln]? = some (.box 3 [iA n])) (hl : l.length ≤ 1000000000) (hsz : ∀ x ∈ l, x.part.num.size ≤ 9223372036854775807 ∧ x.part.den.size ≤ 9223372036854775807) :
  ReadA Tryz.prog base 40 [.d (lklP l), .ptr ln 0] H (boA (goodB n l)) := by
 refine read_enter ttOk Tryz.call40 Tryz.func40 rfl fun hB hb hF => ?_
 rw [Tryz.results40, Tryz.ntmps40]
 simp only [arr_list, List.length_cons, List.length_nil, List.replicate, List.cons_append, List.nil_append, Nat.reduceAdd, Nat.reduceSub]
 clear hF hb
 have la : (l.map lkP).length = l.length := by simp
 have hnl := lt_of_get hn
 have ksh : ∀ i, keyShape (.one (.int .i64)) (.int .i64 i) = true := fun _ => rfl
 have ms0 : totE (l.take 0) = [] := rfl
 simp only [lklP]
 obtain ⟨P, hP⟩ : ∃ P, goodB n l = P := ⟨_, rfl⟩
 rw [hP]
 repeat' (first | (refine aops_cons ?_; first | (refine zg rfl ?_; first | refine grd_on ?_ | refine zo ?_ | (refine zs ?_ ?_ <;> intro hb <;> ((try simp only [bn] at hb); first | subst hb | simp only [hb]))) | (apply aops_o; rfl; simp only [estep, avs, tts, seval, la] <;> exact rr)) | refine aops_nil ?_ | (refine ahops_cons ?_; first | (refine yg rfl ?_; first | refine hgrd_on ?_ | refine yo ?_ | (refine ys ?_ ?_ <;> intro hb <;> ((try simp only [bn] at hb); first | subst hb | simp only [hb]))) | (apply ahops_o; rfl; simp only [hstep, avs, tts, seval, la] <;> exact rr; first | trivial | omega)) | refine ahops_nil ?_ | refine aw_seq ?_ | refine zr ttOk ?_ | refine zR 0 ttOk mixed ?_ | refine zR 1 ttOk mixed ?_ | refine zR 2 ttOk mixed ?_ | refine zR 3 ttOk mixed ?_ | refine zf rfl rfl ?_ | refine zt rfl rfl ?_ | (refine aw_cond rfl rfl ?_ ?_ <;> intro hb <;> ((try simp only [bn] at hb); first | subst hb | simp only [hb])) | refine aw_skip ?_ | refine aw_exit ?_ | refine aw_block ?_)
 refine aw_loop (H0 := H ++ [.mp 3 3 (.one (.int .i64)) (totE (l.take 0)), .box 63 [.d (.v (.int .i64 (-1))), .d (.v (.int .i64 (-1)))]]) (fun r env K => ∃ k, r = l.length - k ∧ k ≤ l.length ∧ (∀ i (hi : i < l.length), i < k → bad1 n (l.take i) l[i] = false) ∧ (∀ c, totU (l.take k) c ≤ 6000) ∧ K = H ++ [.mp 3 3 (.one (.int .i64)) (totE (l.take k)), .box 63 [.d (.v (.int .i64 (lastK (l.take k)).1)), .d (.v (.int .i64 (lastK (l.take k)).2))]] ∧ env = (.d (.sl 5 (l.map lkP)) :: .ptr ln 0 :: .undef :: .undef :: .mp H.length :: .ptr (H.length + 1) 0 :: List.replicate 7 .undef ++ .d (.sl 5 (l.map lkP)) :: .d (.v (.int .i64 (l.length : Int))) :: .d (.v (.int .i64 (k : Int))) :: List.replicate 80 .undef)) ?_ ⟨0, rfl, Nat.zero_le _, fun i _ h => by omega, fun c => by simp [totU, sumF], rfl, rfl⟩ ?_
 ·exact ⟨by simp [EnvLe, List.replicate], .inl rfl⟩
 rintro r env K ⟨k, rfl, hk, hok, htot, rfl, rfl⟩ hN
 simp only [rp]
 obtain ⟨c1, g1⟩ : ∃ c1, decide ((k : Int) < (l.length : Int)) = c1 := ⟨_, rfl⟩
 cases c1 with
 | false =>
  have hka : k = l.length := by
                 have : ¬ k < l.length := by simpa using g1
                 omega
  have hp : P = true := by rw [← hP]; exact goodB_at.2 fun i hi => hok i hi (by omega)
  repeat' (first | (refine aops_cons ?_; first | (refine zg rfl ?_; first | refine grd_on ?_ | refine zo ?_ | (refine zs ?_ ?_ <;> intro hb <;> ((try simp only [bn] at hb); first | subst hb | simp only [hb]))) | (apply aops_o; rfl; simp only [estep, avs, tts, seval, g1] <;> exact rr)) | refine aops_nil ?_ | (refine ahops_cons ?_; first | (refine yg rfl ?_; first | refine hgrd_on ?_ | refine yo ?_ | (refine ys ?_ ?_ <;> intro hb <;> ((try simp only [bn] at hb); first | subst hb | simp only [hb]))) | (apply ahops_o; rfl; simp only [hstep, avs, tts, seval, g1] <;> exact rr; first | trivial | omega)) | refine ahops_nil ?_ | refine aw_seq ?_ | refine zr ttOk ?_ | refine zR 0 ttOk mixed ?_ | refine zR 1 ttOk mixed ?_ | refine zR 2 ttOk mixed ?_ | refine zR 3 ttOk mixed ?_ | refine zf rfl rfl ?_ | refine zt rfl rfl ?_ | (refine aw_cond rfl rfl ?_ ?_ <;> intro hb <;> ((try simp only [bn] at hb); first | subst hb | simp only [hb])) | refine aw_skip ?_ | refine aw_exit ?_ | refine aw_block ?_)
  rw [hp]
  exact aw_ret ⟨_, rfl, _, rfl, rfl⟩
 | true =>
  have hlt : k < l.length := by simpa using g1
  have hix : (0 : Int) ≤ (k : Int) := by omega
  have ga := lk_get hlt
  have w1 : IntKind.i64.wrap ((k : Int) + 1) = ((k + 1 : Nat) : Int) := wrap_succ hlt (by omega)
  have hsn : l.take (k + 1) = l.take k ++ [l[k]] := by rw [List.take_add_one, List.getElem?_eq_getElem hlt]; rfl
  have hla := lastK_take hlt
  have hszk := hsz _ (List.getElem_mem hlt)
  have hno := fun hb => goodB_no (n := n) hlt hb
  have hoks : bad1 n (l.take k) l[k] = false → ∀ i (hi : i < l.length), i < k + 1 → bad1 n (l.take i) l[i] = false := fun h i hi h2 => by
   rcases Nat.lt_succ_iff_lt_or_eq.1 h2 with h3 | h3
   ·exact hok i hi h3
   ·subst h3; exact h
  have hlen := totE_len (l.take k)
  have hlenk : (l.take k).length = k := by simp; omega
  have hub := units_bd l[k].part
  have cu := units_a hT l[k].part hszk.1 hszk.2
  obtain ⟨x, hx⟩ : ∃ x, l[k] = x := ⟨_, rfl⟩
  simp only [hx] at ga hsn hla hno hoks hub cu
  obtain ⟨pre, hpre⟩ : ∃ p, l.take k = p := ⟨_, rfl⟩
  rw [hpre] at hsn htot hno hoks hlen hlenk ⊢
  rw [hsn] at hla
  have t1 := totE_get pre x.company
  have t2 := totE_get (pre ++ [x]) x.company
  have t3 := totE_set pre x
  have t4 := totU_snoc pre x
  have t5 := totU_nonneg pre x.company
  have t6 := htot x.company
  have hbad : bad1 n pre x = (decide (x.company < 0) || (decide (x.company ≥ n) || (decide (x.holder < 0) || (decide (x.holder ≥ n) || (decide (x.company = x.holder) || (!riseB (lastK pre) x.company x.holder || (decide (unitsR x.part = 0) || decide (totU (pre ++ [x]) x.company > 6000)))))))) := rfl
  obtain ⟨lk, hlk⟩ : ∃ p, lastK pre = p := ⟨_, rfl⟩
  rw [hlk] at hbad ⊢
  clear hlk
  obtain ⟨u, hu⟩ : ∃ u, unitsR x.part = u := ⟨_, rfl⟩
  obtain ⟨t, ht⟩ : ∃ t, totU pre x.company = t := ⟨_, rfl⟩
  have ht' : totU (pre ++ [x]) x.company = t + u := by rw [t4, if_pos rfl, ht, hu]
  have hnext : bad1 n pre x = false → ∀ c, totU (pre ++ [x]) c ≤ 6000 := fun hb c => by
   by_cases hc : x.company = c
   ·subst hc
    rw [hbad] at hb
    simp only [Bool.or_eq_false_iff, decide_eq_false_iff_not] at hb
    omega
   ·rw [t4, if_neg hc]; have := htot c; omega
  rw [ht'] at t2 t3 hbad
  rw [ht] at t1 t5 t6
  rw [hu] at cu hub hbad
  clear t4 ht ht' hu
  obtain ⟨xc, xh, xp⟩ := x
  obtain ⟨rn, ru, rd⟩ := xp
  simp only [ratA, tA, iA] at cu hn
  simp only [lkP] at ga
  simp only at t1 t2 t3 hbad hla
  unfold riseB at hbad
  have w2 : IntKind.i64.wrap (t + u) = t + u := by rw [IntKind.wrap_i64]; omega
  have q4 : ((totE pre).length ≤ 9223372036854775807) = True := eq_true (by omega)
  obtain ⟨lk1, lk2⟩ := lk
  simp only at hbad ⊢
  obtain ⟨e1, f1⟩ : ∃ c, decide (xc < 0) = c := ⟨_, rfl⟩
  obtain ⟨e2, f2⟩ : ∃ c, decide (xc ≥ n) = c := ⟨_, rfl⟩
  obtain ⟨e3, f3⟩ : ∃ c, decide (xh < 0) = c := ⟨_, rfl⟩
  obtain ⟨e4, f4⟩ : ∃ c, decide (xh ≥ n) = c := ⟨_, rfl⟩
  obtain ⟨e5, f5⟩ : ∃ c, decide (xc = xh) = c := ⟨_, rfl⟩
  obtain ⟨e6, f6⟩ : ∃ c, decide (xc > lk1) = c := ⟨_, rfl⟩
  obtain ⟨e7, f7⟩ : ∃ c, decide (xc = lk1) = c := ⟨_, rfl⟩
  obtain ⟨e8, f8⟩ : ∃ c, decide (xh > lk2) = c := ⟨_, rfl⟩
  obtain ⟨e9, f9⟩ : ∃ c, decide (u = 0) = c := ⟨_, rfl⟩
  obtain ⟨e10, f10⟩ : ∃ c, decide (t + u > 6000) = c := ⟨_, rfl⟩
  rw [f1, f2, f3, f4, f5, f6, f7, f8, f9, f10] at hbad
  have hn2 := fun G => got hn G
  repeat' (first | (refine aops_cons ?_; first | (refine zg rfl ?_; first | refine grd_on ?_ | refine zo ?_ | (refine zs ?_ ?_ <;> intro hb <;> ((try simp only [bn] at hb); first | subst hb | simp only [hb]))) | (apply aops_o; rfl; simp only [estep, avs, tts, seval, hix, hlt, ga, la, g1, hn2, w1, w2, ksh, t1, t2, t3, q4, f1, f2, f3, f4, f5, f6, f7, f8, f9, f10, Bool.not_true, Bool.not_false] <;> exact rr) | (refine za rfl ?_; refine zp (cu) ?_)) | refine aops_nil ?_ | (refine ahops_cons ?_; first | (refine yg rfl ?_; first | refine hgrd_on ?_ | refine yo ?_ | (refine ys ?_ ?_ <;> intro hb <;> ((try simp only [bn] at hb); first | subst hb | simp only [hb]))) | (apply ahops_o; rfl; simp only [hstep, avs, tts, seval, hix, hlt, ga, la, g1, hn2, w1, w2, ksh, t1, t2, t3, q4, f1, f2, f3, f4, f5, f6, f7, f8, f9, f10, Bool.not_true, Bool.not_false] <;> exact rr; first | trivial | omega) | (refine ya rfl ?_; refine yp (cu) ?_)) | refine ahops_nil ?_ | refine aw_seq ?_ | refine zr ttOk ?_ | refine zR 0 ttOk mixed ?_ | refine zR 1 ttOk mixed ?_ | refine zR 2 ttOk mixed ?_ | refine zR 3 ttOk mixed ?_ | refine zf rfl rfl ?_ | refine zt rfl rfl ?_ | (refine aw_cond rfl rfl ?_ ?_ <;> intro hb <;> ((try simp only [bn] at hb); first | subst hb | simp only [hb])) | refine aw_skip ?_ | refine aw_exit ?_ | refine aw_block ?_)
  all_goals first
   | (have hp : P = false := (by rw [← hP]; exact hno (by rw [hbad]; rfl)); subst hp; show AW _ _ _ _ _; refine aw_ret ⟨_, rfl, _, rfl, ?_⟩; rfl)
   | (refine ⟨l.length - (k + 1), _, H ++ [.mp 3 3 (.one (.int .i64)) (totE (pre ++ [⟨xc, xh, ⟨rn, ru, rd⟩⟩])), .box 63 [.d (.v (.int .i64 xc)), .d (.v (.int .i64 xh))]], by omega, ⟨?_, .inr ⟨by simp, ?_, .more hB (.cons (bel_totE _) (.cons (by simp [AObj.bel, belL, AV.bel]) .nil)), _, by simp only [List.append_assoc, List.cons_append, List.nil_append]; rfl⟩⟩, k + 1, rfl, hlt, hoks (by rw [hbad]; rfl), by rw [hsn]; exact hnext (by rw [hbad]; rfl), by rw [hsn, hla], rfl⟩; (· simp [EnvLe, List.replicate]); (· simp [belL, AV.bel, List.replicate]; omega))
end
end Av
end Go.Proofs.YtdekcppfpgeneaaGreatDoor
set_option linter.unusedVariables false
set_option linter.unusedSimpArgs false
namespace Go.Proofs.YtdekcppfpgeneaaGreatDoor
open Go Go.RowKit
namespace Rg
open Av Nt
/-! Well-formed structures: plain. -/
def nbad (pre : List ByteArray) (x : ByteArray) : Bool := !nameB x || (match pre.getLast? with
 | none => false
 | some p => (ltT x p || decide (x = p)))
def namesF : List ByteArray → List ByteArray → Bool
 | _, [] => true
 | pre, x :: r => !nbad pre x && namesF (pre ++ [x]) r
theorem namesF_at : ∀ {l pre : List ByteArray}, namesF pre l = true ↔ ∀ k (h : k < l.length), nbad (pre ++ l.take k) l[k] = false
 | [], pre => by simp [namesF]
 | x :: r, pre => by
  rw [namesF, Bool.and_eq_true, namesF_at]
  constructor
  ·rintro ⟨h1, h2⟩ k hk
   cases k with
   | zero => simpa using h1
   | succ k => have := h2 k (by simpa using hk); simpa using this
  ·intro h
   refine ⟨by have := h 0 (by simp); simpa using this, fun k hk => ?_⟩
   have := h (k + 1) (by simpa using hk)
   simpa using this
theorem names_at {l : List ByteArray} : namesF [] l = true ↔ ∀ k (h : k < l.length), nbad (l.take k) l[k] = false := by
 rw [namesF_at]; simp
theorem names_no {l : List ByteArray} {k : Nat} (h : k < l.length) (hb : nbad (l.take k) l[k] = true) : namesF [] l = false := by
 cases hg : namesF [] l with
 | false => rfl
 | true => rw [names_at.1 hg k h] at hb; cases hb
def soundB (s : Str) : Bool := namesF [] s.parties && (decide (s.parties.length ≤ 60) && (goodB s.parties.length s.capital && goodB s.parties.length s.votes))
theorem nbad_zero {l : List ByteArray} (h : 0 < l.length) : nbad (l.take 0) l[0] = !nameB l[0] := by
 unfold nbad; simp
theorem nbad_succ {l : List ByteArray} {j : Nat} (h : j + 1 < l.length) : nbad (l.take (j + 1)) l[j + 1] = (!nameB l[j + 1] || (ltT l[j + 1] l[j] || decide (l[j + 1] = l[j]))) := by
 have e : l.take (j + 1) = l.take j ++ [l[j]] := by rw [List.take_add_one, List.getElem?_eq_getElem (by omega)]; rfl
 rw [e]
 unfold nbad
 rw [List.getLast?_concat]
end Rg
namespace Av
--nosv
attribute [local irreducible] AW AOps AHOps
open Nt Rg
section
variable {base : World} (hT : Tabs base)
include hT
set_option maxRecDepth 100000 in
set_option maxHeartbeats 8000000 in
theorem sound_a (s : Str) (h1 : s.parties.length ≤ 1000000) (h0 : ∀ t ∈ s.parties, t.size ≤ 9223372036854775807) (h2 : s.capital.length ≤ 1000000000) (h3 : s.votes.length ≤ 1000000000) (h4 : ∀ x ∈ s.capital, x.part.num.size ≤ 9223372036854775807 ∧ x.part.den.size ≤ 9223372036854775807) (h5 : ∀ x ∈ s.votes, x.part.num.size ≤ 9223372036854775807 ∧ x.part.den.size ≤ 9223372036854775807) :
  PureA Tryz.prog base 14 [strA s] (boA (soundB s)) := by
 obtain ⟨ps, cs, vs⟩ := s
 simp only at h0 h1 h2 h3 h4 h5
 have cg := fun (H : AHeap) (ln : Nat) hn => good_a (base := base) hT (H := H) (ln := ln) cs (ps.length : Int) hn h2 h4
 have cv := fun (H : AHeap) (ln : Nat) hn => good_a (base := base) hT (H := H) (ln := ln) vs (ps.length : Int) hn h3 h5
 refine pure_enter ttOk Tryz.call14 Tryz.func14 rfl fun H hB hb hF => ?_
 rw [Tryz.results14, Tryz.ntmps14]
 simp only [arr_list, List.length_cons, List.length_nil, List.replicate, List.cons_append, List.nil_append, Nat.reduceAdd, Nat.reduceSub]
 clear hF hb
 have la : (ps.map fun s => [PD.v (.string s)]).length = ps.length := by simp
 obtain ⟨P, hP⟩ : ∃ P, soundB ⟨ps, cs, vs⟩ = P := ⟨_, rfl⟩
 rw [hP]
 unfold soundB at hP
 simp only [strA, strL, strsP] at hP ⊢
 generalize goodB (ps.length : Int) cs = b1 at *
 generalize goodB (ps.length : Int) vs = b2 at *
 simp only [lklP, iA] at cg cv ⊢
 generalize cs.map lkP = cs at *
 generalize vs.map lkP = vs at *
 repeat' (first | (refine aops_cons ?_; first | (refine zg rfl ?_; first | refine grd_on ?_ | refine zo ?_ | (refine zs ?_ ?_ <;> intro hb <;> ((try simp only [bn] at hb); first | subst hb | simp only [hb]))) | (apply aops_o; rfl; simp only [estep, avs, tts, Nat.reduceAdd, Nat.reduceMul, Nat.reduceSub, Nat.reduceEqDiff, Nat.reduceLT, Nat.reduceLeDiff, Int.reduceToNat, Int.reduceLE, Int.reduceLT, Int.toNat_natCast, reduceCtorEq, la] <;> exact rr)) | refine aops_nil ?_ | (refine ahops_cons ?_; first | (refine yg rfl ?_; first | refine hgrd_on ?_ | refine yo ?_ | (refine ys ?_ ?_ <;> intro hb <;> ((try simp only [bn] at hb); first | subst hb | simp only [hb]))) | (apply ahops_o; rfl; simp only [hstep, avs, tts, Nat.reduceAdd, Nat.reduceMul, Nat.reduceSub, Nat.reduceEqDiff, Nat.reduceLT, Nat.reduceLeDiff, Int.reduceToNat, Int.reduceLE, Int.reduceLT, Int.toNat_natCast, reduceCtorEq, la] <;> exact rr; first | trivial | omega)) | refine ahops_nil ?_ | refine aw_seq ?_ | refine zr ttOk ?_ | refine zR 0 ttOk mixed ?_ | refine zR 1 ttOk mixed ?_ | refine zR 2 ttOk mixed ?_ | refine zR 3 ttOk mixed ?_ | refine zf rfl rfl ?_ | refine zt rfl rfl ?_ | (refine aw_cond rfl rfl ?_ ?_ <;> intro hb <;> ((try simp only [bn] at hb); first | subst hb | simp only [hb])) | refine aw_skip ?_ | refine aw_exit ?_ | refine aw_block ?_)
 refine aw_loop (H0 := H ++ [.box 25 [.d (.sl 1 (ps.map fun s => [PD.v (.string s)])), .d (.sl 5 cs), .d (.sl 5 vs)]]) (fun r env K => ∃ k, r = ps.length - k ∧ k ≤ ps.length ∧ (∀ i (hi : i < ps.length), i < k → nbad (ps.take i) ps[i] = false) ∧ K = H ++ [.box 25 [.d (.sl 1 (ps.map fun s => [PD.v (.string s)])), .d (.sl 5 cs), .d (.sl 5 vs)]] ∧ env = (.undef :: .ptr H.length 0 :: .undef :: .undef :: .undef :: .undef :: .undef :: .undef :: .d (.sl 1 (ps.map fun s => [PD.v (.string s)])) :: .d (.v (.int .i64 (ps.length : Int))) :: .d (.v (.int .i64 (k : Int))) :: List.replicate 40 .undef)) ?_ ⟨0, rfl, Nat.zero_le _, fun i _ h => by omega, rfl, rfl⟩ ?_
 ·exact ⟨by simp [EnvLe, List.replicate], .inl rfl⟩
 rintro r env K ⟨k, rfl, hk, hok, rfl, rfl⟩ hN
 simp only [rp]
 obtain ⟨c1, g1⟩ : ∃ c1, decide ((k : Int) < (ps.length : Int)) = c1 := ⟨_, rfl⟩
 cases c1 with
 | false =>
  have hka : k = ps.length := by
                  have : ¬ k < ps.length := by simpa using g1
                  omega
  have hp : namesF [] ps = true := names_at.2 fun i hi => hok i hi (by omega)
  rw [hp] at hP
  obtain ⟨c2, g2⟩ : ∃ c, decide (ps.length ≤ 60) = c := ⟨_, rfl⟩
  rw [g2] at hP
  have g3 : decide ((ps.length : Int) ≤ 60) = c2 := by rw [← g2]; exact decide_eq_decide.2 (by omega)
  clear g2
  have cg2 := fun G => cg (H ++ (.box 25 [.d (.sl 1 (ps.map fun s => [PD.v (.string s)])), .d (.sl 5 cs), .d (.sl 5 vs)] :: .box 3 [.d (.v (.int .i64 (ps.length : Int)))] :: G)) (H.length + 1) (by simp)
  have cv2 := fun G => cv (H ++ (.box 25 [.d (.sl 1 (ps.map fun s => [PD.v (.string s)])), .d (.sl 5 cs), .d (.sl 5 vs)] :: .box 3 [.d (.v (.int .i64 (ps.length : Int)))] :: G)) (H.length + 1) (by simp)
  repeat' (first | (refine aops_cons ?_; first | (refine zg rfl ?_; first | refine grd_on ?_ | refine zo ?_ | (refine zs ?_ ?_ <;> intro hb <;> ((try simp only [bn] at hb); first | subst hb | simp only [hb]))) | (apply aops_o; rfl; simp only [estep, avs, tts, Nat.reduceAdd, Nat.reduceMul, Nat.reduceSub, Nat.reduceEqDiff, Nat.reduceLT, Nat.reduceLeDiff, Int.reduceToNat, Int.reduceLE, Int.reduceLT, Int.toNat_natCast, reduceCtorEq, g1, g3, la] <;> exact rr) | (refine za rfl ?_; first | refine zd (cg2 _) ?_ | refine zd (cv2 _) ?_)) | refine aops_nil ?_ | (refine ahops_cons ?_; first | (refine yg rfl ?_; first | refine hgrd_on ?_ | refine yo ?_ | (refine ys ?_ ?_ <;> intro hb <;> ((try simp only [bn] at hb); first | subst hb | simp only [hb]))) | (apply ahops_o; rfl; simp only [hstep, avs, tts, Nat.reduceAdd, Nat.reduceMul, Nat.reduceSub, Nat.reduceEqDiff, Nat.reduceLT, Nat.reduceLeDiff, Int.reduceToNat, Int.reduceLE, Int.reduceLT, Int.toNat_natCast, reduceCtorEq, g1, g3, la] <;> exact rr; first | trivial | omega) | (refine ya rfl ?_; first | refine yd (cg2 _) ?_ | refine yd (cv2 _) ?_)) | refine ahops_nil ?_ | refine aw_seq ?_ | refine zr ttOk ?_ | refine zR 0 ttOk mixed ?_ | refine zR 1 ttOk mixed ?_ | refine zR 2 ttOk mixed ?_ | refine zR 3 ttOk mixed ?_ | refine zf rfl rfl ?_ | refine zt rfl rfl ?_ | (refine aw_cond rfl rfl ?_ ?_ <;> intro hb <;> ((try simp only [bn] at hb); first | subst hb | simp only [hb])) | refine aw_skip ?_ | refine aw_exit ?_ | refine aw_block ?_)
  all_goals (rw [← hP]; exact aw_ret ⟨_, rfl, _, rfl, rfl⟩)
 | true =>
  have hlt : k < ps.length := by simpa using g1
  have hix : (0 : Int) ≤ (k : Int) := by omega
  have ga := strsP_get hlt
  have w1 : IntKind.i64.wrap ((k : Int) + 1) = ((k + 1 : Nat) : Int) := wrap_succ hlt (by omega)
  have hno := fun hb => names_no hlt hb
  have hoks : nbad (ps.take k) ps[k] = false → ∀ i (hi : i < ps.length), i < k + 1 → nbad (ps.take i) ps[i] = false := fun h i hi h2 => by
   rcases Nat.lt_succ_iff_lt_or_eq.1 h2 with h3 | h3
   ·exact hok i hi h3
   ·subst h3; exact h
  have cn := name_a base ps[k] (h0 _ (List.getElem_mem hlt))
  cases k with
  | zero =>
   rw [nbad_zero hlt] at hno hoks
   obtain ⟨x, hx⟩ : ∃ x, ps[0] = x := ⟨_, rfl⟩
   rw [hx] at hno hoks ga cn
   generalize nameB x = b at *
   have gz : decide (((0 : Nat) : Int) > 0) = false := rfl
   simp only [tA] at cn
   repeat' (first | (refine aops_cons ?_; first | (refine zg rfl ?_; first | refine grd_on ?_ | refine zo ?_ | (refine zs ?_ ?_ <;> intro hb <;> ((try simp only [bn] at hb); first | subst hb | simp only [hb]))) | (apply aops_o; rfl; simp only [estep, avs, tts, Nat.reduceAdd, Nat.reduceMul, Nat.reduceSub, Nat.reduceEqDiff, Nat.reduceLT, Nat.reduceLeDiff, Int.reduceToNat, Int.reduceLE, Int.reduceLT, Int.toNat_natCast, reduceCtorEq, hix, hlt, ga, la, g1, w1, gz, Bool.not_true, Bool.not_false] <;> exact rr) | (refine za rfl ?_; refine zp (cn) ?_)) | refine aops_nil ?_ | (refine ahops_cons ?_; first | (refine yg rfl ?_; first | refine hgrd_on ?_ | refine yo ?_ | (refine ys ?_ ?_ <;> intro hb <;> ((try simp only [bn] at hb); first | subst hb | simp only [hb]))) | (apply ahops_o; rfl; simp only [hstep, avs, tts, Nat.reduceAdd, Nat.reduceMul, Nat.reduceSub, Nat.reduceEqDiff, Nat.reduceLT, Nat.reduceLeDiff, Int.reduceToNat, Int.reduceLE, Int.reduceLT, Int.toNat_natCast, reduceCtorEq, hix, hlt, ga, la, g1, w1, gz, Bool.not_true, Bool.not_false] <;> exact rr; first | trivial | omega) | (refine ya rfl ?_; refine yp (cn) ?_)) | refine ahops_nil ?_ | refine aw_seq ?_ | refine zr ttOk ?_ | refine zR 0 ttOk mixed ?_ | refine zR 1 ttOk mixed ?_ | refine zR 2 ttOk mixed ?_ | refine zR 3 ttOk mixed ?_ | refine zf rfl rfl ?_ | refine zt rfl rfl ?_ | (refine aw_cond rfl rfl ?_ ?_ <;> intro hb <;> ((try simp only [bn] at hb); first | subst hb | simp only [hb])) | refine aw_skip ?_ | refine aw_exit ?_ | refine aw_block ?_)
   all_goals first
    | (have hp : P = false := (by rw [← hP, hno (by rfl)]; rfl); subst hp; show AW _ _ _ _ _; refine aw_ret ⟨_, rfl, _, rfl, ?_⟩; rfl)
    | (refine ⟨ps.length - (0 + 1), _, _, by omega, ⟨?_, .inl rfl⟩, 0 + 1, rfl, hlt, hoks (by rfl), rfl, rfl⟩; simp [EnvLe, List.replicate])
  | succ j =>
   rw [nbad_succ hlt] at hno hoks
   have hlt3 : j < ps.length := by omega
   have ga3 := strsP_get hlt3
   have hix3 : (0 : Int) ≤ (j : Int) := by omega
   have gz : decide (((j + 1 : Nat) : Int) > 0) = true := decide_eq_true (by omega)
   have w3 : IntKind.i64.wrap (((j + 1 : Nat) : Int) - 1) = (j : Int) := by rw [IntKind.wrap_i64]; omega
   have hls := less_eq ps[j + 1] ps[j]
   obtain ⟨x, hx⟩ : ∃ x, ps[j + 1] = x := ⟨_, rfl⟩
   rw [hx] at hno hoks ga cn hls
   obtain ⟨y, hy⟩ : ∃ y, ps[j] = y := ⟨_, rfl⟩
   rw [hy] at hno hoks ga3 hls
   generalize nameB x = b at *
   generalize ltT x y = b3 at *
   obtain ⟨b4, g4⟩ : ∃ c, decide (x = y) = c := ⟨_, rfl⟩
   rw [g4] at hno hoks
   obtain ⟨b5, g5⟩ : ∃ c, (b3 || b4) = c := ⟨_, rfl⟩
   rw [g5] at hno hoks
   simp only [tA] at cn
   repeat' (first | (refine aops_cons ?_; first | (refine zg rfl ?_; first | refine grd_on ?_ | refine zo ?_ | (refine zs ?_ ?_ <;> intro hb <;> ((try simp only [bn] at hb); first | subst hb | simp only [hb]))) | (apply aops_o; rfl; simp only [estep, avs, tts, Nat.reduceAdd, Nat.reduceMul, Nat.reduceSub, Nat.reduceEqDiff, Nat.reduceLT, Nat.reduceLeDiff, Int.reduceToNat, Int.reduceLE, Int.reduceLT, Int.toNat_natCast, reduceCtorEq, hix, hlt, ga, la, g1, w1, gz, w3, hix3, hlt3, ga3, hls, g4, g5, Bool.not_true, Bool.not_false] <;> exact rr) | (refine za rfl ?_; refine zp (cn) ?_)) | refine aops_nil ?_ | (refine ahops_cons ?_; first | (refine yg rfl ?_; first | refine hgrd_on ?_ | refine yo ?_ | (refine ys ?_ ?_ <;> intro hb <;> ((try simp only [bn] at hb); first | subst hb | simp only [hb]))) | (apply ahops_o; rfl; simp only [hstep, avs, tts, Nat.reduceAdd, Nat.reduceMul, Nat.reduceSub, Nat.reduceEqDiff, Nat.reduceLT, Nat.reduceLeDiff, Int.reduceToNat, Int.reduceLE, Int.reduceLT, Int.toNat_natCast, reduceCtorEq, hix, hlt, ga, la, g1, w1, gz, w3, hix3, hlt3, ga3, hls, g4, g5, Bool.not_true, Bool.not_false] <;> exact rr; first | trivial | omega) | (refine ya rfl ?_; refine yp (cn) ?_)) | refine ahops_nil ?_ | refine aw_seq ?_ | refine zr ttOk ?_ | refine zR 0 ttOk mixed ?_ | refine zR 1 ttOk mixed ?_ | refine zR 2 ttOk mixed ?_ | refine zR 3 ttOk mixed ?_ | refine zf rfl rfl ?_ | refine zt rfl rfl ?_ | (refine aw_cond rfl rfl ?_ ?_ <;> intro hb <;> ((try simp only [bn] at hb); first | subst hb | simp only [hb])) | refine aw_skip ?_ | refine aw_exit ?_ | refine aw_block ?_)
   all_goals first
    | (have hp : P = false := (by rw [← hP, hno (by rfl)]; rfl); subst hp; show AW _ _ _ _ _; refine aw_ret ⟨_, rfl, _, rfl, ?_⟩; rfl)
    | (refine ⟨ps.length - ((j + 1) + 1), _, _, by omega, ⟨?_, .inl rfl⟩, (j + 1) + 1, rfl, hlt, hoks (by rfl), rfl, rfl⟩; simp [EnvLe, List.replicate])
end
end Av
end Go.Proofs.YtdekcppfpgeneaaGreatDoor
set_option linter.unusedVariables false
set_option linter.unusedSimpArgs false
namespace Go.Proofs.YtdekcppfpgeneaaGreatDoor
open Go Go.RowKit
namespace Rg
open Av Nt

/-! Parts in 6000ths; the examples, reckoned. -/
theorem lowR_cross {n d n' d' : Nat} (hd : 0 < d) (hd' : 0 < d') (h : n * d' = n' * d) : lowR false n d = lowR false n' d' := by
 obtain ⟨h1, h2⟩ := low_cross hd hd' h
 unfold lowR
 rw [h1, h2]
 rfl
theorem ofR_nat (n d : Nat) (hd : 0 < d) : ofR (n : Int) (d : Int) = lowR false n d := by
 unfold ofR
 rw [if_neg (by omega), decide_eq_false (by omega), decide_eq_false (by omega)]
 rfl
theorem ofR_cross {n d n' d' : Nat} (hd : 0 < d) (hd' : 0 < d') (h : n * d' = n' * d) : ofR (n : Int) (d : Int) = ofR (n' : Int) (d' : Int) := by
 rw [ofR_nat _ _ hd, ofR_nat _ _ hd', lowR_cross hd hd' h]
theorem decT_4 {n : Nat} (h : n < 10000) : (decT n).size ≤ 4 := by
 rw [decT_size]; exact dec_le 3 n h
theorem valid_low {n d : Nat} (hn : 0 < n) (hd : 0 < d) (h1 : n < tp 300) (h2 : d < tp 300) : validR (lowR false n d) = true := by
 have hg : 0 < Nat.gcd n d := Nat.gcd_pos_of_pos_right _ hd
 have l1 : n / Nat.gcd n d < tp 300 := Nat.lt_of_le_of_lt (Nat.div_le_self _ _) h1
 have l2 : d / Nat.gcd n d < tp 300 := Nat.lt_of_le_of_lt (Nat.div_le_self _ _) h2
 have p1 : 0 < n / Nat.gcd n d := Nat.div_pos (Nat.le_of_dvd hn (Nat.gcd_dvd_left n d)) hg
 have p2 := low_pos (n := n) hd
 have c := low_cop (n := n) hd
 unfold validR lowR okN
 simp only
 rw [isN_decT (dec_tp (k := 299) l1), isN_decT (dec_tp (k := 299) l2), valS_decT, valS_decT]
 simp only [Bool.and_self, if_true]
 rw [if_neg (by omega), if_neg (by omega)]
 exact decide_eq_true c
theorem units_of {v : Nat} (h0 : 0 < v) (h1 : v ≤ 6000) : unitsR (ofR (v : Int) 6000) = v := by
 rw [show (6000 : Int) = ((6000 : Nat) : Int) from rfl, ofR_nat v 6000 (by omega)]
 have hv := valid_low (n := v) (d := 6000) h0 (by omega) (Nat.lt_of_le_of_lt h1 (Nat.lt_of_lt_of_le (by decide : 6000 < tp 4) (tp_le (by decide)))) (Nat.lt_of_lt_of_le (by decide : 6000 < tp 4) (tp_le (by decide)))
 have hu := low_units (n := v) (N := 6000) (by omega)
 have hg : 0 < Nat.gcd v 6000 := Nat.gcd_pos_of_pos_right _ (by omega)
 have l1 : v / Nat.gcd v 6000 ≤ v := Nat.div_le_self _ _
 have l2 : 6000 / Nat.gcd v 6000 ≤ 6000 := Nat.div_le_self _ _
 have l3 : v / Nat.gcd v 6000 ≤ 6000 / Nat.gcd v 6000 := Nat.div_le_div_right h1
 unfold unitsR
 rw [hv]
 unfold lowR
 simp only [Bool.false_and, Bool.not_false, Bool.true_and]
 rw [decide_eq_true (decT_4 (by omega)), decide_eq_true (decT_4 (by omega)), valS_decT, valS_decT]
 simp only [Bool.and_self, if_true]
 rw [if_pos ⟨l3, hu.1⟩, hu.2]
def nmA : ByteArray := ⟨#[97]⟩
def nmP : ByteArray := ⟨#[112]⟩
def nmQ : ByteArray := ⟨#[113]⟩
def nmR : ByteArray := ⟨#[114]⟩
def nmZ : ByteArray := ⟨#[122]⟩
def hd1 : Hd := ⟨⟨#[104, 49]⟩, nmA, nmP, ⟨#[]⟩, ⟨#[]⟩, [], 60, 60, 0, -1⟩
def hd2 : Hd := ⟨⟨#[104, 50]⟩, nmA, nmQ, ⟨#[]⟩, ⟨#[]⟩, [nmR], 30, 0, 0, -1⟩
def hd3 : Hd := ⟨⟨#[104, 51]⟩, nmA, nmZ, ⟨#[]⟩, ⟨#[]⟩, [], 50, 0, 0, -1⟩
def hdN : Hd := ⟨⟨#[104, 49]⟩, nmA, nmP, nmQ, nmR, [], 60, 60, 0, -1⟩
def hdL6 : Hd := ⟨⟨#[104, 49]⟩, nmA, nmP, ⟨#[]⟩, ⟨#[]⟩, [], 60, 60, 6, -1⟩
theorem parties_eq {l : List Hd} {m : List ByteArray} (hm : m.Nodup) (hs : m.Pairwise fun a b => leT a b = true) (h : ∀ x, x ∈ l.flatMap namesH ↔ x ∈ m) : partiesS l = m :=
 sortT_eq (kfold_nodup _) hm hs fun x => by rw [mem_kfold]; exact h x
theorem ps12 : partiesS [hd1, hd2] = [nmA, nmP, nmQ, nmR] := parties_eq (by decide) (by decide) fun x => by
 rw [show [hd1, hd2].flatMap namesH = [nmA, nmP, nmA, nmQ, nmR] from by kernel_rfl]
 simp only [List.mem_cons, List.not_mem_nil, or_false]
 constructor
 ·rintro (h | h | h | h | h) <;> simp [h]
 ·rintro (h | h | h | h) <;> simp [h]
theorem psN : partiesS [hdN] = [nmA, nmP, nmQ, nmR] := parties_eq (by decide) (by decide) fun x => by
 rw [show [hdN].flatMap namesH = [nmA, nmP, nmQ, nmR] from by kernel_rfl]
theorem psL : partiesS [hdL6] = [nmA, nmP] := parties_eq (by decide) (by decide) fun x => by
 rw [show [hdL6].flatMap namesH = [nmA, nmP] from by kernel_rfl]
theorem ps1 : partiesS [hd1] = [nmA, nmP] := parties_eq (by decide) (by decide) fun x => by
 rw [show [hd1].flatMap namesH = [nmA, nmP] from by kernel_rfl]
theorem ps13 : partiesS [hd1, hd3] = [nmA, nmP, nmZ] := parties_eq (by decide) (by decide) fun x => by
 rw [show [hd1, hd3].flatMap namesH = [nmA, nmP, nmA, nmZ] from by kernel_rfl]
 simp only [List.mem_cons, List.not_mem_nil, or_false]
 constructor
 ·rintro (h | h | h | h) <;> simp [h]
 ·rintro (h | h | h) <;> simp [h]
theorem valid_eq {l : List Hd} {m : List ByteArray} (hp : partiesS l = m) (h : ((l.all properB && decide ((l.map Hd.id).Nodup)) && (decide (l.length ≤ 400) && (decide (m.length ≤ 60) && bearB l))) = true) : validB l = true := by
 unfold validB; rw [hp]; exact h
theorem v12 : validB [hd1, hd2] = true := valid_eq ps12 (by kernel_rfl)
theorem vN : validB [hdN] = true := valid_eq psN (by kernel_rfl)
theorem vL : validB [hdL6] = true := valid_eq psL (by kernel_rfl)
theorem v1 : validB [hd1] = true := valid_eq ps1 (by kernel_rfl)
theorem sortK_id {l : List (Int × Int)} (hn : l.Nodup) (hs : l.Pairwise leK) : sortK l = l := sortK_eq hn hn hs fun _ => Iff.rfl
theorem at12 : atS [hd1, hd2] 5 = ⟨[nmA, nmP, nmQ, nmR], [⟨0, 1, ofR 3 5⟩, ⟨0, 2, ofR 3 20⟩, ⟨0, 3, ofR 3 20⟩], [⟨0, 1, ofR 3 5⟩]⟩ ∧ atE [hd1, hd2] 5 = 0 := by
 unfold atS atE
 rw [v12, ps12, show dayB 5 = true from rfl]
 simp only [Bool.and_self, if_true]
 refine ⟨?_, trivial⟩
 unfold lnkS
 rw [show (capK (ixS [nmA, nmP, nmQ, nmR]) 5 [hd1, hd2]).1 = [(0, 1), (0, 2), (0, 3)] from by kernel_rfl, show (votK (ixS [nmA, nmP, nmQ, nmR]) 5 [hd1, hd2]).1 = [(0, 1)] from by kernel_rfl]
 rw [sortK_id (by decide) (by simp [leK]), sortK_id (by decide) (by simp [leK])]
 simp only [List.map_cons, List.map_nil, lkOf]
 rw [show (capK (ixS [nmA, nmP, nmQ, nmR]) 5 [hd1, hd2]).2 (0, 1) = 3600 from by kernel_rfl, show (capK (ixS [nmA, nmP, nmQ, nmR]) 5 [hd1, hd2]).2 (0, 2) = 900 from by kernel_rfl, show (capK (ixS [nmA, nmP, nmQ, nmR]) 5 [hd1, hd2]).2 (0, 3) = 900 from by kernel_rfl, show (votK (ixS [nmA, nmP, nmQ, nmR]) 5 [hd1, hd2]).2 (0, 1) = 3600 from by kernel_rfl]
 rw [show ofR 3600 6000 = ofR 3 5 from ofR_cross (n := 3600) (d := 6000) (n' := 3) (d' := 5) (by decide) (by decide) (by decide), show ofR 900 6000 = ofR 3 20 from ofR_cross (n := 900) (d := 6000) (n' := 3) (d' := 20) (by decide) (by decide) (by decide)]
theorem atN : (atS [hdN] 5).capital = [⟨0, 2, ofR 3 5⟩] ∧ (atS [hdN] 5).votes = [⟨0, 3, ofR 3 5⟩] ∧ atE [hdN] 5 = 0 := by
 unfold atS atE
 rw [vN, psN, show dayB 5 = true from rfl]
 simp only [Bool.and_self, if_true, and_true]
 unfold lnkS
 rw [show (capK (ixS [nmA, nmP, nmQ, nmR]) 5 [hdN]).1 = [(0, 2)] from by kernel_rfl, show (votK (ixS [nmA, nmP, nmQ, nmR]) 5 [hdN]).1 = [(0, 3)] from by kernel_rfl]
 rw [sortK_id (by decide) (by simp [leK]), sortK_id (by decide) (by simp [leK])]
 simp only [List.map_cons, List.map_nil, lkOf]
 rw [show (capK (ixS [nmA, nmP, nmQ, nmR]) 5 [hdN]).2 (0, 2) = 3600 from by kernel_rfl, show (votK (ixS [nmA, nmP, nmQ, nmR]) 5 [hdN]).2 (0, 3) = 3600 from by kernel_rfl]
 rw [show ofR 3600 6000 = ofR 3 5 from ofR_cross (n := 3600) (d := 6000) (n' := 3) (d' := 5) (by decide) (by decide) (by decide)]
 exact ⟨rfl, rfl⟩
theorem atL : atS [hdL6] 5 = ⟨[nmA, nmP], [], []⟩ ∧ atE [hdL6] 5 = 0 := by
 unfold atS atE
 rw [vL, psL, show dayB 5 = true from rfl]
 simp only [Bool.and_self, if_true, and_true]
 unfold lnkS
 rw [show (capK (ixS [nmA, nmP]) 5 [hdL6]).1 = [] from by kernel_rfl, show (votK (ixS [nmA, nmP]) 5 [hdL6]).1 = [] from by kernel_rfl]
 rw [sortK_id (by decide) (by simp)]
 rfl
theorem putZ : putS [hd1] hd3 = ([], 10) := by
 unfold putS
 rw [v1, show properB hd3 = true from by kernel_rfl, show [hd1] ++ [hd3] = [hd1, hd3] from rfl, ps13, show bearB [hd1, hd3] = false from by kernel_rfl, show findI [hd1] hd3.id = -1 from by kernel_rfl]
 rfl
theorem u35 : unitsR (ofR 3 5) = 3600 := by
 rw [show ofR 3 5 = ofR 3600 6000 from ofR_cross (n := 3) (d := 5) (n' := 3600) (d' := 6000) (by decide) (by decide) (by decide)]
 exact units_of (v := 3600) (by decide) (by decide)
theorem u320 : unitsR (ofR 3 20) = 900 := by
 rw [show ofR 3 20 = ofR 900 6000 from ofR_cross (n := 3) (d := 20) (n' := 900) (d' := 6000) (by decide) (by decide) (by decide)]
 exact units_of (v := 900) (by decide) (by decide)
theorem sound12 : soundB ⟨[nmA, nmP, nmQ, nmR], [⟨0, 1, ofR 3 5⟩, ⟨0, 2, ofR 3 20⟩, ⟨0, 3, ofR 3 20⟩], [⟨0, 1, ofR 3 5⟩]⟩ = true := by
 unfold soundB
 rw [show namesF [] [nmA, nmP, nmQ, nmR] = true from by kernel_rfl]
 simp only [goodB, goodF, bad1, lastK, riseB, totU, sumF, u35, u320, List.nil_append, List.cons_append, List.length_cons, List.length_nil]
 decide
end Rg
end Go.Proofs.YtdekcppfpgeneaaGreatDoor
set_option linter.unusedVariables false
set_option linter.unusedSimpArgs false
namespace Go.Proofs.YtdekcppfpgeneaaGreatDoor
open Go Go.RowKit
namespace Av
open Nt Rg
theorem PureA.leArg {P : Program} {base : World} {f : FuncId} {args args' : List AV} {r : AV} (h : PureA P base f args' r) (k : LeL args args') : PureA P base f args r := fun H =>
 ⟨(h H).enter, fun μ w vs hs ha => (h H).run μ w vs hs (k.rep ha)⟩
/-- pure data that say less: nil slices az empty ones -/
def LeP (p q : PD) : Prop := q.one = true ∧ ∀ w imm v, PRep w imm p v → PRep w imm q v
theorem LeP.nil (k : Nat) : LeP (.v (.slice none 0 0)) (.sl k []) := ⟨rfl, fun w imm v h => by
 simp only [PRep] at h ⊢
 exact ⟨none, 0, h.1, Nat.le_refl _, by unfold maxLen; omega, .inl trivial⟩⟩
def LePL : List PD → List PD → Prop
 | [], [] => True
 | a :: l, b :: m => (a = b ∨ LeP a b) ∧ LePL l m
 | _, _ => False
theorem LePL.refl : ∀ l : List PD, LePL l l
 | [] => trivial
 | a :: l => ⟨.inl rfl, LePL.refl l⟩
theorem LePL.len : ∀ {l m : List PD}, LePL l m → l.length = m.length
 | [], [], _ => rfl
 | [], _ :: _, h => h.elim
 | _ :: _, [], h => h.elim
 | a :: l, b :: m, h => by rw [List.length_cons, List.length_cons, h.2.len]
theorem LePL.cells {w : World} {imm : Nat → Prop} {b : Nat} : ∀ {l m : List PD} {o : Nat}, LePL l m → PCells w imm l b o → PCells w imm m b o
 | [], [], _, _, h => h
 | [], _ :: _, _, h, _ => h.elim
 | _ :: _, [], _, h, _ => h.elim
 | p :: l, q :: m, o, h, k => by
  simp only [PCells] at k ⊢
  refine ⟨?_, h.2.cells k.2⟩
  rcases h.1 with rfl | h1
  ·exact k.1
  ·obtain ⟨_, c, k1, k2⟩ := k.1
   exact ⟨h1.1, c, k1, h1.2 _ _ _ k2⟩
def LePR : List (List PD) → List (List PD) → Prop
 | [], [] => True
 | a :: l, b :: m => LePL a b ∧ LePR l m
 | _, _ => False
theorem LePR.rows {w : World} {imm : Nat → Prop} {b k : Nat} : ∀ {l m : List (List PD)} {o : Nat}, LePR l m → PRows w imm l b k o → PRows w imm m b k o
 | [], [], _, _, h => h
 | [], _ :: _, _, h, _ => h.elim
 | _ :: _, [], _, h, _ => h.elim
 | p :: l, q :: m, o, h, k => by
  simp only [PRows] at k ⊢
  exact ⟨h.1.len.symm.trans k.1, h.1.cells k.2.1, h.2.rows k.2.2⟩
theorem LePR.len : ∀ {l m : List (List PD)}, LePR l m → l.length = m.length
 | [], [], _ => rfl
 | [], _ :: _, h => h.elim
 | _ :: _, [], h => h.elim
 | a :: l, b :: m, h => by rw [List.length_cons, List.length_cons, h.2.len]
theorem LeA.sl {k : Nat} {l m : List (List PD)} (h : LePR l m) : LeA (.d (.sl k l)) (.d (.sl k m)) := fun s v hv => by
 simp only [Rep, PRep] at hv ⊢
 obtain ⟨ao, cap, h1, h2, h3, h4⟩ := hv
 refine ⟨ao, cap, by rw [← h.len]; exact h1, by rw [← h.len]; exact h2, h3, ?_⟩
 rcases h4 with rfl | ⟨b, o, h4, h5, h6⟩
 ·left
  cases m with
  | nil => rfl
  | cons _ _ => exact h.elim
 ·exact .inr ⟨b, o, h4, h5, h.rows h6⟩
/-- a holding whose joint holders are nil -/
def hdC0 (h : Hd) : List PD := [.v (.string h.id), .v (.string h.company), .v (.string h.holder), .v (.string h.nominee), .v (.string h.pledged), .v (.slice none 0 0), .v (.int .i64 h.capital), .v (.int .i64 h.votes), .v (.int .i64 h.fr), .v (.int .i64 h.til)]
theorem hdC0_le {h : Hd} (e : h.joint = []) : LePL (hdC0 h) (hdC h) := by
 unfold hdC0 hdC
 refine ⟨.inl rfl, .inl rfl, .inl rfl, .inl rfl, .inl rfl, .inr ?_, .inl rfl, .inl rfl, .inl rfl, .inl rfl, trivial⟩
 rw [e]; exact LeP.nil 1
attribute [local irreducible] AW AOps AHOps

/-! The examples of the law. -/
section
variable {base : World} (hT : Tabs base)
theorem small_ex : ∀ h ∈ [hd1, hd2, hd3, hdN, hdL6], Small h := fun h hh => by
 have : (few1 h && few2 h) = true := by
  simp only [List.mem_cons, List.not_mem_nil, or_false] at hh
  rcases hh with rfl | rfl | rfl | rfl | rfl <;> kernel_rfl
 exact (few_small (n := 1) (l := [h]) (by unfold fewB; simp [this])).2 h (by simp) |>.1
theorem joint_ex : ∀ h ∈ [hd1, hd2, hd3, hdN, hdL6], h.joint.length ≤ 1000 := fun h hh => by
 simp only [List.mem_cons, List.not_mem_nil, or_false] at hh
 rcases hh with rfl | rfl | rfl | rfl | rfl <;> decide
theorem part_sz {n d : Nat} (hd : 0 < d) (h1 : n < 10000) (h2 : d < 10000) : (ofR (n : Int) (d : Int)).num.size ≤ 9223372036854775807 ∧ (ofR (n : Int) (d : Int)).den.size ≤ 9223372036854775807 := by
 rw [ofR_nat n d hd]
 unfold lowR
 have q1 := decT_4 (n := n / Nat.gcd n d) (Nat.lt_of_le_of_lt (Nat.div_le_self _ _) h1)
 have q2 := decT_4 (n := d / Nat.gcd n d) (Nat.lt_of_le_of_lt (Nat.div_le_self _ _) h2)
 exact ⟨by simp only; omega, by simp only; omega⟩
include hT
set_option maxRecDepth 100000 in
set_option maxHeartbeats 8000000 in
theorem head_a : PureA Tryz.prog base 10 [] (boA true) := by
 have sm := small_ex
 have jm := joint_ex
 have a1 := at_b (base := base) hT [hd1, hd2] 5 (fun h hh => sm h (by simp only [List.mem_cons, List.not_mem_nil, or_false] at hh ⊢; rcases hh with h | h <;> simp [h])) (fun h hh => jm h (by simp only [List.mem_cons, List.not_mem_nil, or_false] at hh ⊢; rcases hh with h | h <;> simp [h])) (by simp)
 have a2 := at_b (base := base) hT [hdN] 5 (fun h hh => sm h (by simp at hh; simp [hh])) (fun h hh => jm h (by simp at hh; simp [hh])) (by simp)
 have a3 := at_b (base := base) hT [hdL6] 5 (fun h hh => sm h (by simp at hh; simp [hh])) (fun h hh => jm h (by simp at hh; simp [hh])) (by simp)
 have a4 := put_a (base := base) [hd1] hd3 (fun h hh => sm h (by simp at hh; simp [hh])) (sm _ (by simp)) (fun h hh => jm h (by simp at hh; simp [hh])) (jm _ (by simp)) (by simp)
 rw [at12.1, at12.2] at a1
 rw [putZ] at a4
 rw [atL.1, atL.2] at a3
 have o1 := lof_a hT 3 5 (by decide) (by decide) (by decide) (by decide)
 have o2 := lof_a hT 3 20 (by decide) (by decide) (by decide) (by decide)
 have z1 : (ofR 3 5).num.size ≤ 9223372036854775807 ∧ (ofR 3 5).den.size ≤ 9223372036854775807 := part_sz (n := 3) (d := 5) (by decide) (by decide) (by decide)
 have z2 : (ofR 3 20).num.size ≤ 9223372036854775807 ∧ (ofR 3 20).den.size ≤ 9223372036854775807 := part_sz (n := 3) (d := 20) (by decide) (by decide) (by decide)
 have hN := atN
 have s0 := sound12
 generalize ofR 3 5 = r1 at *
 generalize ofR 3 20 = r2 at *
 have s1 := sound_a hT ⟨[nmA, nmP, nmQ, nmR], [⟨0, 1, r1⟩, ⟨0, 2, r2⟩, ⟨0, 3, r2⟩], [⟨0, 1, r1⟩]⟩ (by simp) (fun t ht => by simp only [List.mem_cons, List.not_mem_nil, or_false] at ht; rcases ht with rfl | rfl | rfl | rfl <;> decide) (by simp) (by simp) (fun x hx => by simp only [List.mem_cons, List.not_mem_nil, or_false] at hx; rcases hx with rfl | rfl | rfl; exact z1; exact z2; exact z2) (fun x hx => by simp only [List.mem_cons, List.not_mem_nil, or_false] at hx; subst hx; exact z1)
 rw [s0] at s1
 have e1 := same_a base ⟨[nmA, nmP, nmQ, nmR], [⟨0, 1, r1⟩, ⟨0, 2, r2⟩, ⟨0, 3, r2⟩], [⟨0, 1, r1⟩]⟩ ⟨[nmA, nmP, nmQ, nmR], [⟨0, 1, r1⟩, ⟨0, 2, r2⟩, ⟨0, 3, r2⟩], [⟨0, 1, r1⟩]⟩ (by simp) (by simp) (by simp) (by simp) (by simp) (by simp)
 have e2 := slinks_a base [⟨0, 2, r1⟩] [⟨0, 2, r1⟩] (by simp) (by simp)
 have e3 := slinks_a base [⟨0, 3, r1⟩] [⟨0, 3, r1⟩] (by simp) (by simp)
 have e4 := texts_a base [nmA, nmP] [nmA, nmP] (by simp) (by simp)
 rw [decide_eq_true rfl] at e1 e2 e3 e4
 generalize atS [hdN] 5 = S2 at a2 hN
 obtain ⟨p2, c2, v2⟩ := S2
 simp only at hN
 obtain ⟨rfl, rfl, hN⟩ := hN
 rw [hN] at a2
 clear hN sm jm z1 z2 s0
 obtain ⟨rn, ru, rd⟩ := r1
 obtain ⟨qn, qu, qd⟩ := r2
 have a1 := a1.leArg (args := [.d (.sl 10 [hdC0 hd1, hdC hd2]), iA 5]) ⟨LeA.sl ⟨hdC0_le rfl, LePL.refl _, trivial⟩, .refl _, trivial⟩
 have a2 := a2.leArg (args := [.d (.sl 10 [hdC0 hdN]), iA 5]) ⟨LeA.sl ⟨hdC0_le rfl, trivial⟩, .refl _, trivial⟩
 have a3 := a3.leArg (args := [.d (.sl 10 [hdC0 hdL6]), iA 5]) ⟨LeA.sl ⟨hdC0_le rfl, trivial⟩, .refl _, trivial⟩
 have a4 := a4.leArg (args := [.d (.sl 10 [hdC0 hd1]), .agg [tA hd3.id, tA hd3.company, tA hd3.holder, tA hd3.nominee, tA hd3.pledged, .d (.v (.slice none 0 0)), iA hd3.capital, iA hd3.votes, iA hd3.fr, iA hd3.til]]) ⟨LeA.sl ⟨hdC0_le rfl, trivial⟩, LeA.agg ⟨.refl _, .refl _, .refl _, .refl _, .refl _, .nil 1, .refl _, .refl _, .refl _, .refl _, trivial⟩, trivial⟩
 simp only [strA, strL, strsP, lklP, lkP, ratA, hdsP, List.map_cons, List.map_nil, iA, tA, boA, hdC0, hdC, hd1, hd2, hd3, hdN, hdL6, nmA, nmP, nmQ, nmR, nmZ] at a1 a2 a3 a4 o1 o2 s1 e1 e2 e3 e4 ⊢
 refine pure_enter ttOk Tryz.call10 Tryz.func10 rfl fun H hB hb hF => ?_
 rw [Tryz.results10, Tryz.ntmps10]
 simp only [arr_list, List.length_cons, List.length_nil, List.replicate, List.cons_append, List.nil_append, Nat.reduceAdd, Nat.reduceSub]
 clear hF hb
 repeat refine aw_seq ?_
 refine zr ttOk ?_
 repeat (refine aops_cons ?_; first | (apply aops_o; rfl; simp only [estep, avs, tts, seval] <;> exact rr) | (refine zg rfl ?_; first | refine grd_on ?_ | refine zo ?_))
 refine aops_nil ?_
 repeat refine aw_seq ?_
 refine zr ttOk ?_
 repeat (refine aops_cons ?_; first | (apply aops_o; rfl; simp only [estep, avs, tts, seval] <;> exact rr) | (refine zg rfl ?_; first | refine grd_on ?_ | refine zo ?_))
 refine aops_nil ?_
 repeat refine aw_seq ?_
 refine zr ttOk ?_
 repeat (refine aops_cons ?_; first | (apply aops_o; rfl; simp only [estep, avs, tts, seval] <;> exact rr) | (refine zg rfl ?_; first | refine grd_on ?_ | refine zo ?_))
 refine aops_nil ?_
 refine aw_frzB (H.length + 1) (H.length + 2) (by omega) (by simp only [avs] <;> rfl) (by simp only [avs, tts, Nat.reduceAdd, Nat.reduceMul, Nat.reduceSub, Nat.reduceEqDiff, Nat.reduceLT, Nat.reduceLeDiff, Int.reduceToNat, Int.reduceLE, Int.reduceLT, Int.toNat_natCast, reduceCtorEq, frzL, frzA, frzO, unI_dI, dI_len, unI, unL, Nat.add_eq_left, Nat.left_eq_add, Nat.one_ne_zero] <;> rfl) (by simp only [avs, tts, Nat.reduceAdd, Nat.reduceMul, Nat.reduceSub, Nat.reduceEqDiff, Nat.reduceLT, Nat.reduceLeDiff, Int.reduceToNat, Int.reduceLE, Int.reduceLT, Int.toNat_natCast, reduceCtorEq, frzL, frzA, frzO, unI_dI, dI_len, unI, unL, Nat.add_eq_left, Nat.left_eq_add, Nat.one_ne_zero] <;> rfl) (by simp only [avs, tts, Nat.reduceAdd, Nat.reduceMul, Nat.reduceSub, Nat.reduceEqDiff, Nat.reduceLT, Nat.reduceLeDiff, Int.reduceToNat, Int.reduceLE, Int.reduceLT, Int.toNat_natCast, reduceCtorEq, frzL, frzA, frzO, unI_dI, dI_len, unI, unL, Nat.add_eq_left, Nat.left_eq_add, Nat.one_ne_zero] <;> rfl) ?_
 repeat' (first | (refine aops_cons ?_; first | (refine zg rfl ?_; first | refine grd_on ?_ | refine zo ?_ | (refine zs ?_ ?_ <;> intro hb <;> ((try simp only [bn] at hb); first | subst hb | simp only [hb]))) | (apply aops_o; rfl; simp only [estep, avs, tts, seval] <;> exact rr)) | refine aops_nil ?_ | (refine ahops_cons ?_; first | (refine yg rfl ?_; first | refine hgrd_on ?_ | refine yo ?_ | (refine ys ?_ ?_ <;> intro hb <;> ((try simp only [bn] at hb); first | subst hb | simp only [hb]))) | (apply ahops_o; rfl; simp only [hstep, avs, tts, seval] <;> exact rr; first | trivial | omega)) | refine ahops_nil ?_ | refine aw_seq ?_ | refine zr ttOk ?_ | refine zR 0 ttOk mixed ?_ | refine zR 1 ttOk mixed ?_ | refine zR 2 ttOk mixed ?_ | refine zR 3 ttOk mixed ?_ | refine zf rfl rfl ?_ | refine zt rfl rfl ?_ | (refine aw_cond rfl rfl ?_ ?_ <;> intro hb <;> ((try simp only [bn] at hb); first | subst hb | simp only [hb])) | refine aw_skip ?_ | refine aw_exit ?_ | refine aw_block ?_)
 refine aops_cons ?_
 refine aops_at rfl (by simp only [avs] <;> rfl) ?_
 refine at_f ((H.length + 3)) (by simp only [avs, tts, seval, frzL, frzA, frzO, unI_dI, dI_len, unI, unL, Nat.add_eq_left, Nat.left_eq_add, Nat.one_ne_zero] <;> rfl) (by simp only [avs, tts, seval, frzL, frzA, frzO, unI_dI, dI_len, unI, unL, Nat.add_eq_left, Nat.left_eq_add, Nat.one_ne_zero] <;> rfl) (a1) (by simp only [avs] <;> rfl) ?_
 repeat' (first | (refine aops_cons ?_; first | (refine zg rfl ?_; first | refine grd_on ?_ | refine zo ?_ | (refine zs ?_ ?_ <;> intro hb <;> ((try simp only [bn] at hb); first | subst hb | simp only [hb]))) | (apply aops_o; rfl; simp only [estep, avs, tts, seval] <;> exact rr) | (refine za rfl ?_; first | refine zp (o1) ?_ | refine zp (o2) ?_ | refine zp (e1) ?_)) | refine aops_nil ?_ | (refine ahops_cons ?_; first | (refine yg rfl ?_; first | refine hgrd_on ?_ | refine yo ?_ | (refine ys ?_ ?_ <;> intro hb <;> ((try simp only [bn] at hb); first | subst hb | simp only [hb]))) | (apply ahops_o; rfl; simp only [hstep, avs, tts, seval] <;> exact rr; first | trivial | omega) | (refine ya rfl ?_; first | refine yp (o1) ?_ | refine yp (o2) ?_ | refine yp (e1) ?_)) | refine ahops_nil ?_ | refine aw_seq ?_ | refine zr ttOk ?_ | refine zR 0 ttOk mixed ?_ | refine zR 1 ttOk mixed ?_ | refine zR 2 ttOk mixed ?_ | refine zR 3 ttOk mixed ?_ | refine zf rfl rfl ?_ | refine zt rfl rfl ?_ | (refine aw_cond rfl rfl ?_ ?_ <;> intro hb <;> ((try simp only [bn] at hb); first | subst hb | simp only [hb])) | refine aw_skip ?_ | refine aw_exit ?_ | refine aw_block ?_)
 refine aops_cons ?_
 refine aops_at rfl (by simp only [avs] <;> rfl) ?_
 refine at_f ((H.length + 9)) (by simp only [avs, tts, seval, frzL, frzA, frzO, unI_dI, dI_len, unI, unL, Nat.add_eq_left, Nat.left_eq_add, Nat.one_ne_zero] <;> rfl) (by simp only [avs, tts, seval, frzL, frzA, frzO, unI_dI, dI_len, unI, unL, Nat.add_eq_left, Nat.left_eq_add, Nat.one_ne_zero] <;> rfl) (a2) (by simp only [avs] <;> rfl) ?_
 repeat' (first | (refine aops_cons ?_; first | (refine zg rfl ?_; first | refine grd_on ?_ | refine zo ?_ | (refine zs ?_ ?_ <;> intro hb <;> ((try simp only [bn] at hb); first | subst hb | simp only [hb]))) | (apply aops_o; rfl; simp only [estep, avs, tts, seval] <;> exact rr) | (refine za rfl ?_; first | refine zp (o1) ?_ | refine zp (e2) ?_ | refine zp (e3) ?_)) | refine aops_nil ?_ | (refine ahops_cons ?_; first | (refine yg rfl ?_; first | refine hgrd_on ?_ | refine yo ?_ | (refine ys ?_ ?_ <;> intro hb <;> ((try simp only [bn] at hb); first | subst hb | simp only [hb]))) | (apply ahops_o; rfl; simp only [hstep, avs, tts, seval] <;> exact rr; first | trivial | omega) | (refine ya rfl ?_; first | refine yp (o1) ?_ | refine yp (e2) ?_ | refine yp (e3) ?_)) | refine ahops_nil ?_ | refine aw_seq ?_ | refine zr ttOk ?_ | refine zR 0 ttOk mixed ?_ | refine zR 1 ttOk mixed ?_ | refine zR 2 ttOk mixed ?_ | refine zR 3 ttOk mixed ?_ | refine zf rfl rfl ?_ | refine zt rfl rfl ?_ | (refine aw_cond rfl rfl ?_ ?_ <;> intro hb <;> ((try simp only [bn] at hb); first | subst hb | simp only [hb])) | refine aw_skip ?_ | refine aw_exit ?_ | refine aw_block ?_)
 refine aops_cons ?_
 refine aops_at rfl (by simp only [avs] <;> rfl) ?_
 refine at_f ((H.length + 14)) (by simp only [avs, tts, seval, frzL, frzA, frzO, unI_dI, dI_len, unI, unL, Nat.add_eq_left, Nat.left_eq_add, Nat.one_ne_zero] <;> rfl) (by simp only [avs, tts, seval, frzL, frzA, frzO, unI_dI, dI_len, unI, unL, Nat.add_eq_left, Nat.left_eq_add, Nat.one_ne_zero] <;> rfl) (a3) (by simp only [avs] <;> rfl) ?_
 repeat' (first | (refine aops_cons ?_; first | (refine zg rfl ?_; first | refine grd_on ?_ | refine zo ?_ | (refine zs ?_ ?_ <;> intro hb <;> ((try simp only [bn] at hb); first | subst hb | simp only [hb]))) | (apply aops_o; rfl; simp only [estep, avs, tts, seval] <;> exact rr)) | refine aops_nil ?_ | (refine ahops_cons ?_; first | (refine yg rfl ?_; first | refine hgrd_on ?_ | refine yo ?_ | (refine ys ?_ ?_ <;> intro hb <;> ((try simp only [bn] at hb); first | subst hb | simp only [hb]))) | (apply ahops_o; rfl; simp only [hstep, avs, tts, seval] <;> exact rr; first | trivial | omega)) | refine ahops_nil ?_ | refine aw_seq ?_ | refine zr ttOk ?_ | refine zR 0 ttOk mixed ?_ | refine zR 1 ttOk mixed ?_ | refine zR 2 ttOk mixed ?_ | refine zR 3 ttOk mixed ?_ | refine zf rfl rfl ?_ | refine zt rfl rfl ?_ | (refine aw_cond rfl rfl ?_ ?_ <;> intro hb <;> ((try simp only [bn] at hb); first | subst hb | simp only [hb])) | refine aw_skip ?_ | refine aw_exit ?_ | refine aw_block ?_)
 refine aops_cons ?_
 refine aops_at rfl (by simp only [avs] <;> rfl) ?_
 refine at_f ((H.length + 16)) (by simp only [avs, tts, seval, frzL, frzA, frzO, unI_dI, dI_len, unI, unL, Nat.add_eq_left, Nat.left_eq_add, Nat.one_ne_zero] <;> rfl) (by simp only [avs, tts, seval, frzL, frzA, frzO, unI_dI, dI_len, unI, unL, Nat.add_eq_left, Nat.left_eq_add, Nat.one_ne_zero] <;> rfl) (a4) (by simp only [avs] <;> rfl) ?_
 repeat' (first | (refine aops_cons ?_; first | (refine zg rfl ?_; first | refine grd_on ?_ | refine zo ?_ | (refine zs ?_ ?_ <;> intro hb <;> ((try simp only [bn] at hb); first | subst hb | simp only [hb]))) | (apply aops_o; rfl; simp only [estep, avs, tts, seval] <;> exact rr)) | refine aops_nil ?_ | (refine ahops_cons ?_; first | (refine yg rfl ?_; first | refine hgrd_on ?_ | refine yo ?_ | (refine ys ?_ ?_ <;> intro hb <;> ((try simp only [bn] at hb); first | subst hb | simp only [hb]))) | (apply ahops_o; rfl; simp only [hstep, avs, tts, seval] <;> exact rr; first | trivial | omega)) | refine ahops_nil ?_ | refine aw_seq ?_ | refine zr ttOk ?_ | refine zR 0 ttOk mixed ?_ | refine zR 1 ttOk mixed ?_ | refine zR 2 ttOk mixed ?_ | refine zR 3 ttOk mixed ?_ | refine zf rfl rfl ?_ | refine zt rfl rfl ?_ | (refine aw_cond rfl rfl ?_ ?_ <;> intro hb <;> ((try simp only [bn] at hb); first | subst hb | simp only [hb])) | refine aw_skip ?_ | refine aw_exit ?_ | refine aw_block ?_)
 refine aops_cons ?_
 refine aops_at rfl (by simp only [avs] <;> rfl) ?_
 refine at_v (e4) (by simp only [avs, tts, seval, viewA.eq_def, viewL.eq_def, unI_dI, dI_len] <;> rfl) rfl (by simp only [avs] <;> rfl) ?_
 repeat' (first | (refine aops_cons ?_; first | (refine zg rfl ?_; first | refine grd_on ?_ | refine zo ?_ | (refine zs ?_ ?_ <;> intro hb <;> ((try simp only [bn] at hb); first | subst hb | simp only [hb]))) | (apply aops_o; rfl; simp only [estep, avs, tts, seval] <;> exact rr) | (refine za rfl ?_; refine zp (s1) ?_)) | refine aops_nil ?_ | (refine ahops_cons ?_; first | (refine yg rfl ?_; first | refine hgrd_on ?_ | refine yo ?_ | (refine ys ?_ ?_ <;> intro hb <;> ((try simp only [bn] at hb); first | subst hb | simp only [hb]))) | (apply ahops_o; rfl; simp only [hstep, avs, tts, seval] <;> exact rr; first | trivial | omega) | (refine ya rfl ?_; refine yp (s1) ?_)) | refine ahops_nil ?_ | refine aw_seq ?_ | refine zr ttOk ?_ | refine zR 0 ttOk mixed ?_ | refine zR 1 ttOk mixed ?_ | refine zR 2 ttOk mixed ?_ | refine zR 3 ttOk mixed ?_ | refine zf rfl rfl ?_ | refine zt rfl rfl ?_ | (refine aw_cond rfl rfl ?_ ?_ <;> intro hb <;> ((try simp only [bn] at hb); first | subst hb | simp only [hb])) | refine aw_skip ?_ | refine aw_exit ?_ | refine aw_block ?_)
 simp only [decide_true, if_true]
 show AW _ _ _ _ _
 exact aw_ret ⟨_, rfl, _, rfl, rfl⟩
end
end Av
end Go.Proofs.YtdekcppfpgeneaaGreatDoor
set_option linter.unusedVariables false
set_option linter.unusedSimpArgs false
namespace Go.Proofs.YtdekcppfpgeneaaGreatDoor
open Go Go.RowKit
namespace Av
open Nt Rg

/-! The statement's arguments: registers and structures out of any wide value. -/
def rowSt (w : World) : St := ⟨fun _ => none, [], w⟩
theorem rowSt_imm (w : World) (b : Nat) (h : b < w.heap.size) : (rowSt w).imm b := ⟨h, fun ⟨l, o, h1, _⟩ => by simp [rowSt] at h1⟩
theorem rowSt_sim (w : World) : Sim w (rowSt w) := ⟨Below.refl _ _, fun l o h => by simp [rowSt] at h, fun l l' o o' b h => by simp [rowSt] at h⟩
def HdsIn (w : World) (v : Value) (l : List Hd) : Prop := Rep (rowSt w) (.d (hdsP l)) v
def ptHd : List PT := [.s, .s, .s, .s, .s, .sl [.s], .i .i64, .i .i64, .i .i64, .i .i64]
theorem fits_hd {ps : List PD} (h : fitsL ptHd ps) : ∃ x : Hd, ps = hdC x := by
 obtain ⟨p1, r1, rfl, h1, k1⟩ := fits_cons h
 obtain ⟨a1, rfl⟩ := fits_s h1
 obtain ⟨p2, r2, rfl, h2, k2⟩ := fits_cons k1
 obtain ⟨a2, rfl⟩ := fits_s h2
 obtain ⟨p3, r3, rfl, h3, k3⟩ := fits_cons k2
 obtain ⟨a3, rfl⟩ := fits_s h3
 obtain ⟨p4, r4, rfl, h4, k4⟩ := fits_cons k3
 obtain ⟨a4, rfl⟩ := fits_s h4
 obtain ⟨p5, r5, rfl, h5, k5⟩ := fits_cons k4
 obtain ⟨a5, rfl⟩ := fits_s h5
 obtain ⟨p6, r6, rfl, h6, k6⟩ := fits_cons k5
 obtain ⟨a6, rfl⟩ := fits_strs h6
 obtain ⟨p7, r7, rfl, h7, k7⟩ := fits_cons k6
 obtain ⟨a7, rfl⟩ := fits_i h7
 obtain ⟨p8, r8, rfl, h8, k8⟩ := fits_cons k7
 obtain ⟨a8, rfl⟩ := fits_i h8
 obtain ⟨p9, r9, rfl, h9, k9⟩ := fits_cons k8
 obtain ⟨a9, rfl⟩ := fits_i h9
 obtain ⟨p10, r10, rfl, h10, k10⟩ := fits_cons k9
 obtain ⟨a10, rfl⟩ := fits_i h10
 exact ⟨⟨a1, a2, a3, a4, a5, a6, a7, a8, a9, a10⟩, by rw [fits_nil k10]; rfl⟩
set_option maxRecDepth 100000 in
theorem open_hds {H : Type} {enc : TypeId × Value → H} {w : World} {b0 : Nat} {v : Value} {d : DataW H} {p : List MemPlace} (hv : Value.okWide Tryz.prog w .any b0 26 v) (h : DataW.Trod enc Tryz.prog w 0 (fun _ => true) true 26 v d p) :
  ∃ l, HdsIn w v l := by
 obtain ⟨a, n, c, rfl⟩ := Go.WideShapes.okWide_slice Tryz.underlying26 hv
 obtain ⟨n, hn⟩ := h
 obtain ⟨ps, h1, h2⟩ := open_pd (s := rowSt w) rfl (rowSt_imm w) n 8 26 _ _ [.sl ptHd] (by kernel_rfl) hn
 obtain ⟨p, r, rfl, h3, h4⟩ := fits_cons h1
 have h5 := fits_nil h4
 subst h5
 obtain ⟨l, rfl, hl⟩ := fits_sl h3
 obtain ⟨xs, rfl⟩ := list_of (f := hdC) (l := l) fun it hi => fits_hd (hl it hi)
 refine ⟨xs, ?_⟩
 simp only [dL, List.map_cons, List.map_nil, RepL] at h2
 obtain ⟨x, t, e, h6, rfl⟩ := h2
 simp only [Value.cells] at e
 cases e
 exact h6
theorem calls_of_a {P : Program} {w : World} {f : FuncId} {args : List AV} {vs : Array Value} {R : AV → AHeap → Prop} (h : CallsA P w f args [] R) (ha : RepL (rowSt w) args vs.toList) (hR : ∀ r H', R r H' → r = .d (.v (.bool true))) :
  Calls P f vs w fun e w' => e = .returned (.bool true) ∧ Below w.heap.size w w' := by
 refine (h.run (fun _ => none) w vs (rowSt_sim w) ha).mono fun e w' ⟨v, r, H', μ', h1, h2, h3, h4, h5, h6⟩ => ?_
 rw [hR r H' h2] at h5
 simp only [Rep, PRep] at h5
 exact ⟨by rw [h1, h5.1], h4.below⟩
theorem rep_i (w : World) {n : Int} (h0 : -9223372036854775808 ≤ n) (h1 : n ≤ 9223372036854775807) : Rep (rowSt w) (iA n) (.int .i64 n) := by
 simp only [iA, Rep, PRep, true_and, small, IntKind.min, IntKind.max, IntKind.signed, IntKind.bits]
 (try simp)
 omega
theorem rep_w (w : World) {n : Int} (h : (Lit.int .i64 n).wf = true) : Rep (rowSt w) (iA n) (.int .i64 n) := by
 simp only [Lit.wf, Bool.and_eq_true, decide_eq_true_eq, IntKind.min, IntKind.max, IntKind.signed, IntKind.bits] at h
 (try simp at h)
 exact rep_i w (by omega) (by omega)
end Av
end Go.Proofs.YtdekcppfpgeneaaGreatDoor
set_option linter.unusedVariables false
namespace Go.Proofs.YtdekcppfpgeneaaGreatDoor
open Go Go.RowKit

def bru64 : List Int := [0, 1, 56, 2, 57, 49, 28, 3, 61, 58, 42, 50, 38, 29, 17, 4, 62, 47, 59, 36, 45, 43, 51, 22, 53, 39, 33, 30, 24, 18, 12, 5, 63, 55, 48, 27, 60, 41, 37, 16, 46, 35, 44, 21, 52, 32, 23, 11, 54, 26, 40, 15, 34, 20, 31, 10, 25, 14, 19, 9, 13, 8, 7, 6]
theorem tabs_of {W : World} {rest : List (String × DataW Unit)} (h : laidMet Tryz.prog (("math/bits.deBruijn32tab", Rows.laid_math_bits_deBruijn32tab) :: ("math/bits.deBruijn64tab", Rows.laid_math_bits_deBruijn64tab) :: ("internal/strconv.uint64pow10", Rows.laid_internal_strconv_uint64pow10) :: rest) W) : Tabs W := by
 have h1 : laidMet Tryz.prog (("math/bits.deBruijn64tab", Lib.tabData .u8 bru64) :: ("internal/strconv.uint64pow10", Lib.tabData .u64 Lib.pow10Tab) :: rest) W := laidMet.tail h
 have t1 := Lib.tabIs_of_head (g := 6) (t := 250) (e := 5) (n := 64) (by kernel_rfl) (by kernel_rfl) (by kernel_rfl) (by kernel_rfl) (by kernel_rfl) (by kernel_rfl) h1
 have t2 := Lib.tabIs_of_head (g := 2) (t := 225) (e := 167) (n := 20) (by kernel_rfl) (by kernel_rfl) (by kernel_rfl) (by kernel_rfl) (by kernel_rfl) (by kernel_rfl) (laidMet.tail h1)
 have hc := t1.cell (g := 6) (by kernel_rfl) 15 (by decide)
 refine ⟨t2, hc, ?_⟩
 rcases Nat.lt_or_ge 6 W.heap.size with h' | h'
 ·exact h'
 ·rw [World.cell?, Array.getElem?_eq_none h'] at hc
  cases hc
end Go.Proofs.YtdekcppfpgeneaaGreatDoor
set_option linter.unusedVariables false
set_option linter.unusedSimpArgs false
namespace Go.Proofs.YtdekcppfpgeneaaGreatDoor
open Go Go.RowKit
namespace Rg
open Av Nt
theorem shareK_fold_len (ix : ByteArray → Int) (day : Int) (pc : Hd → Int) (who : Hd → List ByteArray) : ∀ (l : List Hd) (s : KSt), (∀ h ∈ l, (who h).length ≤ 1001) → (l.foldl (shrK pc who ix day) s).1.length ≤ s.1.length + 1001 * l.length
 | [], s, _ => by simp
 | h :: r, s, hw => by
  have h1 := shareK_fold_len ix day pc who r (shrK pc who ix day s h) fun x hx => hw x (List.mem_cons_of_mem _ hx)
  have h2 := hw h (List.mem_cons_self ..)
  have h3 : (shrK pc who ix day s h).1.length ≤ s.1.length + 1001 := by
   unfold shrK
   split
   ·have := shareK_len ix h.company (pc h) (who h) s; omega
   ·omega
  rw [List.foldl_cons, List.length_cons]; omega
theorem lnkS_len (s : KSt) : (lnkS s).length = s.1.length := by unfold lnkS; rw [List.length_map]; exact (sortK_perm _).length_eq
structure Short (s : Str) : Prop where
 p : s.parties.length ≤ 1000000
 c : s.capital.length ≤ 1000000
 v : s.votes.length ≤ 1000000
theorem atS_short {l : List Hd} (day : Int) (hj : ∀ h ∈ l, h.joint.length ≤ 1000) (hl : l.length ≤ 900) : Short (atS l day) := by
 unfold atS
 cases hv : validB l && dayB day with
 | false => exact ⟨by simp, by simp, by simp⟩
 | true =>
  simp only [Bool.and_eq_true] at hv
  have := (valid_all hv.1).2
  have hc := shareK_fold_len (ixS (partiesS l)) day Hd.capital whoC l nilK fun h hh => whoC_len (hj h hh)
  have hvv := shareK_fold_len (ixS (partiesS l)) day Hd.votes whoV l nilK fun h hh => whoV_len (hj h hh)
  rw [show nilK.1.length = 0 from rfl] at hc hvv
  simp only [if_true]
  exact ⟨by simp only; omega, by simp only [lnkS_len]; unfold capK; rw [stC_shr]; omega, by simp only [lnkS_len]; unfold votK; rw [stV_shr]; omega⟩
end Rg
namespace Av
attribute [local irreducible] AW AOps AHOps
open Nt Rg

/-! RegisterOrder. -/
section
variable {base : World} (hT : Tabs base)
include hT
end
end Av
end Go.Proofs.YtdekcppfpgeneaaGreatDoor
set_option linter.unusedVariables false
set_option linter.unusedSimpArgs false
namespace Go.Proofs.YtdekcppfpgeneaaGreatDoor
open Go Go.RowKit
namespace Rg
open Av Nt
theorem atE_ok {l : List Hd} {day : Int} (h : atE l day = 0) : validB l = true ∧ dayB day = true := by
 unfold atE at h
 cases hv : validB l && dayB day with
 | false => rw [hv] at h; simp at h
 | true => simpa using hv
end Rg
namespace Av
attribute [local irreducible] AW AOps AHOps
open Nt Rg

/-! RegisterTime. -/
section
variable {base : World} (hT : Tabs base)
include hT
end
end Av
end Go.Proofs.YtdekcppfpgeneaaGreatDoor
set_option linter.unusedVariables false
set_option linter.unusedSimpArgs false
namespace Go.Proofs.YtdekcppfpgeneaaGreatDoor
open Go Go.RowKit
namespace Rg
open Av Nt
end Rg
namespace Av
attribute [local irreducible] AW AOps AHOps
open Nt Rg

/-! RegisterStays. -/
section
variable {base : World} (hT : Tabs base)
include hT
end
end Av
end Go.Proofs.YtdekcppfpgeneaaGreatDoor
set_option linter.unusedVariables false
set_option linter.unusedSimpArgs false
namespace Go.Proofs.YtdekcppfpgeneaaGreatDoor
open Go Go.RowKit
namespace Rg
open Av Nt

/-! A proper holding, in parts. -/
theorem name_ne {t : ByteArray} (h : nameB t = true) : t ≠ emp := by
 unfold nameB at h
 simp only [Bool.and_eq_true, Bool.not_eq_true', decide_eq_false_iff_not] at h
 exact h.2.1
structure Prp (h : Hd) : Prop where
 id : nameB h.id = true
 company : nameB h.company = true
 holder : nameB h.holder = true
 nominee : h.nominee = emp ∨ nameB h.nominee = true
 pledged : h.pledged = emp ∨ nameB h.pledged = true
 joint4 : h.joint.length ≤ 4
 alone : h.nominee = emp ∨ h.joint = []
 joint : ∀ t ∈ h.joint, nameB t = true
 nodup : (h.holder :: h.joint).Nodup
 own : ¬ h.company ∈ h.holder :: h.joint
 nom : h.company ≠ h.nominee
 pct : pctB h.capital = true ∧ pctB h.votes = true
 days : pr4 h = true
theorem proper_iff (h : Hd) : properB h = true ↔ Prp h := by
 unfold properB pr1 pr2 pr3 optB
 simp only [Bool.and_eq_true, Bool.or_eq_true, Bool.not_eq_true', decide_eq_true_eq, decide_eq_false_iff_not, List.all_eq_true, memB_no]
 constructor
 ·rintro ⟨⟨h1, h2, h3, h4, h5, h6, h7⟩, ⟨h8, h9⟩, ⟨h10, h11, h12⟩, h13⟩
  exact ⟨h1, h2, h3, h4, h5, h6, h7.imp id (fun e => List.length_eq_zero_iff.1 e), h8, h9, h10, h11, h12, h13⟩
 ·rintro ⟨h1, h2, h3, h4, h5, h6, h7, h8, h9, h10, h11, h12, h13⟩
  exact ⟨⟨h1, h2, h3, h4, h5, h6, h7.imp id (fun e => List.length_eq_zero_iff.2 e)⟩, ⟨h8, h9⟩, ⟨h10, h11, h12⟩, h13⟩
end Rg
end Go.Proofs.YtdekcppfpgeneaaGreatDoor
set_option linter.unusedVariables false
set_option linter.unusedSimpArgs false
namespace Go.Proofs.YtdekcppfpgeneaaGreatDoor
open Go Go.RowKit
namespace Rg
open Av Nt

/-! Nominees: a holding of the party for whom it is held. -/
def nomH (h : Hd) : Hd := ⟨h.id, h.company, (if h.nominee = emp then h.holder else h.nominee), emp, emp, h.joint, h.capital, h.votes, h.fr, h.til⟩
theorem proper_nom {h : Hd} (hp : properB h = true) : properB (nomH h) = true := by
 rw [proper_iff] at hp ⊢
 unfold nomH
 by_cases e : h.nominee = emp
 ·rw [if_pos e]
  exact ⟨hp.id, hp.company, hp.holder, .inl rfl, .inl rfl, hp.joint4, .inl rfl, hp.joint, hp.nodup, hp.own, name_ne hp.company, hp.pct, hp.days⟩
 ·rw [if_neg e]
  have hn := hp.nominee.resolve_left e
  have hj := hp.alone.resolve_left e
  refine ⟨hp.id, hp.company, hn, .inl rfl, .inl rfl, hp.joint4, .inl rfl, hp.joint, ?_, ?_, name_ne hp.company, hp.pct, hp.days⟩
  ·simp [hj]
  ·simp only [hj, List.mem_singleton]; exact hp.nom
theorem who_nom {h : Hd} (hp : properB h = true) : whoC (nomH h) = whoC h := by
 rw [proper_iff] at hp
 unfold whoC nomH
 by_cases e : h.nominee = emp
 ·simp only [if_pos e, if_true]
 ·simp only [if_neg e, if_true]
  rw [hp.alone.resolve_left e]
theorem names_nom {h : Hd} {x : ByteArray} (hx : x ∈ namesH (nomH h)) : x ∈ namesH h := by
 unfold namesH nomH at hx
 unfold namesH
 simp only [List.mem_cons, List.mem_filter, Bool.not_eq_true', decide_eq_false_iff_not] at hx ⊢
 rcases hx with rfl | rfl | ⟨h1 | h1 | h1, h2⟩
 ·exact .inl rfl
 ·by_cases e : h.nominee = emp
  ·rw [if_pos e]; exact .inr (.inl rfl)
  ·rw [if_neg e]; exact .inr (.inr ⟨.inl rfl, e⟩)
 ·exact absurd h1 h2
 ·exact absurd h1 h2
 ·exact .inr (.inr ⟨.inr (.inr h1), h2⟩)
theorem nodup_len {l m : List ByteArray} (hl : l.Nodup) (h : ∀ x ∈ l, x ∈ m) : l.length ≤ m.length := by
 induction l generalizing m with
 | nil => simp
 | cons a r ih =>
  rw [List.nodup_cons] at hl
  have ha := h a (List.mem_cons_self ..)
  have h1 := ih (m := m.filter fun x => !decide (x = a)) hl.2 fun x hx => by
   have hne : x ≠ a := fun e => hl.1 (e ▸ hx)
   exact List.mem_filter.2 ⟨h x (List.mem_cons_of_mem _ hx), by simp [hne]⟩
  have : (m.filter fun x => !decide (x = a)).length < m.length := List.length_filter_lt_length_iff_exists.2 ⟨a, ha, by simp⟩
  rw [List.length_cons]; omega
theorem sumF_map {α β : Type} (p : β → Bool) (g : β → Int) (f : α → β) : ∀ l : List α, sumF p g (l.map f) = sumF (fun a => p (f a)) (fun a => g (f a)) l
 | [] => rfl
 | a :: r => by simp only [List.map_cons, sumF, sumF_map p g f r]
theorem parties_keep {f : Hd → Hd} {l : List Hd} (hn : ∀ h ∈ l, ∀ x ∈ namesH (f h), x ∈ namesH h) : ∀ x ∈ partiesS (l.map f), x ∈ partiesS l := fun x hx => by
 rw [mem_partiesS] at hx ⊢
 obtain ⟨h, hh, hx⟩ := hx
 obtain ⟨a, ha, rfl⟩ := List.mem_map.1 hh
 exact ⟨a, ha, hn a ha x hx⟩
/-- what is kept where names change -/
structure KeepF (f : Hd → Hd) : Prop where
 company : ∀ h, (f h).company = h.company
 capital : ∀ h, (f h).capital = h.capital
 votes : ∀ h, (f h).votes = h.votes
 fr : ∀ h, (f h).fr = h.fr
 til : ∀ h, (f h).til = h.til
 id : ∀ h, (f h).id = h.id
theorem runs_keep {f : Hd → Hd} (hf : KeepF f) (h : Hd) (d : Int) : runsB (f h) d = runsB h d := by unfold runsB; rw [hf.fr, hf.til]
theorem on_keep {f : Hd → Hd} (hf : KeepF f) (l : List Hd) (d : Int) : onB (l.map f) d = onB l d := by
 have e : okC (l.map f) d = okC l d := by
  funext c
  unfold okC capS votS
  rw [sumF_map, sumF_map]
  have e1 : (fun a => inB d c (f a)) = inB d c := by
   funext a; unfold inB; rw [runs_keep hf, hf.company]
  have e2 : (fun a => (f a).capital) = Hd.capital := funext hf.capital
  have e3 : (fun a => (f a).votes) = Hd.votes := funext hf.votes
  rw [e1, e2, e3]
 unfold onB
 rw [e, List.all_map]
 congr 1
 funext h
 simp only [Function.comp_apply, runs_keep hf, hf.company]
theorem bear_keep {f : Hd → Hd} (hf : KeepF f) (l : List Hd) : bearB (l.map f) = bearB l := by
 unfold bearB
 rw [List.all_map]
 congr 1
 funext h
 simp only [Function.comp_apply, hf.fr, on_keep hf]
theorem valid_keep {f : Hd → Hd} (hf : KeepF f) {l : List Hd} (hv : validB l = true) (hp : ∀ h ∈ l, properB h = true → properB (f h) = true) (hn : ∀ h ∈ l, ∀ x ∈ namesH (f h), x ∈ namesH h) : validB (l.map f) = true := by
 unfold validB at hv ⊢
 simp only [Bool.and_eq_true, decide_eq_true_eq, List.all_eq_true] at hv ⊢
 obtain ⟨⟨h1, h2⟩, h3, h4, h5⟩ := hv
 refine ⟨⟨fun x hx => ?_, ?_⟩, by rw [List.length_map]; exact h3, Nat.le_trans (nodup_len (partiesS_nodup _) (parties_keep hn)) h4, by rw [bear_keep hf]; exact h5⟩
 ·obtain ⟨a, ha, rfl⟩ := List.mem_map.1 hx
  exact hp a ha (h1 a ha)
 ·rw [List.map_map]
  have : (Hd.id ∘ f) = Hd.id := funext hf.id
  rw [this]; exact h2
/-! places of names -/
theorem ix_at {ps : List ByteArray} {x : ByteArray} (hx : x ∈ ps) : ∃ (i : Nat) (h : i < ps.length), ixS ps x = i ∧ ps[i] = x := by
 have hi0 : (ps.findIdx fun y => decide (y = x)) < ps.length := List.findIdx_lt_length_of_exists ⟨x, hx, by simp⟩
 exact ⟨_, hi0, rfl, by simpa using List.findIdx_getElem (w := hi0)⟩
theorem ix_inj {ps : List ByteArray} {x y : ByteArray} (hx : x ∈ ps) (hy : y ∈ ps) : ixS ps x = ixS ps y ↔ x = y := by
 obtain ⟨i, hi, e1, e2⟩ := ix_at hx
 obtain ⟨j, hj, e3, e4⟩ := ix_at hy
 constructor
 ·intro h
  rw [e1, e3] at h
  have : i = j := by omega
  subst this
  exact e2.symm.trans e4
 ·rintro rfl; rfl
structure Srt (ps : List ByteArray) : Prop where
 srt : ps.Pairwise fun a b => leT a b = true
 nd : ps.Nodup
theorem partiesS_srt (l : List Hd) : Srt (partiesS l) := ⟨partiesS_sorted l, partiesS_nodup l⟩
theorem ix_lt {ps : List ByteArray} (hs : Srt ps) {x y : ByteArray} (hx : x ∈ ps) (hy : y ∈ ps) : ixS ps x < ixS ps y ↔ ltT x y = true := by
 obtain ⟨i, hi, e1, e2⟩ := ix_at hx
 obtain ⟨j, hj, e3, e4⟩ := ix_at hy
 rw [e1, e3, ltT_iff]
 constructor
 ·intro h
  have h1 := List.pairwise_iff_getElem.1 hs.srt i j hi hj (by omega)
  have h2 := List.pairwise_iff_getElem.1 hs.nd i j hi hj (by omega)
  rw [e2, e4] at h1 h2
  exact ⟨h1, h2⟩
 ·rintro ⟨h1, h2⟩
  rcases Nat.lt_trichotomy i j with h | h | h
  ·omega
  ·subst h; exact absurd (e2.symm.trans e4) h2
  ·have h3 := List.pairwise_iff_getElem.1 hs.srt j i hj hi h
   rw [e2, e4] at h3
   exact absurd (leT_antisymm h1 h3) h2
/-- the same names at other places -/
def phi (P Q : List ByteArray) (i : Int) : Int := ixS P (Q.getD i.toNat emp)
theorem phi_ix {P Q : List ByteArray} {x : ByteArray} (hx : x ∈ Q) : phi P Q (ixS Q x) = ixS P x := by
 obtain ⟨i, hi, e1, e2⟩ := ix_at hx
 unfold phi
 rw [e1]
 have : (Q.getD ((i : Int).toNat) emp) = x := by simp [List.getD_eq_getElem?_getD, hi, e2]
 rw [this]
def phi2 (P Q : List ByteArray) (k : Int × Int) : Int × Int := (phi P Q k.1, phi P Q k.2)
theorem sort_phi {P Q : List ByteArray} (hP : Srt P) (hQ : Srt Q) (hsub : ∀ x ∈ Q, x ∈ P) {K L : List (Int × Int)} (hK : K.Nodup) (hL : L.Nodup) (hin : ∀ k ∈ L, ∃ c ∈ Q, ∃ x ∈ Q, k = (ixS Q c, ixS Q x)) (hm : ∀ k, k ∈ K ↔ ∃ j ∈ L, phi2 P Q j = k) : sortK K = (sortK L).map (phi2 P Q) := by
 have hS : ∀ k ∈ sortK L, ∃ c ∈ Q, ∃ x ∈ Q, k = (ixS Q c, ixS Q x) := fun k hk => hin k (sortK_mem.1 hk)
 refine sortK_eq hK ?_ ?_ fun k => ?_
 ·show List.Pairwise _ _
  rw [List.pairwise_map]
  refine (sortK_nodup hL).imp_of_mem fun {a b} ha hb hne e => hne ?_
  obtain ⟨c, hc, x, hx, rfl⟩ := hS a ha
  obtain ⟨d, hd, y, hy, rfl⟩ := hS b hb
  unfold phi2 at e
  simp only [phi_ix hc, phi_ix hx, phi_ix hd, phi_ix hy, Prod.mk.injEq] at e ⊢
  rw [ix_inj (hsub c hc) (hsub d hd), ix_inj (hsub x hx) (hsub y hy)] at e
  rw [e.1, e.2]; exact ⟨rfl, rfl⟩
 ·rw [List.pairwise_map]
  refine (sortK_sorted L).imp_of_mem fun {a b} ha hb h => ?_
  obtain ⟨c, hc, x, hx, rfl⟩ := hS a ha
  obtain ⟨d, hd, y, hy, rfl⟩ := hS b hb
  unfold leK at h ⊢
  unfold phi2
  simp only [phi_ix hc, phi_ix hx, phi_ix hd, phi_ix hy] at h ⊢
  rw [ix_lt hQ hc hd, ix_inj hc hd] at h
  rw [ix_lt hP (hsub c hc) (hsub d hd), ix_inj (hsub c hc) (hsub d hd)]
  refine h.imp id fun h => ⟨h.1, ?_⟩
  rcases Int.lt_or_eq_of_le h.2 with h2 | h2
  ·have := (ix_lt hP (hsub x hx) (hsub y hy)).2 ((ix_lt hQ hx hy).1 h2); omega
  ·have := (ix_inj (hsub x hx) (hsub y hy)).2 ((ix_inj hx hy).1 h2); omega
 ·rw [hm, List.mem_map]
  constructor
  ·rintro ⟨j, hj, e⟩; exact ⟨j, sortK_mem.2 hj, e⟩
  ·rintro ⟨j, hj, e⟩; exact ⟨j, sortK_mem.1 hj, e⟩
theorem whoC_names {h : Hd} (hp : properB h = true) {x : ByteArray} (hx : x ∈ whoC h) : x ∈ namesH h := by
 rw [proper_iff] at hp
 unfold whoC at hx
 unfold namesH
 simp only [List.mem_cons, List.mem_filter, Bool.not_eq_true', decide_eq_false_iff_not]
 by_cases e : h.nominee = emp
 ·rw [if_pos e] at hx
  rcases List.mem_cons.1 hx with rfl | hx
  ·exact .inr (.inl rfl)
  ·exact .inr (.inr ⟨.inr (.inr hx), name_ne (hp.joint x hx)⟩)
 ·rw [if_neg e] at hx
  rw [List.mem_singleton] at hx
  subst hx
  exact .inr (.inr ⟨.inl rfl, e⟩)
theorem nominees {l : List Hd} {f : Hd → Hd} (hf : KeepF f) (hv : validB l = true) (hp : ∀ h ∈ l, properB h = true → properB (f h) = true) (hn : ∀ h ∈ l, ∀ x ∈ namesH (f h), x ∈ namesH h) (hw : ∀ h ∈ l, whoC (f h) = whoC h) (d : Int) :
  lnkU (capK (ixS (partiesS l)) d l) = (lnkU (capK (ixS (partiesS (l.map f))) d (l.map f))).map fun p => (phi2 (partiesS l) (partiesS (l.map f)) p.1, p.2) := by
 have hsub := parties_keep hn
 have hvm := valid_keep hf hv hp hn
 have hpr := (valid_all hv).1
 have hco : ∀ h ∈ l, h.company ∈ partiesS (l.map f) := fun h hh => mem_partiesS.2 ⟨f h, List.mem_map_of_mem hh, by unfold namesH; rw [hf.company]; exact List.mem_cons_self ..⟩
 have hwm : ∀ h ∈ l, ∀ x ∈ whoC h, x ∈ partiesS (l.map f) := fun h hh x hx => mem_partiesS.2 ⟨f h, List.mem_map_of_mem hh, whoC_names (hp h hh (hpr h hh)) (by rw [hw h hh]; exact hx)⟩
 have hin : ∀ k ∈ (capK (ixS (partiesS (l.map f))) d (l.map f)).1, ∃ c ∈ partiesS (l.map f), ∃ x ∈ partiesS (l.map f), k = (ixS (partiesS (l.map f)) c, ixS (partiesS (l.map f)) x) := fun k hk => by
  rw [capK_mem] at hk
  obtain ⟨g, hg, h1, x, hx, h2⟩ := hk
  obtain ⟨h, hh, rfl⟩ := List.mem_map.1 hg
  unfold giveC at h2
  simp only [decide_eq_true_eq] at h2
  rw [hw h hh] at hx
  exact ⟨_, by rw [hf.company]; exact hco h hh, x, hwm h hh x hx, h2.2.2.symm⟩
 have hS := sort_phi (partiesS_srt l) (partiesS_srt (l.map f)) hsub (capK_nodup (ixS (partiesS l)) d l) (capK_nodup _ d _) hin fun k => by
  rw [capK_mem]
  constructor
  ·rintro ⟨h, hh, h1, x, hx, h2⟩
   unfold giveC at h2
   simp only [decide_eq_true_eq] at h2
   refine ⟨(ixS (partiesS (l.map f)) h.company, ixS (partiesS (l.map f)) x), ?_, ?_⟩
   ·rw [capK_mem]
    refine ⟨f h, List.mem_map_of_mem hh, by rw [runs_keep hf]; exact h1, x, by rw [hw h hh]; exact hx, ?_⟩
    unfold giveC
    rw [hf.company, hf.capital]
    exact decide_eq_true ⟨h2.1, h2.2.1, rfl⟩
   ·unfold phi2
    simp only [phi_ix (hco h hh), phi_ix (hwm h hh x hx)]
    exact h2.2.2
  ·rintro ⟨j, hj, e⟩
   rw [capK_mem] at hj
   obtain ⟨g, hg, h1, x, hx, h2⟩ := hj
   obtain ⟨h, hh, rfl⟩ := List.mem_map.1 hg
   unfold giveC at h2
   simp only [decide_eq_true_eq] at h2
   rw [hw h hh] at hx
   rw [hf.company, hf.capital] at h2
   rw [runs_keep hf] at h1
   refine ⟨h, hh, h1, x, hx, ?_⟩
   unfold giveC
   rw [← e, ← h2.2.2]
   unfold phi2
   simp only [phi_ix (hco h hh), phi_ix (hwm h hh x hx)]
   exact decide_eq_true ⟨h2.1, h2.2.1, trivial⟩
 unfold lnkU
 rw [hS, List.map_map, List.map_map]
 refine List.map_congr_left fun k hk => ?_
 simp only [Function.comp_apply, Prod.mk.injEq, true_and]
 obtain ⟨c, hc, x, hx, rfl⟩ := hin k (sortK_mem.1 hk)
 rw [capK_val, capK_val]
 unfold capV
 rw [sumF_map]
 refine sumF_congr fun h hh => ⟨(runs_keep hf h d).symm, fun _ => ?_⟩
 unfold giveF
 rw [hw h hh, hf.company, hf.capital]
 refine sumF_congr fun y hy => ⟨?_, fun _ => rfl⟩
 unfold giveC phi2
 simp only [phi_ix hc, phi_ix hx]
 refine decide_eq_decide.2 (and_congr Iff.rfl (and_congr Iff.rfl ?_))
 simp only [Prod.mk.injEq]
 rw [ix_inj (hsub _ (hco h hh)) (hsub _ hc), ix_inj (hsub _ (hwm h hh y hy)) (hsub _ hx), ix_inj (hco h hh) hc, ix_inj (hwm h hh y hy) hx]
/-- what RegisterNominees asks of two lists of links -/
structure SameL (P Q : List ByteArray) (a b : Lk) : Prop where
 part : a.part = b.part
 c : ∃ i j : Nat, a.company = i ∧ b.company = j ∧ ∃ (hi : i < P.length) (hj : j < Q.length), P[i] = Q[j]
 h : ∃ i j : Nat, a.holder = i ∧ b.holder = j ∧ ∃ (hi : i < P.length) (hj : j < Q.length), P[i] = Q[j]
theorem same_lists {P Q : List ByteArray} (hsub : ∀ x ∈ Q, x ∈ P) {U : List ((Int × Int) × Int)} (hU : ∀ p ∈ U, ∃ c ∈ Q, ∃ x ∈ Q, p.1 = (ixS Q c, ixS Q x)) :
  ((U.map fun p => (phi2 P Q p.1, p.2)).map lkU).length = (U.map lkU).length ∧ ∀ (i : Nat) (h1 : i < ((U.map fun p => (phi2 P Q p.1, p.2)).map lkU).length) (h2 : i < (U.map lkU).length), SameL P Q ((U.map fun p => (phi2 P Q p.1, p.2)).map lkU)[i] (U.map lkU)[i] := by
 refine ⟨by simp, fun i h1 h2 => ?_⟩
 simp only [List.length_map] at h1 h2
 simp only [List.getElem_map]
 have hk := hU _ (List.getElem_mem h2)
 generalize U[i] = p at hk ⊢
 obtain ⟨k, v⟩ := p
 obtain ⟨c, hc, x, hx, e⟩ := hk
 simp only at e
 subst e
 unfold lkU phi2
 simp only [phi_ix hc, phi_ix hx]
 refine ⟨rfl, ?_, ?_⟩
 ·obtain ⟨i, hi, e1, e2⟩ := ix_at (hsub _ hc)
  obtain ⟨j, hj, e3, e4⟩ := ix_at hc
  exact ⟨i, j, e1, e3, hi, hj, e2.trans e4.symm⟩
 ·obtain ⟨i, hi, e1, e2⟩ := ix_at (hsub _ hx)
  obtain ⟨j, hj, e3, e4⟩ := ix_at hx
  exact ⟨i, j, e1, e3, hi, hj, e2.trans e4.symm⟩
theorem nominees_at {l : List Hd} {f : Hd → Hd} (hf : KeepF f) (hv : validB l = true) (hp : ∀ h ∈ l, properB h = true → properB (f h) = true) (hn : ∀ h ∈ l, ∀ x ∈ namesH (f h), x ∈ namesH h) (hw : ∀ h ∈ l, whoC (f h) = whoC h) {d : Int} (hd : dayB d = true) :
  (atS l d).capital.length = (atS (l.map f) d).capital.length ∧ ∀ (i : Nat) (h1 : i < (atS l d).capital.length) (h2 : i < (atS (l.map f) d).capital.length), SameL (atS l d).parties (atS (l.map f) d).parties (atS l d).capital[i] (atS (l.map f) d).capital[i] := by
 have hvm := valid_keep hf hv hp hn
 have hsub := parties_keep hn
 have main := nominees hf hv hp hn hw d
 have hpr := (valid_all hvm).1
 have hU : ∀ p ∈ lnkU (capK (ixS (partiesS (l.map f))) d (l.map f)), ∃ c ∈ partiesS (l.map f), ∃ x ∈ partiesS (l.map f), p.1 = (ixS (partiesS (l.map f)) c, ixS (partiesS (l.map f)) x) := fun p hp => by
  unfold lnkU at hp
  obtain ⟨k, hk, rfl⟩ := List.mem_map.1 hp
  have hk := sortK_mem.1 hk
  rw [capK_mem] at hk
  obtain ⟨g, hg, _, x, hx, h3⟩ := hk
  unfold giveC at h3
  simp only [decide_eq_true_eq] at h3
  exact ⟨g.company, mem_partiesS.2 ⟨g, hg, by unfold namesH; exact List.mem_cons_self ..⟩, x, mem_partiesS.2 ⟨g, hg, whoC_names (hpr g hg) hx⟩, h3.2.2.symm⟩
 have sl := same_lists hsub hU
 have e1 : (atS l d).capital = ((lnkU (capK (ixS (partiesS (l.map f))) d (l.map f))).map fun p => (phi2 (partiesS l) (partiesS (l.map f)) p.1, p.2)).map lkU := by
  unfold atS
  rw [hv, hd]
  simp only [Bool.and_self, if_true]
  rw [lnkS_eq, main]
 have e2 : (atS (l.map f) d).capital = (lnkU (capK (ixS (partiesS (l.map f))) d (l.map f))).map lkU := by
  unfold atS
  rw [hvm, hd]
  simp only [Bool.and_self, if_true]
  rw [lnkS_eq]
 have p1 : (atS l d).parties = partiesS l := by unfold atS; rw [hv, hd]; rfl
 have p2 : (atS (l.map f) d).parties = partiesS (l.map f) := by unfold atS; rw [hvm, hd]; rfl
 generalize atS l d = S1 at *
 generalize atS (l.map f) d = S2 at *
 obtain ⟨a1, b1, c1⟩ := S1
 obtain ⟨a2, b2, c2⟩ := S2
 simp only at e1 e2 p1 p2 ⊢
 subst e1 e2 p1 p2
 exact sl
/-- the law's own change -/
def nomF (id : ByteArray) (h : Hd) : Hd := if h.id = id then nomH h else h
theorem nomF_keep (id : ByteArray) : KeepF (nomF id) := by
 constructor <;> intro h <;> unfold nomF <;> split <;> rfl
theorem set_map {l : List Hd} (hn : (l.map Hd.id).Nodup) {k : Nat} (hk : k < l.length) : l.set k (nomH l[k]) = l.map (nomF l[k].id) := by
 refine List.ext_getElem (by simp) fun i h1 h2 => ?_
 simp only [List.length_set] at h1
 rw [List.getElem_set, List.getElem_map]
 unfold nomF
 by_cases e : k = i
 ·subst e; simp
 ·rw [if_neg e, if_neg]
  intro e2
  have hp := List.pairwise_iff_getElem.1 hn
  rcases Nat.lt_or_gt_of_ne e with h | h
  ·exact hp k i (by simpa using hk) (by simpa using h1) h (by rw [List.getElem_map, List.getElem_map]; exact e2.symm)
  ·exact hp i k (by simpa using h1) (by simpa using hk) h (by rw [List.getElem_map, List.getElem_map]; exact e2)
theorem nom_at {l : List Hd} (hv : validB l = true) {k : Nat} (hk : k < l.length) {d : Int} (hd : dayB d = true) : validB (l.set k (nomH l[k])) = true ∧ (atS l d).capital.length = (atS (l.set k (nomH l[k])) d).capital.length ∧ ∀ (i : Nat) (h1 : i < (atS l d).capital.length) (h2 : i < (atS (l.set k (nomH l[k])) d).capital.length), SameL (atS l d).parties (atS (l.set k (nomH l[k])) d).parties (atS l d).capital[i] (atS (l.set k (nomH l[k])) d).capital[i] := by
 have hn := valid_ids hv
 rw [set_map hn hk]
 have hp := (valid_all hv).1
 have h1 : ∀ h ∈ l, properB h = true → properB (nomF l[k].id h) = true := fun h hh hq => by
  unfold nomF; split
  ·exact proper_nom hq
  ·exact hq
 have h2 : ∀ h ∈ l, ∀ x ∈ namesH (nomF l[k].id h), x ∈ namesH h := fun h hh x hx => by
  unfold nomF at hx; split at hx
  ·exact names_nom hx
  ·exact hx
 have h3 : ∀ h ∈ l, whoC (nomF l[k].id h) = whoC h := fun h hh => by
  unfold nomF; split
  ·exact who_nom (hp h hh)
  ·rfl
 exact ⟨valid_keep (nomF_keep _) hv h1 h2, nominees_at (nomF_keep _) hv h1 h2 h3 hd⟩
end Rg
end Go.Proofs.YtdekcppfpgeneaaGreatDoor
