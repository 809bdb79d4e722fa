import Derived.Test.YtpogffdbencfnaaGreatDoorSlRf
set_option linter.unusedVariables false
namespace Go.Proofs.YtpogffdbencfnaaGreatDoor
open Go Go.RowKit

/-- a block that is known whole -/
def RowIs (b : Nat) (cs : Array Value) (T : TypeId) (w : World) : Prop := b < w.heap.size ∧ w.heap[b]? = some (.cells cs T (0, 0))
theorem RowIs.on {b : Nat} {cs : Array Value} {T : TypeId} {w w' : World} (h : RowIs b cs T w) (hb : Below w.heap.size w w') : RowIs b cs T w' := ⟨Nat.lt_of_lt_of_le h.1 hb.size, (hb.block b h.1).trans h.2⟩
theorem RowIs.cell {b : Nat} {cs : Array Value} {T : TypeId} {w : World} (h : RowIs b cs T w) (k : Nat) : w.cell? ⟨b, k, none⟩ = cs[k]? := by rw [cell_of_row w b k _ _ _ h.2]
theorem RowIs.fr {b : Nat} {cs : Array Value} {T : TypeId} {w : World} (h : RowIs b cs T w) (o : Nat) : w.frozen? ⟨b, o, none⟩ = false := by simp [World.frozen?, h.2]
theorem RowIs.new (w : World) (cs : Array Value) (T : TypeId) : RowIs w.heap.size cs T (w.alloc (.cells cs T)) := ⟨by simp, World.alloc_heap_new _ _⟩
theorem below_new {b0 : World} {w : World} (h : Below b0.heap.size b0 w) (o : Obj) : Below b0.heap.size b0 (w.alloc o) := h.alloc h.size o
def HeadPost (w : World) (e : Ending) (w' : World) : Prop := e = .returned (.bool true) ∧ Below w.heap.size w w'
def sSecret : ByteArray := { data := #[115, 101, 99, 114, 101, 116] }
def sMessage : ByteArray := { data := #[109, 101, 115, 115, 97, 103, 101] }
theorem strc_at {w : World} {v : Value} {l : List ByteArray} (h : IsStrC w v l) (h0 : 0 < l.length) : ∃ b o cap, v = .slice (some ⟨b, o, none⟩) l.length cap ∧ l.length ≤ cap ∧ cap ≤ 9223372036854775807 ∧ b < w.heap.size := by
  obtain ⟨ao, cap, e, h1, h2, h3⟩ := h
  obtain ⟨b, o, rfl, hlt, _⟩ := h3 0 h0
  exact ⟨b, o, cap, e, h1, h2, hlt⟩
theorem pathT_sizes (l : List ByteArray) (i : Nat) : ∀ s ∈ pathT l i, s.size ≤ 1099511627776 := fun s hs => by
  have := isS_size (List.all_eq_true.1 (path_isS l i) s hs); omega
theorem sigT_sizes (secret : ByteArray) (i : Nat) (m : ByteArray) : ∀ s ∈ sigT secret i m, s.size ≤ 1099511627776 := fun s hs => by
  unfold sigT at hs
  obtain ⟨k, _, rfl⟩ := List.mem_map.1 hs
  rw [chain16 (startT_size _ _ _)]; omega
theorem hd_short {pub m : ByteArray} {sig path : List ByteArray} (h : path.length = 2) : verT pub m 3 sig (path.take 1) = false := ver_no (by rw [List.length_take, h]; simp)
theorem hd_again {pub m : ByteArray} {idx : Int} {sig path : List ByteArray} (h : sig.length = 18) : verT pub m idx (sig.drop 1) path = false := ver_no (by rw [List.length_drop, h]; simp)
theorem hd_none {m : ByteArray} {idx : Int} {sig path : List ByteArray} : verT { data := #[] } m idx sig path = false := by
  cases h : verT { data := #[] } m idx sig path with
  | false => rfl
  | true => have := isS_size (ver_root h); simp [ByteArray.size] at this

set_option maxRecDepth 100000 in
set_option maxHeartbeats 4000000 in
theorem head_calls (w : World) (hT : Tabs w) : Calls Tryz.prog 7 #[] w (HeadPost w) := by
  have HT := Lib.hid hT
  have HOWN : Hid (verT (pubT sSecret 2) sMessage 3 (sigT sSecret 3 sMessage) (pathT (keysT sSecret 2) 3) = true) := Lib.hid (ver_own sSecret 2 3 sMessage (by decide) (by decide))
  have HPL : Hid ((pathT (keysT sSecret 2) 3).length = 2) := Lib.hid (by rw [path_length, keysT_len, lenT_pow 2 3 (by decide)])
  have HSL := Lib.hid (sigT_len sSecret 3 sMessage)
  have HPZ := Lib.hid (pathT_sizes (keysT sSecret 2) 3)
  have HSZ := Lib.hid (sigT_sizes sSecret 3 sMessage)
  have HRS : Hid ((pubT sSecret 2).size = 16) := Lib.hid (root_size _)
  have HNO1 : Hid (verT (pubT sSecret 2) sMessage 3 (sigT sSecret 3 sMessage) ((pathT (keysT sSecret 2) 3).take 1) = false) := Lib.hid (hd_short HPL.out)
  have HNO2 : Hid (verT (pubT sSecret 2) sMessage 3 ((sigT sSecret 3 sMessage).drop 1) (pathT (keysT sSecret 2) 3) = false) := Lib.hid (hd_again HSL.out)
  have HNO3 : Hid (verT { data := #[] } sMessage 3 (sigT sSecret 3 sMessage) (pathT (keysT sSecret 2) 3) = false) := Lib.hid hd_none
  have HP2 : Hid (∀ W, Tabs W → Calls Tryz.prog 10 #[.string sSecret, .int .i64 2] W fun e w' => e = .returned (.tuple #[.string (pubT sSecret 2), .int .i64 0]) ∧ Below W.heap.size W w') := Lib.hid (fun W h => public_calls sSecret 2 W (by decide) (by decide) h)
  have HP9 := Lib.hid (fun W => public_bad sSecret 9 W (by decide))
  have HS2 : Hid (∀ W, Tabs W → Calls Tryz.prog 12 #[.string sSecret, .int .i64 2, .int .i64 3, .string sMessage] W fun e w' => ∃ vs vp, e = .returned (.tuple #[.agg #[.int .i64 3, vs, vp], .int .i64 0]) ∧
      IsStrC w' vs (sigT sSecret 3 sMessage) ∧ IsStrC w' vp (pathT (keysT sSecret 2) 3) ∧ Below W.heap.size W w') := Lib.hid (fun W h => sign_ok sSecret sMessage 2 3 W (by decide) (by decide) (by decide) (by decide) (by decide) h)
  have HS4 := Lib.hid (fun W => sign_bad sSecret sMessage 2 4 W (by decide))
  have HVER := Lib.hid (fun (pub : ByteArray) (vs vp : Value) (sig path : List ByteArray) (W : World) => verify_calls pub sMessage 3 vs vp sig path W)
  clear hT
  generalize hpub : pubT sSecret 2 = pub at *
  generalize hsig : sigT sSecret 3 sMessage = sig at *
  generalize hpath : pathT (keysT sSecret 2) 3 = path at *
  clear hpub hsig hpath
  go_enter Tryz.func7, Tryz.ntmps7

  have H0 : Hid (Below w.heap.size w w) := Lib.hid (Below.refl w.heap.size w)
  go_wp2_with fail
  refine (HP2.out w HT.out).mono ?_
  rintro e w1 ⟨rfl, hB⟩
  have H1 := Lib.hid (H0.out.trans (hB.mono H0.out.size))
  clear hB H0
  go_wp2_with fail
  refine (HP9.out w1).mono ?_
  rintro e w2 ⟨rfl, rfl⟩
  have H2 := Lib.hid H1.out
  clear  H1
  go_wp2_with fail
  refine (HS2.out w2 (HT.out.on H2.out)).mono ?_
  rintro e w3 ⟨vs, vp, rfl, hs, hp, hB⟩
  have H3 := Lib.hid (H2.out.trans (hB.mono H2.out.size))
  clear hB H2
  obtain ⟨bs, os, cs, rfl, hls, hms, hbs⟩ := strc_at hs (by rw [HSL.out]; decide)
  obtain ⟨bp, op, cp, rfl, hlp, hmp, hbp⟩ := strc_at hp (by rw [HPL.out]; decide)
  rw [HSL.out] at hs hls ⊢
  rw [HPL.out] at hp hlp ⊢
  have HVS3 := Lib.hid (hs)
  have HVP3 := Lib.hid (hp)
  clear hs hp hbs hbp
  go_wp2_with fail
  have hq : Below w3.heap.size w3 (w3.alloc (.cells #[.int .i64 3, .slice (some ⟨bs, os, none⟩) 18 cs, .slice (some ⟨bp, op, none⟩) 2 cp] 24)) := (Below.refl _ _).alloc (Nat.le_refl _) _
  have H4 := Lib.hid (H3.out.trans (hq.mono H3.out.size))
  have HVS4 := Lib.hid (HVS3.out.on hq)
  have HVP4 := Lib.hid (HVP3.out.on hq)
  have R54 := Lib.hid (RowIs.new w3 #[.int .i64 3, .slice (some ⟨bs, os, none⟩) 18 cs, .slice (some ⟨bp, op, none⟩) 2 cp] 24)
  obtain ⟨b5, hb5⟩ : ∃ b, b = w3.heap.size := ⟨_, rfl⟩
  rw [← hb5] at R54 ⊢
  have Z5 : Hid ((w3.alloc (.cells #[.int .i64 3, .slice (some ⟨bs, os, none⟩) 18 cs, .slice (some ⟨bp, op, none⟩) 2 cp] 24)).heap.size = b5 + 1) := Lib.hid (by rw [World.size_alloc, hb5])
  generalize hgw : w3.alloc (.cells #[.int .i64 3, .slice (some ⟨bs, os, none⟩) 18 cs, .slice (some ⟨bp, op, none⟩) 2 cp] 24) = w4 at *
  clear hq hgw hb5 H3 HVS3 HVP3
  refine (HS4.out w4).mono ?_
  rintro e w5 ⟨rfl, hB⟩
  have H5 := Lib.hid (H4.out.trans (hB.mono H4.out.size))
  have HVS5 := Lib.hid (HVS4.out.on hB)
  have HVP5 := Lib.hid (HVP4.out.on hB)
  have R55 := Lib.hid (R54.out.on hB)
  clear hB H4 HVS4 HVP4 R54
  have hsl1 := run_slice_to (b := bp) (o := op) (n := 2) (cap := cp) (k := 1) (by omega)
  have hsl2 := run_slice_from (b := bs) (o := os) (n := 18) (cap := cs) (k := 1) (by omega) (by omega) (by omega)
  have c50_1 : ∀ o0 : Obj, (w5.alloc o0).cell? ⟨b5, 0, none⟩ = some (.int .i64 3) := fun o0 => ((R55.out.on (below_new (Below.refl w5.heap.size w5) o0)).cell 0).trans rfl
  have c51_1 : ∀ o0 : Obj, (w5.alloc o0).cell? ⟨b5, 1, none⟩ = some (.slice (some ⟨bs, os, none⟩) 18 cs) := fun o0 => ((R55.out.on (below_new (Below.refl w5.heap.size w5) o0)).cell 1).trans rfl
  have c52_1 : ∀ o0 : Obj, (w5.alloc o0).cell? ⟨b5, 2, none⟩ = some (.slice (some ⟨bp, op, none⟩) 2 cp) := fun o0 => ((R55.out.on (below_new (Below.refl w5.heap.size w5) o0)).cell 2).trans rfl
  have c50_2 : ∀ o0 o1 : Obj, ((w5.alloc o0).alloc o1).cell? ⟨b5, 0, none⟩ = some (.int .i64 3) := fun o0 o1 => ((R55.out.on (below_new (below_new (Below.refl w5.heap.size w5) o0) o1)).cell 0).trans rfl
  have c51_2 : ∀ o0 o1 : Obj, ((w5.alloc o0).alloc o1).cell? ⟨b5, 1, none⟩ = some (.slice (some ⟨bs, os, none⟩) 18 cs) := fun o0 o1 => ((R55.out.on (below_new (below_new (Below.refl w5.heap.size w5) o0) o1)).cell 1).trans rfl
  have c52_2 : ∀ o0 o1 : Obj, ((w5.alloc o0).alloc o1).cell? ⟨b5, 2, none⟩ = some (.slice (some ⟨bp, op, none⟩) 2 cp) := fun o0 o1 => ((R55.out.on (below_new (below_new (Below.refl w5.heap.size w5) o0) o1)).cell 2).trans rfl
  have c50_3 : ∀ o0 o1 o2 : Obj, (((w5.alloc o0).alloc o1).alloc o2).cell? ⟨b5, 0, none⟩ = some (.int .i64 3) := fun o0 o1 o2 => ((R55.out.on (below_new (below_new (below_new (Below.refl w5.heap.size w5) o0) o1) o2)).cell 0).trans rfl
  have c51_3 : ∀ o0 o1 o2 : Obj, (((w5.alloc o0).alloc o1).alloc o2).cell? ⟨b5, 1, none⟩ = some (.slice (some ⟨bs, os, none⟩) 18 cs) := fun o0 o1 o2 => ((R55.out.on (below_new (below_new (below_new (Below.refl w5.heap.size w5) o0) o1) o2)).cell 1).trans rfl
  have c52_3 : ∀ o0 o1 o2 : Obj, (((w5.alloc o0).alloc o1).alloc o2).cell? ⟨b5, 2, none⟩ = some (.slice (some ⟨bp, op, none⟩) 2 cp) := fun o0 o1 o2 => ((R55.out.on (below_new (below_new (below_new (Below.refl w5.heap.size w5) o0) o1) o2)).cell 2).trans rfl
  go_wp2_with fail
  clear hsl1 hsl2
  clear c50_1 c51_1 c52_1 c50_2 c51_2 c52_2 c50_3 c51_3 c52_3
  have hq : Below w5.heap.size w5 (w5.alloc (.cells #[.int .i64 0, .slice none 0 0, .slice none 0 0] 24)) := (Below.refl _ _).alloc (Nat.le_refl _) _
  have H6 := Lib.hid (H5.out.trans (hq.mono H5.out.size))
  have HVS6 := Lib.hid (HVS5.out.on hq)
  have HVP6 := Lib.hid (HVP5.out.on hq)
  have R56 := Lib.hid (R55.out.on hq)
  have R76 := Lib.hid (RowIs.new w5 #[.int .i64 0, .slice none 0 0, .slice none 0 0] 24)
  obtain ⟨b7, hb7⟩ : ∃ b, b = w5.heap.size := ⟨_, rfl⟩
  rw [← hb7] at R76 ⊢
  have Z7 : Hid ((w5.alloc (.cells #[.int .i64 0, .slice none 0 0, .slice none 0 0] 24)).heap.size = b7 + 1) := Lib.hid (by rw [World.size_alloc, hb7])
  generalize hgw : w5.alloc (.cells #[.int .i64 0, .slice none 0 0, .slice none 0 0] 24) = w6 at *
  clear hq hgw hb7 H5 HVS5 HVP5 R55
  have hq : Below w6.heap.size w6 (w6.alloc (.cells #[.int .i64 3, .slice (some ⟨bs, os, none⟩) 18 cs, .slice (some ⟨bp, op, none⟩) 1 cp] 24)) := (Below.refl _ _).alloc (Nat.le_refl _) _
  have H7 := Lib.hid (H6.out.trans (hq.mono H6.out.size))
  have HVS7 := Lib.hid (HVS6.out.on hq)
  have HVP7 := Lib.hid (HVP6.out.on hq)
  have R57 := Lib.hid (R56.out.on hq)
  have R77 := Lib.hid (R76.out.on hq)
  have R97 := Lib.hid (RowIs.new w6 #[.int .i64 3, .slice (some ⟨bs, os, none⟩) 18 cs, .slice (some ⟨bp, op, none⟩) 1 cp] 24)
  rw [Z7.out] at R97
  obtain ⟨b9, hb9⟩ : ∃ b, b = b7 + 1 := ⟨_, rfl⟩
  rw [← hb9] at R97 ⊢
  have Z9 : Hid ((w6.alloc (.cells #[.int .i64 3, .slice (some ⟨bs, os, none⟩) 18 cs, .slice (some ⟨bp, op, none⟩) 1 cp] 24)).heap.size = b9 + 1) := Lib.hid (by rw [World.size_alloc, Z7.out, hb9])
  clear Z7
  generalize hgw : w6.alloc (.cells #[.int .i64 3, .slice (some ⟨bs, os, none⟩) 18 cs, .slice (some ⟨bp, op, none⟩) 1 cp] 24) = w7 at *
  clear hq hgw hb9 H6 HVS6 HVP6 R56 R76
  have hq : Below w7.heap.size w7 (w7.alloc (.cells #[.int .i64 3, .slice (some ⟨bs, os + 1, none⟩) 17 (cs - 1), .slice (some ⟨bp, op, none⟩) 2 cp] 24)) := (Below.refl _ _).alloc (Nat.le_refl _) _
  have H8 := Lib.hid (H7.out.trans (hq.mono H7.out.size))
  have HVS8 := Lib.hid (HVS7.out.on hq)
  have HVP8 := Lib.hid (HVP7.out.on hq)
  have R58 := Lib.hid (R57.out.on hq)
  have R78 := Lib.hid (R77.out.on hq)
  have R98 := Lib.hid (R97.out.on hq)
  have R108 := Lib.hid (RowIs.new w7 #[.int .i64 3, .slice (some ⟨bs, os + 1, none⟩) 17 (cs - 1), .slice (some ⟨bp, op, none⟩) 2 cp] 24)
  rw [Z9.out] at R108
  obtain ⟨b10, hb10⟩ : ∃ b, b = b9 + 1 := ⟨_, rfl⟩
  rw [← hb10] at R108 ⊢
  have Z10 : Hid ((w7.alloc (.cells #[.int .i64 3, .slice (some ⟨bs, os + 1, none⟩) 17 (cs - 1), .slice (some ⟨bp, op, none⟩) 2 cp] 24)).heap.size = b10 + 1) := Lib.hid (by rw [World.size_alloc, Z9.out, hb10])
  clear Z9
  generalize hgw : w7.alloc (.cells #[.int .i64 3, .slice (some ⟨bs, os + 1, none⟩) 17 (cs - 1), .slice (some ⟨bp, op, none⟩) 2 cp] 24) = w8 at *
  clear hq hgw hb10 H7 HVS7 HVP7 R57 R77 R97
  refine (HVER.out pub _ _ sig path w8 (by have := HRS.out; omega) (by decide) HVS8.out HVP8.out HSZ.out HPZ.out (HT.out.on H8.out)).mono ?_
  rintro e w9 ⟨rfl, hB⟩
  have H9 := Lib.hid (H8.out.trans (hB.mono H8.out.size))
  have HVS9 := Lib.hid (HVS8.out.on hB)
  have HVP9 := Lib.hid (HVP8.out.on hB)
  have R59 := Lib.hid (R58.out.on hB)
  have R79 := Lib.hid (R78.out.on hB)
  have R99 := Lib.hid (R98.out.on hB)
  have R109 := Lib.hid (R108.out.on hB)
  clear hB H8 HVS8 HVP8 R58 R78 R98 R108
  rw [HOWN.out]
  have c90 : w9.cell? ⟨b9, 0, none⟩ = some (.int .i64 3) := (R99.out.cell 0).trans rfl
  have c91 : w9.cell? ⟨b9, 1, none⟩ = some (.slice (some ⟨bs, os, none⟩) 18 cs) := (R99.out.cell 1).trans rfl
  have c92 : w9.cell? ⟨b9, 2, none⟩ = some (.slice (some ⟨bp, op, none⟩) 1 cp) := (R99.out.cell 2).trans rfl
  go_wp2_with fail
  refine (HVER.out pub _ _ sig (path.take 1) w9 (by have := HRS.out; omega) (by decide) HVS9.out (HVP9.out.take 1 (by decide)) HSZ.out (fun s hs => HPZ.out s (List.mem_of_mem_take hs)) (HT.out.on H9.out)).mono ?_
  rintro e w10 ⟨rfl, hB⟩
  clear c90 c91 c92
  have H10 := Lib.hid (H9.out.trans (hB.mono H9.out.size))
  have HVS10 := Lib.hid (HVS9.out.on hB)
  have HVP10 := Lib.hid (HVP9.out.on hB)
  have R510 := Lib.hid (R59.out.on hB)
  have R710 := Lib.hid (R79.out.on hB)
  have R910 := Lib.hid (R99.out.on hB)
  have R1010 := Lib.hid (R109.out.on hB)
  clear hB H9 HVS9 HVP9 R59 R79 R99 R109
  rw [HNO1.out]
  have c100 : w10.cell? ⟨b10, 0, none⟩ = some (.int .i64 3) := (R1010.out.cell 0).trans rfl
  have c101 : w10.cell? ⟨b10, 1, none⟩ = some (.slice (some ⟨bs, os + 1, none⟩) 17 (cs - 1)) := (R1010.out.cell 1).trans rfl
  have c102 : w10.cell? ⟨b10, 2, none⟩ = some (.slice (some ⟨bp, op, none⟩) 2 cp) := (R1010.out.cell 2).trans rfl
  go_wp2_with fail
  refine (HVER.out pub _ _ (sig.drop 1) path w10 (by have := HRS.out; omega) (by decide) (HVS10.out.drop 1 (by decide)) HVP10.out (fun s hs => HSZ.out s (List.mem_of_mem_drop hs)) HPZ.out (HT.out.on H10.out)).mono ?_
  rintro e w11 ⟨rfl, hB⟩
  clear c100 c101 c102
  have H11 := Lib.hid (H10.out.trans (hB.mono H10.out.size))
  have HVS11 := Lib.hid (HVS10.out.on hB)
  have HVP11 := Lib.hid (HVP10.out.on hB)
  have R511 := Lib.hid (R510.out.on hB)
  have R711 := Lib.hid (R710.out.on hB)
  have R911 := Lib.hid (R910.out.on hB)
  have R1011 := Lib.hid (R1010.out.on hB)
  clear hB H10 HVS10 HVP10 R510 R710 R910 R1010
  rw [HNO2.out]
  have c50 : w11.cell? ⟨b5, 0, none⟩ = some (.int .i64 3) := (R511.out.cell 0).trans rfl
  have c51 : w11.cell? ⟨b5, 1, none⟩ = some (.slice (some ⟨bs, os, none⟩) 18 cs) := (R511.out.cell 1).trans rfl
  have c52 : w11.cell? ⟨b5, 2, none⟩ = some (.slice (some ⟨bp, op, none⟩) 2 cp) := (R511.out.cell 2).trans rfl
  go_wp2_with fail
  refine (HVER.out { data := #[] } _ _ sig path w11 (by decide) (by decide) HVS11.out HVP11.out HSZ.out HPZ.out (HT.out.on H11.out)).mono ?_
  rintro e w12 ⟨rfl, hB⟩
  clear c50 c51 c52
  have H12 := Lib.hid (H11.out.trans (hB.mono H11.out.size))
  have HVS12 := Lib.hid (HVS11.out.on hB)
  have HVP12 := Lib.hid (HVP11.out.on hB)
  have R512 := Lib.hid (R511.out.on hB)
  have R712 := Lib.hid (R711.out.on hB)
  have R912 := Lib.hid (R911.out.on hB)
  have R1012 := Lib.hid (R1011.out.on hB)
  clear hB H11 HVS11 HVP11 R511 R711 R911 R1011
  rw [HNO3.out]
  go_wp2
  go_ret
  exact ⟨rfl, H12.out⟩
end Go.Proofs.YtpogffdbencfnaaGreatDoor
