/- word.Next: contract; and what a []byte made of a string reads as while it is written. -/
import Derived.Test.YtjkajepkeepelaaHCheck
import Derived.Test.YtjkajepkeepelaaWMore
import Derived.Outline
set_option linter.unusedVariables false
set_option linter.unusedSimpArgs false
namespace Go.Proofs.Ytjkajepkeepelaa.HNext
open Go.RowKit Go.Proofs.YtjkajepkeepelaaW.PrintWords Go.Proofs.YtjkajepkeepelaaW.PrintLast Go.Proofs.YtjkajepkeepelaaW.PrintMore
open Go.Proofs.Ytjkajepkeepelaa Go.Proofs.Ytjkajepkeepelaa.HCheck

theorem info5 : (Try.prog.info? 5).map (fun i => (i.zero, i.size, i.bytes)) = some (some (.int .u8 0), 1, 1) := by kernel_rfl

/-- A row of bytes of the call's own (made of a string), block g, capacity c. -/
structure BRow (w : World) (g c : Nat) (xs : List Int) : Prop where
  len : xs.length ≤ c
  cell : ∀ j : Nat, j < xs.length → w.cell? ⟨g, j, none⟩ = some (.int .u8 (rd xs (j : Int)))
  room : ∀ j : Nat, j < c → (w.cell? ⟨g, j, none⟩).isSome = true
  free : ∀ j : Nat, j < c → w.frozen? ⟨g, j, none⟩ = false

theorem BRow.set {w : World} {g c : Nat} {xs : List Int} (h : BRow w g c xs) (i : Nat) (hi : i < xs.length) (v : Int) : BRow (w.setCell ⟨g, i, none⟩ (.int .u8 v)) g c (xs.set i v) := by
  have hl := h.len
  have hs := h.room i (by omega)
  refine ⟨by simpa using h.len, fun j hj => ?_, fun j hj => ?_, fun j hj => ?_⟩
  · simp only [List.length_set] at hj
    by_cases e : j = i
    · subst e
      rw [World.cell?_setCell_same' _ _ _ hs]
      simp [rd, List.getD_eq_getElem?_getD, List.getElem?_set, hi]
    · rw [World.cell?_setCell_other _ _ _ _ (fun h => e (congrArg Addr.off h).symm), h.cell j hj]
      simp [rd, List.getD_eq_getElem?_getD, List.getElem?_set, Ne.symm e]
  · by_cases e : j = i
    · subst e
      rw [World.cell?_setCell_same' _ _ _ hs]
      rfl
    · rw [World.cell?_setCell_other _ _ _ _ (fun h => e (congrArg Addr.off h).symm)]
      exact h.room j hj
  · rw [World.frozen?_setCell]
    exact h.free j hj

theorem BRow.reads {w : World} {g c : Nat} {xs : List Int} (h : BRow w g c xs) (hb : xs.length ≤ 140737488355328) : ReadsInt w .u8 (some ⟨g, 0, none⟩) xs.length xs :=
  ⟨rfl, by omega, fun _ => ⟨_, rfl, fun j hj => by rw [add_plain]; have := h.cell j hj; simpa [rd] using this⟩⟩

theorem BRow.below {w w' : World} {g c : Nat} {xs : List Int} {B : Nat} (h : BRow w g c xs) (hb : Below B w w') (hg : g < B) : BRow w' g c xs :=
  ⟨h.len, fun j hj => by rw [hb.cell hg]; exact h.cell j hj, fun j hj => by rw [hb.cell hg]; exact h.room j hj, fun j hj => by rw [hb.frozen hg]; exact h.free j hj⟩

theorem BRow.alloc {w : World} {g c : Nat} {xs : List Int} (h : BRow w g c xs) (hg : g < w.heap.size) (o : Obj) : BRow (w.alloc o) g c xs :=
  h.below ((Below.refl w.heap.size w).alloc (Nat.le_refl _) o) hg

theorem brow_made (w : World) (s : ByteArray) : BRow (Lib.bytesWorld w 5 s) w.heap.size (grownCap w s.size 0 5) (bytesOf s) := by
  have hge := grownCap_ge w s.size 0 5
  have hsz : (Lib.bytesCells w 5 s).size = grownCap w s.size 0 5 := by
    simp [Lib.bytesCells]
    omega
  refine ⟨by rw [bytesOf_length]; exact hge, fun j hj => ?_, fun j hj => ?_, fun j hj => ?_⟩
  · rw [bytesOf_length] at hj
    rw [Lib.bytesWorld_cell w _ s j hj]
    simp [rd, bytesOf, List.getD_eq_getElem?_getD, hj]
  · simp only [World.cell?, Lib.bytesWorld_at_new]
    rw [Array.getElem?_eq_getElem (by omega)]
    rfl
  · simp only [World.frozen?, Lib.bytesWorld_at_new, hsz]
    simp
    omega

theorem below_bytes (w : World) (s : ByteArray) : Below w.heap.size w (Lib.bytesWorld w 5 s) :=
  ⟨by simp [Lib.bytesWorld, World.freeze, World.alloc, World.drew, -World.alloc_eq, -World.drew_eq], by simp [Lib.bytesWorld, World.freeze, World.alloc, World.drew, -World.alloc_eq, -World.drew_eq], by simp [Lib.bytesWorld, World.freeze, World.alloc, World.drew, -World.alloc_eq, -World.drew_eq], by rw [Lib.bytesWorld_size]; omega, fun k hk => Lib.bytesWorld_at_old w _ s k hk⟩

/-- The carry: from place i - 1 down. -/
def carry (last : Int) : List Int → Nat → List Int × Int
  | xs, 0 => (xs, -1)
  | xs, i + 1 => if rd xs (i : Int) = last then carry last (xs.set i 97) i else (xs, (i : Int))
def nxt (last : Int) (xs : List Int) : List Int :=
  let r := carry last xs xs.length
  if 0 ≤ r.2 then r.1.set r.2.toNat ((rd r.1 r.2 + 1) % 256) else r.1 ++ [97]
theorem carry_len (last : Int) : ∀ (i : Nat) (xs : List Int), (carry last xs i).1.length = xs.length ∧ -1 ≤ (carry last xs i).2 ∧ (carry last xs i).2 < i
  | 0, xs => by simp [carry]
  | i + 1, xs => by
    simp only [carry]
    split
    · have := carry_len last i (xs.set i 97)
      simp only [List.length_set] at this
      exact ⟨this.1, this.2.1, by omega⟩
    · exact ⟨rfl, by omega, by omega⟩

theorem brow_old {w : World} {g c : Nat} {xs : List Int} (h : BRow w g c xs) (hg : g < w.heap.size) {o : Obj} : ∀ (j : Nat) u, (nums .u8 xs)[j]? = some u → (w.alloc o).cell? ⟨g, 0 + j, none⟩ = some u := by
  intro j u hj
  rw [Nat.zero_add, (h.alloc hg o).cell j ?_]
  · simp only [nums, List.getElem?_map, Option.map_eq_some_iff] at hj
    obtain ⟨y, hy, rfl⟩ := hj
    simp [rd, List.getD_eq_getElem?_getD, hy]
  · have := (List.getElem?_eq_some_iff.1 hj).1
    rwa [nums_length] at this
theorem brow_spare {w : World} {g c n : Nat} {xs : List Int} (h : BRow w g c xs) (hg : g < w.heap.size) {o : Obj} (hn : xs.length = n) (hr : n + 1 ≤ c) {j : Nat} (hj : j < [Value.int .u8 97].length) :
    ((w.alloc o).cell? ⟨g, 0 + n * 1 + j, none⟩).isSome = true ∧ (w.alloc o).frozen? ⟨g, 0 + n * 1 + j, none⟩ = false := by
  simp only [List.length_singleton] at hj
  have e : 0 + n * 1 + j = n := by omega
  rw [e]
  exact ⟨(h.alloc hg o).room n (by omega), (h.alloc hg o).free n (by omega)⟩
/-- What an append leaves: the bytes and one more. -/
structure App (w w' : World) (A : Option Addr) (n : Nat) (xs : List Int) : Prop where
  r : ReadsInt w' .u8 A (n + 1) (xs ++ [97])
  b : Below w.heap.size w w'
theorem brow_room {w wr : World} {g c n : Nat} {xs : List Int} (h : BRow wr g c xs) (hg : g < wr.heap.size) {o : Obj} (hn : xs.length = n) (hr : n + 1 ≤ c) (hb : Below w.heap.size w wr) (hle : w.heap.size ≤ g) (hbig : n + 1 ≤ 9223372036854775807) :
    App w ((wr.alloc o).setCells g (0 + n * 1) [.int .u8 97]) (some ⟨g, 0, none⟩) n xs := by
  have e : 0 + n * 1 = n := by omega
  rw [e]
  have hB := h.alloc hg o
  refine ⟨⟨by simp [hn], hbig, fun _ => ⟨_, rfl, fun j hj => ?_⟩⟩, (hb.alloc hb.size o).setCell hle _⟩
  rw [add_plain]
  show ((wr.alloc o).setCell ⟨g, n, none⟩ (.int .u8 97)).cell? ⟨g, j, none⟩ = _
  by_cases ej : j = n
  · subst ej
    rw [World.cell?_setCell_same' _ _ _ (hB.room j (by omega))]
    simp [List.getD_eq_getElem?_getD, ← hn]
  · rw [World.cell?_setCell_other _ _ _ _ (fun h => ej (congrArg Addr.off h).symm), hB.cell j (by omega)]
    simp [rd, List.getD_eq_getElem?_getD, List.getElem?_append, show j < xs.length by omega]
theorem brow_grow {w wr w' : World} {n : Nat} {xs : List Int} {v' : Value} {o : Obj} {e : TypeId} (hown : w'.ownsRow (wr.alloc o).heap.size e 1 v' (n + 1) (nums .u8 xs ++ [.int .u8 97])) (hg : (wr.alloc o).grownBy w' none) (hb : Below w.heap.size w wr) :
    ∃ A cap, v' = .slice A (n + 1) cap ∧ App w w' A n xs := by
  have e1 : nums .u8 xs ++ [Value.int .u8 97] = nums .u8 (xs ++ [97]) := by simp [nums]
  rw [e1] at hown
  obtain ⟨A, cap, rfl, hr⟩ := own_reads hown
  exact ⟨A, cap, rfl, hr, (hb.alloc hb.size o).grown hg (by have := hb.size; simp; omega) (fun k hk => by cases hk)⟩

def f (k : Int) (s : ByteArray) : Option (ByteArray × Int) :=
  if chk k s = 0 then (if (nxt (97 + k - 1) (bytesOf s)).length > 4096 then some (⟨#[]⟩, 6) else some (strOfNums (nxt (97 + k - 1) (bytesOf s)), 0)) else some (⟨#[]⟩, chk k s)

theorem bad (k : Int) (s : ByteArray) (w : World) (hc : chk k s ≠ 0) :
    Calls Try.prog 32 #[.int .i64 k, .string s] w fun e w' => e = .returned (.tuple #[.string ⟨#[]⟩, .int .i64 (chk k s)]) ∧ Below w.heap.size w w' := by
  have hn : (chk k s != 0) = true := bne_iff_ne.2 hc
  have hn2 : (chk k s == 0) = false := beq_eq_false_iff_ne.2 hc
  clear hc
  go_enter Try.func32, Try.ntmps32
  go_wp2_with fail
  refine (HCheck.calls _ _ _).mono ?_
  rintro e w1 ⟨rfl, hb1⟩
  have HB1 := Lib.hid hb1
  clear hb1
  go_wp2_with fail
  go_ret2
  exact ⟨rfl, HB1.out⟩

set_option maxHeartbeats 1000000 in
set_option maxRecDepth 100000 in
theorem good (k : Int) (s : ByteArray) (w : World) (hc : chk k s = 0) (hk1 : 1 ≤ k) (hk2 : k ≤ 8) (hs : s.size ≤ 140737488351232) (r1 : ByteArray) (r2 : Int) (hr : f k s = some (r1, r2)) :
    Calls Try.prog 32 #[.int .i64 k, .string s] w fun e w' => e = .returned (.tuple #[.string r1, .int .i64 r2]) ∧ Below w.heap.size w w' := by
  have HC := Lib.hid hc
  have HRR := Lib.hid hr
  have hl := bytesOf_length s
  have HL := Lib.hid hl
  clear hc hr hl
  have hcv := fun (w : World) => Lib.run_convert_string_bytes (P := Try.prog) w 9 64 5 s Try.underlying9 Try.underlying64 Try.underlying5
  go_enter Try.func32, Try.ntmps32
  go_wp2_with fail
  refine (HCheck.calls _ _ _).mono ?_
  rintro e w1 ⟨rfl, hb1⟩
  rw [HC.out]
  have HW2 := Lib.hid (And.intro (brow_made w1 s) (hb1.trans ((below_bytes w1 s).mono hb1.size)))
  have hz := Lib.bytesWorld_size w1 5 s
  have hle := hb1.size
  have hcv1 := hcv w1
  obtain ⟨W2, hW2⟩ : ∃ W, Lib.bytesWorld w1 5 s = W := ⟨_, rfl⟩
  obtain ⟨c, hcc⟩ : ∃ c, grownCap w1 s.size 0 5 = c := ⟨_, rfl⟩
  rw [hW2, hcc] at hcv1
  rw [hW2, hcc] at HW2
  rw [hW2] at hz
  have HZ := Lib.hid hz
  have hz2 : w1.heap.size < W2.heap.size := by omega
  clear hW2 hcc hcv hb1 hz
  go_wp2_with fail
  go_loopw [9] (fun i wr => ∃ (x : Int) (xs : List Int), i = .int .i64 x ∧ -1 ≤ x ∧ x < (s.size : Int) ∧ Hid (xs.length = s.size) ∧ Hid (BRow wr w1.heap.size c xs) ∧ Hid (Below w.heap.size w wr) ∧ W2.heap.size ≤ wr.heap.size ∧ Hid (carry (97 + k - 1) xs (x + 1).toNat = carry (97 + k - 1) (bytesOf s) s.size)) (fun i wr => (intOf i + 1).toNat)
  case atStart => exact ⟨_, bytesOf s, rfl, by omega, by omega, HL.out, HW2.out.1, HW2.out.2, by omega, by rw [show ((s.size : Int) - 1 + 1).toNat = s.size by omega]; rfl⟩
  case round =>
    obtain ⟨x, xs, rfl, hx1, hx2, HXL, HBR, HBL, hwz, HCA⟩ := hrel
    by_cases hx : 0 ≤ x
    · obtain ⟨j, rfl⟩ := Int.eq_ofNat_of_zero_le hx
      have hj : j < s.size := by omega
      have hcell := HBR.out.cell j (by rw [HXL.out]; exact hj)
      have hfr := HBR.out.free j (by have := HBR.out.len; rw [HXL.out] at this; omega)
      have HS : Hid (carry (97 + k - 1) xs (j + 1) = if rd xs (j : Int) = 97 + k - 1 then carry (97 + k - 1) (xs.set j 97) j else (xs, (j : Int))) := rfl
      by_cases he : rd xs (j : Int) = 97 + k - 1
      · have HS2 : Hid (carry (97 + k - 1) (xs.set j 97) j = carry (97 + k - 1) (bytesOf s) s.size) := by
          have := HCA.out
          rw [show ((j : Int) + 1).toNat = j + 1 by omega, HS.out, if_pos he] at this
          exact this
        have he2 : (rd xs (j : Int) == 97 + k - 1) = true := beq_iff_eq.2 he
        rw [he] at hcell
        clear he he2
        go_wp2_with fail
        go_roundw
        case rel =>
          exact ⟨_, xs.set j 97, rfl, by omega, by omega, by simpa [Hid] using HXL.out, HBR.out.set j (by rw [HXL.out]; exact hj) 97, HBL.out.setCell (by show w.heap.size ≤ w1.heap.size; exact hle) _, by simpa [World.setCell] using hwz, by rw [show ((j : Int) - 1 + 1).toNat = j by omega]; exact HS2.out⟩
        case measure => simp [intOf]
      · have HS2 : Hid (nxt (97 + k - 1) (bytesOf s) = xs.set j ((rd xs (j : Int) + 1) % 256)) := by
          have := HCA.out
          rw [show ((j : Int) + 1).toNat = j + 1 by omega, HS.out, if_neg he] at this
          unfold nxt
          rw [HL.out, ← this]
          simp [Hid]
        have he2 : (rd xs (j : Int) == 97 + k - 1) = false := beq_eq_false_iff_ne.2 he
        have HBR2 := Lib.hid (HBR.out.set j (by rw [HXL.out]; exact hj) ((rd xs (j : Int) + 1) % 256))
        have HBL2 : Hid (Below w.heap.size w (wr.setCell ⟨w1.heap.size, j, none⟩ (.int .u8 ((rd xs (j : Int) + 1) % 256)))) := HBL.out.setCell (by show w.heap.size ≤ w1.heap.size; exact hle) _
        have hcv9 := string_of_reads (P := Try.prog) (c := c) Try.underlying64 Try.underlying5 Try.underlying9 (HBR2.out.reads (by simp only [List.length_set]; rw [HXL.out]; omega))
        rw [List.length_set, HXL.out] at hcv9
        generalize rd xs (j : Int) = q at *
        clear he
        by_cases hbig : s.size > 4096
        · have HR : Hid (r1 = ⟨#[]⟩ ∧ r2 = 6) := by
            have := HRR.out
            unfold f at this
            rw [if_pos HC.out, HS2.out, if_pos (by rw [List.length_set, HXL.out]; exact hbig)] at this
            obtain ⟨h1, h2⟩ := Prod.mk.inj (Option.some.inj this)
            exact ⟨h1.symm, h2.symm⟩
          go_wp2_with fail
          go_ret2
          rw [HR.out.1, HR.out.2]
          exact ⟨rfl, HBL2.out⟩
        · have HR : Hid (r1 = strOfNums (xs.set j ((q + 1) % 256)) ∧ r2 = 0) := by
            have := HRR.out
            unfold f at this
            rw [if_pos HC.out, HS2.out, if_neg (by rw [List.length_set, HXL.out]; exact hbig)] at this
            obtain ⟨h1, h2⟩ := Prod.mk.inj (Option.some.inj this)
            exact ⟨h1.symm, h2.symm⟩
          go_wp2_with fail
          go_ret2
          rw [HR.out.1, HR.out.2]
          exact ⟨rfl, HBL2.out⟩
    · have hx3 : x = -1 := by omega
      subst hx3
      have HS2 : Hid (nxt (97 + k - 1) (bytesOf s) = xs ++ [97]) := by
        have := HCA.out
        rw [show ((-1 : Int) + 1).toNat = 0 from rfl] at this
        simp only [carry] at this
        unfold nxt
        rw [HL.out, ← this]
        simp [Hid]
      have HRb : Hid (4096 < (s.size : Int) + 1 → r1 = ⟨#[]⟩ ∧ r2 = 6) := fun hb => by
        have := HRR.out
        unfold f at this
        rw [if_pos HC.out, HS2.out, if_pos (by rw [List.length_append, HXL.out]; simp; omega)] at this
        obtain ⟨h1, h2⟩ := Prod.mk.inj (Option.some.inj this)
        exact ⟨h1.symm, h2.symm⟩
      have HRg : Hid (¬ 4096 < (s.size : Int) + 1 → r1 = strOfNums (xs ++ [97]) ∧ r2 = 0) := fun hb => by
        have := HRR.out
        unfold f at this
        rw [if_pos HC.out, HS2.out, if_neg (by rw [List.length_append, HXL.out]; simp; omega)] at this
        obtain ⟨h1, h2⟩ := Prod.mk.inj (Option.some.inj this)
        exact ⟨h1.symm, h2.symm⟩
      obtain ⟨i0, hi, hzz⟩ := Option.map_eq_some_iff.1 info5
      simp only [Prod.mk.injEq] at hzz
      obtain ⟨hz0, hz1, hz2⟩ := hzz
      have HI := Lib.hid (And.intro hi (And.intro hz0 (And.intro hz1 hz2)))
      clear hi hz0 hz1 hz2
      have hcb : w1.heap.size < wr.heap.size := by omega
      go_wp2_with (first | ((with_reducible refine gate_builtin (b := .append) (xs := #[.tmp 48, .tmp 49]) rfl ?_); at_builtin; refine wpList_append_arg (wr.alloc (.cells #[.int .u8 97] 5)) rfl (.tmp 48) (.tmp 49) 64 rfl 5 i0 (.int .u8 0) 1 1 Try.underlying64 HI.out.1 HI.out.2.1 HI.out.2.2.1 HI.out.2.2.2 rfl (by decide) w1.heap.size 0 s.size c (nums .u8 xs) rfl ?lo ?holds ⟨wr.heap.size, 0, none⟩ 1 1 [.int .u8 97] rfl rfl ?hc ?h1 ?spare ?b1 ?b2 ?room ?grow; (case lo => rw [nums_length, HXL.out]; omega); (case holds => exact brow_old HBR.out hcb); (case hc => exact cell_one_new _ _ _); (case h1 => exact (by simp [Value.oneCell'])); (case spare => exact fun hr j hj => brow_spare HBR.out hcb HXL.out hr hj); (case b1 => simp only [maxLen]; omega); (case b2 => omega); (case' room => intro hr; have hQ := brow_room (o := .cells #[.int .u8 97] 5) HBR.out hcb HXL.out hr HBL.out hle (by omega); obtain ⟨WR, hWR⟩ : ∃ WR : World, World.setCells (wr.alloc (.cells #[.int .u8 97] 5)) w1.heap.size (0 + s.size * 1) [.int .u8 97] = WR := ⟨_, rfl⟩; rw [hWR] at hQ ⊢; clear hWR; have hcv9 := string_of_reads (P := Try.prog) (c := c) Try.underlying64 Try.underlying5 Try.underlying9 hQ.r; have HQB := Lib.hid hQ.b; clear hQ); (case' grow => intro hr v' w' hown hg; obtain ⟨A9, c9, rfl, hQ⟩ := brow_grow hown hg HBL.out; have hcv9 := string_of_reads (P := Try.prog) (c := c9) Try.underlying64 Try.underlying5 Try.underlying9 hQ.r; have HQB := Lib.hid hQ.b; clear hQ hown hg)))
      all_goals go_ret2
      all_goals first | (obtain ⟨e1, e2⟩ := HRb.out (by omega); rw [e1, e2]; exact ⟨rfl, HQB.out⟩) | (obtain ⟨e1, e2⟩ := HRg.out (by omega); rw [e1, e2]; exact ⟨rfl, HQB.out⟩)

theorem chk_k {k : Int} {s : ByteArray} (h : chk k s = 0) : 1 ≤ k ∧ k ≤ 8 := by
  unfold chk at h
  by_cases hk : k < 1 ∨ 8 < k
  · rw [if_pos hk] at h; cases h
  · omega
/-- With the bound on what came in. -/
def g (k : Int) (s : ByteArray) : Option (ByteArray × Int) := if s.size ≤ 140737488351232 then f k s else none
theorem all (k : Int) (s : ByteArray) (r1 : ByteArray) (r2 : Int) (w : World) (h : g k s = some (r1, r2)) :
    Calls Try.prog 32 #[.int .i64 k, .string s] w fun e w' => e = .returned (.tuple #[.string r1, .int .i64 r2]) ∧ Below w.heap.size w w' := by
  unfold g at h
  by_cases hs : s.size ≤ 140737488351232
  · rw [if_pos hs] at h
    by_cases hc : chk k s = 0
    · exact good k s w hc (chk_k hc).1 (chk_k hc).2 hs r1 r2 h
    · unfold f at h
      rw [if_neg hc] at h
      obtain ⟨rfl, rfl⟩ := Prod.mk.inj (Option.some.inj h)
      exact bad k s w hc
  · rw [if_neg hs] at h
    cases h
end Go.Proofs.Ytjkajepkeepelaa.HNext
