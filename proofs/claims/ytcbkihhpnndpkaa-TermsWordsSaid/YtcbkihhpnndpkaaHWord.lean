/- terms.Word: contract. -/
import Derived.Test.YtcbkihhpnndpkaaHWordParts
import Derived.Test.YtcbkihhpnndpkaaHCheck
import Derived.Outline
set_option linter.unusedVariables false
set_option linter.unusedSimpArgs false
namespace Go.Proofs.Ytcbkihhpnndpkaa.HWord
open Go.RowKit Go.Proofs.YtcbkihhpnndpkaaW.PrintWords Go.Proofs.YtcbkihhpnndpkaaW.PrintLast Go.Proofs.YtcbkihhpnndpkaaW.PrintMore
open Go.Proofs.Ytcbkihhpnndpkaa Go.Proofs.Ytcbkihhpnndpkaa.PA Go.Proofs.Ytcbkihhpnndpkaa.HFoldText Go.Proofs.Ytcbkihhpnndpkaa.HRead Go.Proofs.Ytcbkihhpnndpkaa.HUsed Go.Proofs.Ytcbkihhpnndpkaa.HWordParts Go.Proofs.Ytcbkihhpnndpkaa.HSpell

def nmI (i : Int) : Int := ([120, 121, 122, 116] : List Int).getD i.toNat 0
def val (vs : List ByteArray) (i : Int) : ByteArray := rdOf ByteArray.empty vs i
/-- From the name i on: one that is held has no word. -/
def miss (l : List S97) (vs : List ByteArray) (i : Int) : Bool := (([0, 1, 2, 3] : List Int).drop i.toNat).any (fun j => has l (nmI j) && decide ((vs.length : Int) ≤ j))
theorem miss_step (l : List S97) (vs : List ByteArray) (i : Int) (h : i = 0 ∨ i = 1 ∨ i = 2 ∨ i = 3) : miss l vs i = ((has l (nmI i) && decide ((vs.length : Int) ≤ i)) || miss l vs (i + 1)) := by
 rcases h with rfl | rfl | rfl | rfl <;> rfl
/-- From the name i on: one that is held has a word of other letters. -/
def odd (k : Int) (l : List S97) (vs : List ByteArray) (i : Int) : Bool := (([0, 1, 2, 3] : List Int).drop i.toNat).any (fun j => has l (nmI j) && (HCheck.chk k (val vs j) != 0))
theorem odd_step (k : Int) (l : List S97) (vs : List ByteArray) (i : Int) (h : i = 0 ∨ i = 1 ∨ i = 2 ∨ i = 3) : odd k l vs i = ((has l (nmI i) && (HCheck.chk k (val vs i) != 0)) || odd k l vs (i + 1)) := by
 rcases h with rfl | rfl | rfl | rfl <;> rfl
theorem miss_lt {l : List S97} {vs : List ByteArray} (h : miss l vs 0 = false) (i : Int) (hi : i = 0 ∨ i = 1 ∨ i = 2 ∨ i = 3) (hx : has l (nmI i) = true) : i < (vs.length : Int) := by
 have h' : ∀ j ∈ ([0, 1, 2, 3] : List Int), ¬ ((has l (nmI j) && decide ((vs.length : Int) ≤ j)) = true) := List.any_eq_false.1 h
 have h2 := h' i (by rcases hi with rfl | rfl | rfl | rfl <;> simp)
 rw [hx] at h2
 simp at h2
 omega
def named (l : List S97) : Bool := l.all (fun s => !decide (s.f0 = 2) || isName s.f1)
theorem named_of {l : List S97} (h : named l = true) : Named l := by
 intro s hs h2
 have := List.all_eq_true.1 h s hs
 simpa [h2] using this
def wordP (g : Nat) (k : Int) (l : List S97) (vs : List ByteArray) (n : Int) : Option (ByteArray × Int) :=
 if HCheck.chk k ⟨#[]⟩ = 0 then (terms_side.f g l).bind fun e =>
  if e = 0 then (if n < 1 then some (⟨#[]⟩, 1) else if named l = true ∧ l.length ≤ 400 then
   (if miss l vs 0 = true then some (⟨#[]⟩, 3) else if odd k l vs 0 = true then some (⟨#[]⟩, 21) else
    (run (leafW vs) timesW (omegaW n) l []).bind fun r => if r.2 = true then some (⟨#[]⟩, 6) else some (r.1, 0))
   else none)
  else some (⟨#[]⟩, e)
 else some (⟨#[]⟩, HCheck.chk k ⟨#[]⟩)

set_option maxHeartbeats 2000000 in
set_option maxRecDepth 100000 in
theorem calls (g : Nat) (k : Int) (A0 : Option Addr) (c0 : Nat) (l : List S97) (A1 : Option Addr) (c1 : Nat) (vs : List ByteArray) (n : Int) (r1 : ByteArray) (r2 : Int) (w : World)
 (hl : Kd.C k97 w A0 l.length l) (hc0 : l.length ≤ c0) (hv : Kd.string.C w A1 vs.length vs) (hc1 : vs.length ≤ c1) (hn : n ≤ 9223372036854775807) (h : wordP g k l vs n = some (r1, r2)) :
 Calls Try.prog 27 #[.int .i64 k, .slice A0 l.length c0, .slice A1 vs.length c1, .int .i64 n] w fun e w' => e = .returned (.tuple #[.string r1, .int .i64 r2]) ∧ Below w.heap.size w w' := by
 have HL := Aside0.mk hl
 have HV := Aside0.mk hv
 clear hl hv
 unfold wordP at h
 by_cases hk : HCheck.chk k ⟨#[]⟩ = 0
 · rw [if_pos hk] at h
   have HK := Aside0.mk hk
   clear hk
   cases hs : terms_side.f g l with
   | none => rw [hs] at h; cases h
   | some e =>
   rw [hs] at h
   have HS := Aside0.mk hs
   clear hs
   replace h : (if e = 0 then (if n < 1 then some (⟨#[]⟩, 1) else if named l = true ∧ l.length ≤ 400 then (if miss l vs 0 = true then some (⟨#[]⟩, 3) else if odd k l vs 0 = true then some (⟨#[]⟩, 21) else (run (leafW vs) timesW (omegaW n) l []).bind fun r => if r.2 = true then some (⟨#[]⟩, 6) else some (r.1, 0)) else none) else some (⟨#[]⟩, e)) = some (r1, r2) := h
   by_cases he : e = 0
   · rw [if_pos he] at h
     subst he
     by_cases h1 : n < 1
     · rw [if_pos h1] at h
       have h2 := Option.some.inj h
       injection h2 with q1 q2
       subst q1; subst q2
       have d1 : decide (n < 1) = true := decide_eq_true h1
       clear h
       go_enter Try.func27, Try.ntmps27
       go_wp2_with fail
       refine (HCheck.calls k ⟨#[]⟩ _).mono ?_
       rintro e1 w1 ⟨rfl, hb1⟩
       rw [HK.out]
       have HB1 := Aside0.mk (below_then (below_alloc (below_alloc (Below.refl w.heap.size w) (.cells #[.slice A1 vs.length c1] 56)) (.cells #[.int .i64 n] 3)) (by simp; omega) hb1)
       have c6 : w1.cell? ⟨w.heap.size, 0, none⟩ = some (.slice A1 vs.length c1) := stay hb1 ((blk_cell (blk_alloc (blk_new w _) _) 0).trans rfl)
       have c7 : w1.cell? ⟨w.heap.size + 1, 0, none⟩ = some (.int .i64 n) := stay hb1 (by have q := blk_cell (blk_new (w.alloc (.cells #[.slice A1 vs.length c1] 56)) (.cells #[.int .i64 n] 3)) 0; simp)
       clear hb1
       go_wp2_with fail
       refine (terms_side.calls g A0 c0 l 0 _ (Kd.C_below HL.out HB1.out) hc0 HS.out).mono ?_
       rintro e2 w2 ⟨rfl, hb2⟩
       have HB2 := Aside0.mk (below_then HB1.out HB1.out.size hb2)
       replace c6 := stay hb2 c6
       replace c7 := stay hb2 c7
       clear hb2
       go_wp2_with fail
       go_ret2
       exact ⟨rfl, HB2.out⟩
     · rw [if_neg h1] at h
       have d1 : decide (n < 1) = false := decide_eq_false h1
       by_cases hnm : named l = true ∧ l.length ≤ 400
       · rw [if_pos hnm] at h
         have HN := Aside0.mk (named_of hnm.1)
         have H4 := hnm.2
         have HH := Aside0.mk h
         clear h hnm
         go_enter Try.func27, Try.ntmps27
         go_wp2_with fail
         refine (HCheck.calls k ⟨#[]⟩ _).mono ?_
         rintro e1 w1 ⟨rfl, hb1⟩
         rw [HK.out]
         have HB1 := Aside0.mk (below_then (below_alloc (below_alloc (Below.refl w.heap.size w) (.cells #[.slice A1 vs.length c1] 56)) (.cells #[.int .i64 n] 3)) (by simp; omega) hb1)
         have c6 : w1.cell? ⟨w.heap.size, 0, none⟩ = some (.slice A1 vs.length c1) := stay hb1 ((blk_cell (blk_alloc (blk_new w _) _) 0).trans rfl)
         have c7 : w1.cell? ⟨w.heap.size + 1, 0, none⟩ = some (.int .i64 n) := stay hb1 (by have q := blk_cell (blk_new (w.alloc (.cells #[.slice A1 vs.length c1] 56)) (.cells #[.int .i64 n] 3)) 0; simp)
         clear hb1
         go_wp2_with fail
         refine (terms_side.calls g A0 c0 l 0 _ (Kd.C_below HL.out HB1.out) hc0 HS.out).mono ?_
         rintro e2 w2 ⟨rfl, hb2⟩
         have HB2 := Aside0.mk (below_then HB1.out HB1.out.size hb2)
         replace c6 := stay hb2 c6
         replace c7 := stay hb2 c7
         clear hb2
         go_wp2_with fail
         refine (HUsed.used_calls _ A0 c0 l (Kd.C_below HL.out HB2.out) hc0 HN.out).mono ?_
         rintro e3 w3 ⟨rfl, hb3⟩
         have HB3 := Aside0.mk (below_then HB2.out HB2.out.size hb3)
         replace c6 := stay hb3 c6
         replace c7 := stay hb3 c7
         clear hb3
         go_wp2_with fail
         --LOOPS
         have K0 := blk_new w3 (.cells #[.bool (has l 120), .bool (has l 121), .bool (has l 122), .bool (has l 116)] 100)
         have HBW := Aside0.mk (below_alloc HB3.out (.cells #[.bool (has l 120), .bool (has l 121), .bool (has l 122), .bool (has l 116)] 100))
         replace c6 := stay (below_alloc (Below.refl w3.heap.size w3) (.cells #[.bool (has l 120), .bool (has l 121), .bool (has l 122), .bool (has l 116)] 100)) c6
         replace c7 := stay (below_alloc (Below.refl w3.heap.size w3) (.cells #[.bool (has l 120), .bool (has l 121), .bool (has l 122), .bool (has l 116)] 100)) c7
         generalize w3.heap.size = b12 at *
         generalize (w3.alloc (.cells #[.bool (has l 120), .bool (has l 121), .bool (has l 122), .bool (has l 116)] 100)) = W at *
         have rr0 : W.cell? ⟨b12, 0, none⟩ = some (.bool (has l 120)) := (blk_cell K0 0).trans rfl
         have rr1 : W.cell? ⟨b12, 1, none⟩ = some (.bool (has l 121)) := (blk_cell K0 1).trans rfl
         have rr2 : W.cell? ⟨b12, 2, none⟩ = some (.bool (has l 122)) := (blk_cell K0 2).trans rfl
         have rr3 : W.cell? ⟨b12, 3, none⟩ = some (.bool (has l 116)) := (blk_cell K0 3).trans rfl
         have HVW := Aside0.mk (Kd.C_below HV.out HBW.out)
         have HLW := Aside0.mk (Kd.C_below HL.out HBW.out)
         clear K0 HB1 HB2 HB3
         go_loopw [30] (fun v30 wr => ∃ i : Int, v30 = .int .i64 i ∧ 0 ≤ i ∧ i ≤ 4 ∧ Aside0 (miss l vs i = miss l vs 0) ∧ Aside0 (wr = W)) (fun v30 _ => 4 - (intOf v30).toNat)
         case atStart => exact ⟨0, rfl, by omega, by omega, ⟨rfl⟩, ⟨rfl⟩⟩
         case round =>
          obtain ⟨i, rfl, hi0, hi4, HM, HW⟩ := hrel
          obtain rfl := HW.out
          clear HW
          have hcases : i = 0 ∨ i = 1 ∨ i = 2 ∨ i = 3 ∨ i = 4 := by omega
          rcases hcases with rfl | rfl | rfl | rfl | rfl
          · cases hx : has l 120 with
            | false =>
             rw [hx] at rr0
             have HM2 : Aside0 (miss l vs 1 = miss l vs 0) := ⟨by rw [← HM.out]; rw [miss_step l vs 0 (by decide), show nmI 0 = 120 from rfl, hx]; rfl⟩
             clear hx
             go_wp2_with fail
             go_roundw
             case rel => exact ⟨1, by go_num, by omega, by omega, HM2, by first | exact ⟨rfl⟩ | exact ⟨trivial⟩⟩
             case measure => simp [intOf]
            | true =>
             rw [hx] at rr0
             by_cases hj : (vs.length : Int) ≤ 0
             · have dj : decide ((vs.length : Int) ≤ 0) = true := decide_eq_true hj
               have z1 : vs.length = 0 := by omega
               have z2 : (vs.length = 0) = True := eq_true z1
               have z3 : vs = [] := List.eq_nil_of_length_eq_zero z1
               have z4 : (vs = []) = True := eq_true z3
               have z5 : ((vs.length : Int) ≤ 0) = True := eq_true hj
               have z6 : decide (vs = []) = true := decide_eq_true z3
               have z7 : vs.isEmpty = true := by rw [z3]; rfl
               clear z1 z3
               have hm : miss l vs 0 = true := by rw [← HM.out, miss_step l vs 0 (by decide), show nmI 0 = 120 from rfl, hx, dj]; rfl
               have h := HH.out
               rw [if_pos hm] at h
               have h2 := Option.some.inj h
               injection h2 with q1 q2
               subst q1; subst q2
               clear h hm hx HH
               go_wp2_with fail
               go_ret2
               exact ⟨rfl, HBW.out⟩
             · have dj : decide ((vs.length : Int) ≤ 0) = false := decide_eq_false hj
               have z1 : vs.length ≠ 0 := by omega
               have z2 : (vs.length = 0) = False := eq_false z1
               have z3 : vs ≠ [] := fun e => z1 (by rw [e]; rfl)
               have z4 : (vs = []) = False := eq_false z3
               have z5 : ((vs.length : Int) ≤ 0) = False := eq_false hj
               have z6 : decide (vs = []) = false := decide_eq_false z3
               have z7 : vs.isEmpty = false := by cases vs; exact absurd rfl z3; rfl
               clear z1 z3
               have HM2 : Aside0 (miss l vs 1 = miss l vs 0) := ⟨by rw [← HM.out, miss_step l vs 0 (by decide), show nmI 0 = 120 from rfl, hx, dj]; rfl⟩
               clear hx
               go_wp2_with fail
               go_roundw
               case rel => exact ⟨1, by go_num, by omega, by omega, HM2, by first | exact ⟨rfl⟩ | exact ⟨trivial⟩⟩
               case measure => simp [intOf]
          · cases hx : has l 121 with
            | false =>
             rw [hx] at rr1
             have HM2 : Aside0 (miss l vs 2 = miss l vs 0) := ⟨by rw [← HM.out]; rw [miss_step l vs 1 (by decide), show nmI 1 = 121 from rfl, hx]; rfl⟩
             clear hx
             go_wp2_with fail
             go_roundw
             case rel => exact ⟨2, by go_num, by omega, by omega, HM2, by first | exact ⟨rfl⟩ | exact ⟨trivial⟩⟩
             case measure => simp [intOf]
            | true =>
             rw [hx] at rr1
             by_cases hj : (vs.length : Int) ≤ 1
             · have dj : decide ((vs.length : Int) ≤ 1) = true := decide_eq_true hj
               have hm : miss l vs 0 = true := by rw [← HM.out, miss_step l vs 1 (by decide), show nmI 1 = 121 from rfl, hx, dj]; rfl
               have h := HH.out
               rw [if_pos hm] at h
               have h2 := Option.some.inj h
               injection h2 with q1 q2
               subst q1; subst q2
               clear h hm hx HH
               go_wp2_with fail
               go_ret2
               exact ⟨rfl, HBW.out⟩
             · have dj : decide ((vs.length : Int) ≤ 1) = false := decide_eq_false hj
               have HM2 : Aside0 (miss l vs 2 = miss l vs 0) := ⟨by rw [← HM.out, miss_step l vs 1 (by decide), show nmI 1 = 121 from rfl, hx, dj]; rfl⟩
               clear hx
               go_wp2_with fail
               go_roundw
               case rel => exact ⟨2, by go_num, by omega, by omega, HM2, by first | exact ⟨rfl⟩ | exact ⟨trivial⟩⟩
               case measure => simp [intOf]
          · cases hx : has l 122 with
            | false =>
             rw [hx] at rr2
             have HM2 : Aside0 (miss l vs 3 = miss l vs 0) := ⟨by rw [← HM.out]; rw [miss_step l vs 2 (by decide), show nmI 2 = 122 from rfl, hx]; rfl⟩
             clear hx
             go_wp2_with fail
             go_roundw
             case rel => exact ⟨3, by go_num, by omega, by omega, HM2, by first | exact ⟨rfl⟩ | exact ⟨trivial⟩⟩
             case measure => simp [intOf]
            | true =>
             rw [hx] at rr2
             by_cases hj : (vs.length : Int) ≤ 2
             · have dj : decide ((vs.length : Int) ≤ 2) = true := decide_eq_true hj
               have hm : miss l vs 0 = true := by rw [← HM.out, miss_step l vs 2 (by decide), show nmI 2 = 122 from rfl, hx, dj]; rfl
               have h := HH.out
               rw [if_pos hm] at h
               have h2 := Option.some.inj h
               injection h2 with q1 q2
               subst q1; subst q2
               clear h hm hx HH
               go_wp2_with fail
               go_ret2
               exact ⟨rfl, HBW.out⟩
             · have dj : decide ((vs.length : Int) ≤ 2) = false := decide_eq_false hj
               have HM2 : Aside0 (miss l vs 3 = miss l vs 0) := ⟨by rw [← HM.out, miss_step l vs 2 (by decide), show nmI 2 = 122 from rfl, hx, dj]; rfl⟩
               clear hx
               go_wp2_with fail
               go_roundw
               case rel => exact ⟨3, by go_num, by omega, by omega, HM2, by first | exact ⟨rfl⟩ | exact ⟨trivial⟩⟩
               case measure => simp [intOf]
          · cases hx : has l 116 with
            | false =>
             rw [hx] at rr3
             have HM2 : Aside0 (miss l vs 4 = miss l vs 0) := ⟨by rw [← HM.out]; rw [miss_step l vs 3 (by decide), show nmI 3 = 116 from rfl, hx]; rfl⟩
             clear hx
             go_wp2_with fail
             go_roundw
             case rel => exact ⟨4, by go_num, by omega, by omega, HM2, by first | exact ⟨rfl⟩ | exact ⟨trivial⟩⟩
             case measure => simp [intOf]
            | true =>
             rw [hx] at rr3
             by_cases hj : (vs.length : Int) ≤ 3
             · have dj : decide ((vs.length : Int) ≤ 3) = true := decide_eq_true hj
               have hm : miss l vs 0 = true := by rw [← HM.out, miss_step l vs 3 (by decide), show nmI 3 = 116 from rfl, hx, dj]; rfl
               have h := HH.out
               rw [if_pos hm] at h
               have h2 := Option.some.inj h
               injection h2 with q1 q2
               subst q1; subst q2
               clear h hm hx HH
               go_wp2_with fail
               go_ret2
               exact ⟨rfl, HBW.out⟩
             · have dj : decide ((vs.length : Int) ≤ 3) = false := decide_eq_false hj
               have HM2 : Aside0 (miss l vs 4 = miss l vs 0) := ⟨by rw [← HM.out, miss_step l vs 3 (by decide), show nmI 3 = 116 from rfl, hx, dj]; rfl⟩
               clear hx
               go_wp2_with fail
               go_roundw
               case rel => exact ⟨4, by go_num, by omega, by omega, HM2, by first | exact ⟨rfl⟩ | exact ⟨trivial⟩⟩
               case measure => simp [intOf]
          · have HM2 : Aside0 (miss l vs 0 = false) := ⟨by rw [← HM.out]; rfl⟩
            have h := HH.out
            rw [if_neg (by rw [HM2.out]; decide)] at h
            have HH := Aside0.mk h
            clear h HM
            go_wp2_with fail
            go_loopw [43] (fun v43 wd => ∃ i : Int, v43 = .int .i64 i ∧ 0 ≤ i ∧ i ≤ 4 ∧ Aside0 (odd k l vs i = odd k l vs 0) ∧ Aside0 (Below wr.heap.size wr wd)) (fun v43 _ => 4 - (intOf v43).toNat)
            case atStart => exact ⟨0, rfl, by omega, by omega, ⟨rfl⟩, ⟨Below.refl _ _⟩⟩
            case round =>
             obtain ⟨i, rfl, hi0, hi4, HO, HBd⟩ := hrel
             replace rr0 := stay HBd.out rr0
             replace rr1 := stay HBd.out rr1
             replace rr2 := stay HBd.out rr2
             replace rr3 := stay HBd.out rr3
             replace c6 := stay HBd.out c6
             replace c7 := stay HBd.out c7
             have HBD := Aside0.mk (below_then HBW.out HBW.out.size HBd.out)
             have HVD := Aside0.mk (Kd.C_below HVW.out HBd.out)
             have HLD := Aside0.mk (Kd.C_below HLW.out HBd.out)
             have hcases : i = 0 ∨ i = 1 ∨ i = 2 ∨ i = 3 ∨ i = 4 := by omega
             rcases hcases with rfl | rfl | rfl | rfl | rfl
             · cases hx : has l 120 with
               | false =>
                rw [hx] at rr0
                have HM2 : Aside0 (odd k l vs 1 = odd k l vs 0) := ⟨by rw [← HO.out, odd_step k l vs 0 (by decide), show nmI 0 = 120 from rfl, hx]; rfl⟩
                clear hx
                go_wp2_with fail
                go_roundw
                case rel => exact ⟨1, by go_num, by omega, by omega, HM2, HBd⟩
                case measure => simp [intOf]
               | true =>
                rw [hx] at rr0
                have hj : (0 : Int) < (vs.length : Int) := miss_lt HM2.out 0 (by decide) hx
                obtain ⟨ad, he, hcell⟩ := Kd.at_string HVD.out 0 (by decide) hj
                obtain rfl := he
                rw [show (0 : Int).toNat = 0 from rfl] at hcell
                have q0 : ((0 : Int) < (vs.length : Int)) = True := eq_true hj
                have hval : rdOf ByteArray.empty vs 0 = val vs 0 := rfl
                rw [hval] at hcell
                clear hval
                have hcell0 := hcell
                rw [show ad.add 0 = ad by cases ad; unfold Addr.add; split <;> simp_all] at hcell0
                cases hz : (HCheck.chk k (val vs 0) != 0) with
                | true =>
                 have hm : odd k l vs 0 = true := by rw [← HO.out, odd_step k l vs 0 (by decide), show nmI 0 = 120 from rfl, hx, hz]; rfl
                 have h := HH.out
                 rw [if_pos hm] at h
                 have h2 := Option.some.inj h
                 injection h2 with q1 q2
                 subst q1; subst q2
                 have HZ := Aside0.mk hz
                 clear h hm hx HH hz
                 go_wp2_with fail
                 refine (HCheck.calls k (val vs 0) _).mono ?_
                 rintro e5 w5 ⟨rfl, hb5⟩
                 have HB5 := Aside0.mk (below_then HBD.out HBD.out.size hb5)
                 clear hb5
                 have hz := HZ.out
                 go_wp2_with fail
                 go_ret2
                 exact ⟨rfl, HB5.out⟩
                | false =>
                 have HO2 : Aside0 (odd k l vs 1 = odd k l vs 0) := ⟨by rw [← HO.out, odd_step k l vs 0 (by decide), show nmI 0 = 120 from rfl, hx, hz]; rfl⟩
                 have HZ := Aside0.mk hz
                 clear hx hz
                 go_wp2_with fail
                 refine (HCheck.calls k (val vs 0) _).mono ?_
                 rintro e5 w5 ⟨rfl, hb5⟩
                 have HB5 := Aside0.mk (below_then HBd.out HBd.out.size hb5)
                 clear hb5
                 have hz := HZ.out
                 go_wp2_with fail
                 go_roundw
                 case rel => exact ⟨1, by go_num, by omega, by omega, HO2, HB5⟩
                 case measure => simp [intOf]
             · cases hx : has l 121 with
               | false =>
                rw [hx] at rr1
                have HM2 : Aside0 (odd k l vs 2 = odd k l vs 0) := ⟨by rw [← HO.out, odd_step k l vs 1 (by decide), show nmI 1 = 121 from rfl, hx]; rfl⟩
                clear hx
                go_wp2_with fail
                go_roundw
                case rel => exact ⟨2, by go_num, by omega, by omega, HM2, HBd⟩
                case measure => simp [intOf]
               | true =>
                rw [hx] at rr1
                have hj : (1 : Int) < (vs.length : Int) := miss_lt HM2.out 1 (by decide) hx
                obtain ⟨ad, he, hcell⟩ := Kd.at_string HVD.out 1 (by decide) hj
                obtain rfl := he
                rw [show (1 : Int).toNat = 1 from rfl] at hcell
                have q0 : ((1 : Int) < (vs.length : Int)) = True := eq_true hj
                have hval : rdOf ByteArray.empty vs 1 = val vs 1 := rfl
                rw [hval] at hcell
                clear hval
                have hcell1 := hcell
                simp [Addr.add] at hcell1
                cases hz : (HCheck.chk k (val vs 1) != 0) with
                | true =>
                 have hm : odd k l vs 0 = true := by rw [← HO.out, odd_step k l vs 1 (by decide), show nmI 1 = 121 from rfl, hx, hz]; rfl
                 have h := HH.out
                 rw [if_pos hm] at h
                 have h2 := Option.some.inj h
                 injection h2 with q1 q2
                 subst q1; subst q2
                 have HZ := Aside0.mk hz
                 clear h hm hx HH hz
                 go_wp2_with fail
                 refine (HCheck.calls k (val vs 1) _).mono ?_
                 rintro e5 w5 ⟨rfl, hb5⟩
                 have HB5 := Aside0.mk (below_then HBD.out HBD.out.size hb5)
                 clear hb5
                 have hz := HZ.out
                 go_wp2_with fail
                 go_ret2
                 exact ⟨rfl, HB5.out⟩
                | false =>
                 have HO2 : Aside0 (odd k l vs 2 = odd k l vs 0) := ⟨by rw [← HO.out, odd_step k l vs 1 (by decide), show nmI 1 = 121 from rfl, hx, hz]; rfl⟩
                 have HZ := Aside0.mk hz
                 clear hx hz
                 go_wp2_with fail
                 refine (HCheck.calls k (val vs 1) _).mono ?_
                 rintro e5 w5 ⟨rfl, hb5⟩
                 have HB5 := Aside0.mk (below_then HBd.out HBd.out.size hb5)
                 clear hb5
                 have hz := HZ.out
                 go_wp2_with fail
                 go_roundw
                 case rel => exact ⟨2, by go_num, by omega, by omega, HO2, HB5⟩
                 case measure => simp [intOf]
             · cases hx : has l 122 with
               | false =>
                rw [hx] at rr2
                have HM2 : Aside0 (odd k l vs 3 = odd k l vs 0) := ⟨by rw [← HO.out, odd_step k l vs 2 (by decide), show nmI 2 = 122 from rfl, hx]; rfl⟩
                clear hx
                go_wp2_with fail
                go_roundw
                case rel => exact ⟨3, by go_num, by omega, by omega, HM2, HBd⟩
                case measure => simp [intOf]
               | true =>
                rw [hx] at rr2
                have hj : (2 : Int) < (vs.length : Int) := miss_lt HM2.out 2 (by decide) hx
                obtain ⟨ad, he, hcell⟩ := Kd.at_string HVD.out 2 (by decide) hj
                obtain rfl := he
                rw [show (2 : Int).toNat = 2 from rfl] at hcell
                have q0 : ((2 : Int) < (vs.length : Int)) = True := eq_true hj
                have hval : rdOf ByteArray.empty vs 2 = val vs 2 := rfl
                rw [hval] at hcell
                clear hval
                have hcell1 := hcell
                simp [Addr.add] at hcell1
                cases hz : (HCheck.chk k (val vs 2) != 0) with
                | true =>
                 have hm : odd k l vs 0 = true := by rw [← HO.out, odd_step k l vs 2 (by decide), show nmI 2 = 122 from rfl, hx, hz]; rfl
                 have h := HH.out
                 rw [if_pos hm] at h
                 have h2 := Option.some.inj h
                 injection h2 with q1 q2
                 subst q1; subst q2
                 have HZ := Aside0.mk hz
                 clear h hm hx HH hz
                 go_wp2_with fail
                 refine (HCheck.calls k (val vs 2) _).mono ?_
                 rintro e5 w5 ⟨rfl, hb5⟩
                 have HB5 := Aside0.mk (below_then HBD.out HBD.out.size hb5)
                 clear hb5
                 have hz := HZ.out
                 go_wp2_with fail
                 go_ret2
                 exact ⟨rfl, HB5.out⟩
                | false =>
                 have HO2 : Aside0 (odd k l vs 3 = odd k l vs 0) := ⟨by rw [← HO.out, odd_step k l vs 2 (by decide), show nmI 2 = 122 from rfl, hx, hz]; rfl⟩
                 have HZ := Aside0.mk hz
                 clear hx hz
                 go_wp2_with fail
                 refine (HCheck.calls k (val vs 2) _).mono ?_
                 rintro e5 w5 ⟨rfl, hb5⟩
                 have HB5 := Aside0.mk (below_then HBd.out HBd.out.size hb5)
                 clear hb5
                 have hz := HZ.out
                 go_wp2_with fail
                 go_roundw
                 case rel => exact ⟨3, by go_num, by omega, by omega, HO2, HB5⟩
                 case measure => simp [intOf]
             · cases hx : has l 116 with
               | false =>
                rw [hx] at rr3
                have HM2 : Aside0 (odd k l vs 4 = odd k l vs 0) := ⟨by rw [← HO.out, odd_step k l vs 3 (by decide), show nmI 3 = 116 from rfl, hx]; rfl⟩
                clear hx
                go_wp2_with fail
                go_roundw
                case rel => exact ⟨4, by go_num, by omega, by omega, HM2, HBd⟩
                case measure => simp [intOf]
               | true =>
                rw [hx] at rr3
                have hj : (3 : Int) < (vs.length : Int) := miss_lt HM2.out 3 (by decide) hx
                obtain ⟨ad, he, hcell⟩ := Kd.at_string HVD.out 3 (by decide) hj
                obtain rfl := he
                rw [show (3 : Int).toNat = 3 from rfl] at hcell
                have q0 : ((3 : Int) < (vs.length : Int)) = True := eq_true hj
                have hval : rdOf ByteArray.empty vs 3 = val vs 3 := rfl
                rw [hval] at hcell
                clear hval
                have hcell1 := hcell
                simp [Addr.add] at hcell1
                cases hz : (HCheck.chk k (val vs 3) != 0) with
                | true =>
                 have hm : odd k l vs 0 = true := by rw [← HO.out, odd_step k l vs 3 (by decide), show nmI 3 = 116 from rfl, hx, hz]; rfl
                 have h := HH.out
                 rw [if_pos hm] at h
                 have h2 := Option.some.inj h
                 injection h2 with q1 q2
                 subst q1; subst q2
                 have HZ := Aside0.mk hz
                 clear h hm hx HH hz
                 go_wp2_with fail
                 refine (HCheck.calls k (val vs 3) _).mono ?_
                 rintro e5 w5 ⟨rfl, hb5⟩
                 have HB5 := Aside0.mk (below_then HBD.out HBD.out.size hb5)
                 clear hb5
                 have hz := HZ.out
                 go_wp2_with fail
                 go_ret2
                 exact ⟨rfl, HB5.out⟩
                | false =>
                 have HO2 : Aside0 (odd k l vs 4 = odd k l vs 0) := ⟨by rw [← HO.out, odd_step k l vs 3 (by decide), show nmI 3 = 116 from rfl, hx, hz]; rfl⟩
                 have HZ := Aside0.mk hz
                 clear hx hz
                 go_wp2_with fail
                 refine (HCheck.calls k (val vs 3) _).mono ?_
                 rintro e5 w5 ⟨rfl, hb5⟩
                 have HB5 := Aside0.mk (below_then HBd.out HBd.out.size hb5)
                 clear hb5
                 have hz := HZ.out
                 go_wp2_with fail
                 go_roundw
                 case rel => exact ⟨4, by go_num, by omega, by omega, HO2, HB5⟩
                 case measure => simp [intOf]
             · have HO2 : Aside0 (odd k l vs 0 = false) := ⟨by rw [← HO.out]; rfl⟩
               have h := HH.out
               rw [if_neg (by rw [HO2.out]; decide)] at h
               cases hr : run (leafW vs) timesW (omegaW n) l [] with
               | none => rw [hr] at h; cases h
               | some x =>
               rw [hr] at h
               replace h : (if x.2 = true then some (⟨#[]⟩, 6) else some (x.1, 0)) = some (r1, r2) := h
               have HX := Aside0.mk hr
               have HH2 := Aside0.mk h
               have HC6 := Aside0.mk c6
               have HC7 := Aside0.mk c7
               clear h hr HH HO
               go_wp2_with fail
               refine (HFoldText.calls (leafW vs) timesW (omegaW n) ⟨w.heap.size, 0, none⟩ ⟨w.heap.size + 1, 0, none⟩ _ (leaf_calls _ _ vs ⟨⟨A1, c1, HC6.out, hc1, HVD.out⟩⟩) (times_calls _) (omega_calls _ _ n HC7.out (by omega) hn) A0 c0 l HLD.out hc0 H4 x HX.out).mono ?_
               rintro e6 w6 ⟨rfl, hb6⟩
               have HB6 := Aside0.mk (below_then HBD.out HBD.out.size hb6)
               clear hb6 c6 c7
               have h := HH2.out
               clear HH2 HX
               obtain ⟨xs, xb⟩ := x
               cases xb with
               | true =>
                have h2 := Option.some.inj h
                injection h2 with q1 q2
                subst q1; subst q2
                clear h
                go_wp2_with fail
                go_ret2
                exact ⟨rfl, below_alloc HB6.out _⟩
               | false =>
                have h2 := Option.some.inj h
                injection h2 with q1 q2
                subst q1; subst q2
                clear h
                go_wp2_with fail
                go_ret2
                exact ⟨rfl, below_alloc HB6.out _⟩
         --ENDLOOPS
       · rw [if_neg hnm] at h; cases h
   · rw [if_neg he] at h
     have h2 := Option.some.inj h
     injection h2 with q1 q2
     subst q1; subst q2
     have e0 : (e != 0) = true := bne_iff_ne.mpr he
     clear h he
     go_enter Try.func27, Try.ntmps27
     go_wp2_with fail
     refine (HCheck.calls k ⟨#[]⟩ _).mono ?_
     rintro e1 w1 ⟨rfl, hb1⟩
     rw [HK.out]
     have HB1 := Aside0.mk (below_then (below_alloc (below_alloc (Below.refl w.heap.size w) (.cells #[.slice A1 vs.length c1] 56)) (.cells #[.int .i64 n] 3)) (by simp; omega) hb1)
     clear hb1
     go_wp2_with fail
     refine (terms_side.calls g A0 c0 l e _ (Kd.C_below HL.out HB1.out) hc0 HS.out).mono ?_
     rintro e2 w2 ⟨rfl, hb2⟩
     have HB2 := Aside0.mk (below_then HB1.out HB1.out.size hb2)
     clear hb2
     go_wp2_with fail
     go_ret2
     exact ⟨rfl, HB2.out⟩
 · rw [if_neg hk] at h
   have h2 := Option.some.inj h
   injection h2 with q1 q2
   subst q1; subst q2
   have e0 : (HCheck.chk k ⟨#[]⟩ != 0) = true := bne_iff_ne.mpr hk
   clear h hk
   go_enter Try.func27, Try.ntmps27
   go_wp2_with fail
   refine (HCheck.calls k ⟨#[]⟩ _).mono ?_
   rintro e1 w1 ⟨rfl, hb1⟩
   have HB1 := Aside0.mk (below_then (below_alloc (below_alloc (Below.refl w.heap.size w) (.cells #[.slice A1 vs.length c1] 56)) (.cells #[.int .i64 n] 3)) (by simp; omega) hb1)
   clear hb1
   go_wp2_with fail
   go_ret2
   exact ⟨rfl, HB1.out⟩
end Go.Proofs.Ytcbkihhpnndpkaa.HWord
