/- The three functions that terms.Word hands to folded. -/
import Derived.Test.YtcbkihhpnndpkaaHFoldText
import Derived.Test.YtcbkihhpnndpkaaHUsed
import Derived.Test.YtcbkihhpnndpkaaPMx1
import Derived.Outline
set_option linter.unusedVariables false
set_option linter.unusedSimpArgs false
namespace Go.Proofs.Ytcbkihhpnndpkaa.HWordParts
open Go.RowKit Go.Proofs.YtcbkihhpnndpkaaW.PrintWords Go.Proofs.YtcbkihhpnndpkaaW.PrintLast Go.Proofs.YtcbkihhpnndpkaaW.PrintMore
open Go.Proofs.Ytcbkihhpnndpkaa Go.Proofs.Ytcbkihhpnndpkaa.PA Go.Proofs.Ytcbkihhpnndpkaa.HFoldText Go.Proofs.Ytcbkihhpnndpkaa.HRead

theorem stay {w w' : World} (hb : Below w.heap.size w w') {a : Addr} {v : Value} (hc : w.cell? a = some v) : w'.cell? a = some v := (hb.cell (World.block_lt_of_cell? w a hc)).trans hc
/-- A variable's word, or nothing for 1. -/
def leafW (vs : List ByteArray) (s : S97) : Option P2 := if s.f0 = 1 then some (⟨#[]⟩, false) else if 0 ≤ pl s.f1 ∧ pl s.f1 < vs.length then some (rdOf ByteArray.empty vs (pl s.f1), decide (((rdOf ByteArray.empty vs (pl s.f1)).size : Int) > 4096)) else none
def timesW (a b : P2) : Option P2 := Go.Proofs.Ytcbkihhpnndpkaa.PM.terms_Word_2.f a.1 a.2 b.1 b.2
/-- The cell of the values. -/
structure Vals (pa : Addr) (w : World) (vs : List ByteArray) : Prop where
 ok : ∃ A c, w.cell? pa = some (.slice A vs.length c) ∧ vs.length ≤ c ∧ Kd.string.C w A vs.length vs
theorem Vals.below {pa : Addr} {w w' : World} {vs : List ByteArray} (h : Vals pa w vs) (hb : Below w.heap.size w w') : Vals pa w' vs := by
 obtain ⟨A, c, h1, h2, h3⟩ := h.ok
 exact ⟨A, c, stay hb h1, h2, Kd.C_below h3 hb⟩
theorem idx (c : Int) (w : World) :
 Calls Try.prog 56 #[.string ⟨#[120, 121, 122, 116]⟩, .int .u8 c] w fun e w' => e = .returned (.int .i64 (pl c)) ∧ w' = w :=
 (Try.strings_IndexByte _ c w).mono (fun e w' h' => ⟨h'.1, h'.2⟩)

set_option maxHeartbeats 2000000 in
set_option maxRecDepth 100000 in
theorem leaf_calls (pa : Addr) (w : World) (vs : List ByteArray) (hv : Vals pa w vs) : Leaf pa w (leafW vs) := by
 intro w' hb s r h
 unfold leafW at h
 by_cases h1 : s.f0 = 1
 · rw [if_pos h1] at h
   obtain rfl := Option.some.inj h
   have e1 : (s.f0 == 1) = true := beq_iff_eq.mpr h1
   clear h1
   go_enter Try.func63, Try.ntmps63
   go_wp2_with fail
   refine bodyPost_ret (results_single rfl (.cell (w'.heap.size + 1) 116 #[.string ⟨#[]⟩, .bool false] (0, 0) _ rfl (by have q := blk_new (w'.alloc (.cells #[.int .i64 s.f0, .int .u8 s.f1] 97)) (.cells #[.string ⟨#[]⟩, .bool false] 116); simpa using q) Try.underlying116 rfl (by kernel_rfl) .nil)) rfl ?_
   exact ⟨rfl, below_alloc (below_alloc (Below.refl _ _) _) _⟩
 · rw [if_neg h1] at h
   have e1 : (s.f0 == 1) = false := beq_eq_false_iff_ne.mpr h1
   by_cases hp : 0 ≤ pl s.f1 ∧ pl s.f1 < vs.length
   · rw [if_pos hp] at h
     obtain rfl := Option.some.inj h
     obtain ⟨A, c, hc, hle, hC⟩ := (hv.below hb).ok
     obtain ⟨ad, he, hx⟩ := Kd.at_string hC (pl s.f1) hp.1 hp.2
     obtain rfl := he
     have hab : Below w'.heap.size w' ((w'.alloc (.cells #[.int .i64 s.f0, .int .u8 s.f1] 97)).alloc (.cells #[.string ⟨#[]⟩, .bool false] 116)) := below_alloc (below_alloc (Below.refl _ _) _) _
     have hc2 := stay hab hc
     have hx2 := stay hab hx
     have hs2 : ((w'.alloc (.cells #[.int .i64 s.f0, .int .u8 s.f1] 97)).alloc (.cells #[.string ⟨#[]⟩, .bool false] 116)).cell? ⟨w'.heap.size, 1, none⟩ = some (.int .u8 s.f1) := (blk_cell (blk_alloc (blk_new w' _) _) 1).trans rfl
     have hm : ((w'.alloc (.cells #[.int .i64 s.f0, .int .u8 s.f1] 97)).alloc (.cells #[.string ⟨#[]⟩, .bool false] 116)).heap[w'.heap.size + 1]? = some (.cells #[.string ⟨#[]⟩, .bool false] 116 (0, 0)) := by have q := blk_new (w'.alloc (.cells #[.int .i64 s.f0, .int .u8 s.f1] 97)) (.cells #[.string ⟨#[]⟩, .bool false] 116); simpa using q
     have HM := Aside0.mk hm
     have HAB := Aside0.mk hab
     have p0 : (0 ≤ pl s.f1) = True := eq_true hp.1
     have q0 : (pl s.f1 < (vs.length : Int)) = True := eq_true hp.2
     have HP := Aside0.mk hp
     clear h1 hp hC hv hb h hc hx hm hab
     go_enter Try.func63, Try.ntmps63
     go_upto_region 3 with fail
     generalize ((w'.alloc (.cells #[.int .i64 s.f0, .int .u8 s.f1] 97)).alloc (.cells #[.string ⟨#[]⟩, .bool false] 116)) = W at *
     --REGION63
     refine start_ (n := 7) (S := fun w2 => w2.cell? pa = some (.slice (some ad) vs.length c) ∧ w2.cell? ⟨w'.heap.size, 1, none⟩ = some (.int .u8 s.f1) ∧ w2.cell? (ad.add (pl s.f1).toNat) = some (.string (rdOf ByteArray.empty vs (pl s.f1)))) (ds := []) #[false, false, false, false, false, false, false] (by kernel_rfl) rfl rfl ⟨hc2, hs2, hx2⟩ (fun hHeld => ?_)
     refine pure_ (i := 1) (N := (some 10)) (v := ?_) (a' := ?_) #[false, true, false, false, false, false, false] rfl rfl (by kernel_rfl) (fun _ _ _ h => h) (Or.inl ⟨by rfl, ?_⟩) ?_ ?_
     rotate_left
     · intro w2
       go_simp
       with_reducible rfl
     rotate_left
     · simp only [Act.put, sA_, sZ_, sS_, i64_w, i32_w]
       rfl
     refine take_ (i := 0) (N := (some 9)) (v := ?_) (a' := ?_) #[true, true, false, false, false, false, false] rfl rfl (by kernel_rfl) (fun _ _ _ h => h) (Or.inl ⟨by rfl, ?_⟩) hHeld ?_ ?_
     rotate_left
     · rintro w2 ⟨s0, s1, s2⟩
       go_simp
       with_reducible rfl
     rotate_left
     · simp only [Act.put, sA_, sZ_, sS_, i64_w, i32_w]
       rfl
     refine take_ (i := 2) (N := (some 11)) (v := ?_) (a' := ?_) #[true, true, true, false, false, false, false] rfl rfl (by kernel_rfl) (fun _ _ _ h => h) (Or.inl ⟨by rfl, ?_⟩) hHeld ?_ ?_
     rotate_left
     · rintro w2 ⟨s0, s1, s2⟩
       go_simp
       with_reducible rfl
     rotate_left
     · simp only [Act.put, sA_, sZ_, sS_, i64_w, i32_w]
       rfl
     refine one_ (i := 3) (N := (some 12)) #[true, true, true, true, false, false, false] rfl rfl (by kernel_rfl) (by decide) (fun K hK => ?_)
     refine call_ 56 #[.string ⟨#[120, 121, 122, 116]⟩, .int .u8 s.f1] (by rfl) rfl (by go_simp) ?_
     refine (idx _ _).mono ?_
     rintro e w2 ⟨rfl, rfl⟩
     refine ⟨_, rfl, ?_⟩
     refine hK.out _ _ (⟨hc2, hs2, hx2⟩) (fun hHeld => ?_)
     clear hK K
     refine norm_ (a' := ?_) ?_ ?_
     rotate_left
     · show Act.put _ (some 12) _ = _
       simp only [Act.put, sA_, sZ_, sS_, i64_w, i32_w]
       rfl
     refine pure_ (i := 4) (N := (some 13)) (v := ?_) (a' := ?_) #[true, true, true, true, true, false, false] rfl rfl (by kernel_rfl) (fun _ _ _ h => h) (Or.inl ⟨by rfl, ?_⟩) ?_ ?_
     rotate_left
     · intro w2
       go_simp
       with_reducible rfl
     rotate_left
     · simp only [Act.put, sA_, sZ_, sS_, i64_w, i32_w]
       rfl
     refine take_ (i := 5) (N := (some 14)) (v := ?_) (a' := ?_) #[true, true, true, true, true, true, false] rfl rfl (by kernel_rfl) (fun _ _ _ h => h) (Or.inl ⟨by rfl, ?_⟩) hHeld ?_ ?_
     rotate_left
     · rintro w2 ⟨s0, s1, s2⟩
       go_simp
       with_reducible rfl
     rotate_left
     · simp only [Act.put, sA_, sZ_, sS_, i64_w, i32_w]
       rfl
     refine pure_ (i := 6) (N := (some 4)) (v := ?_) (a' := ?_) #[true, true, true, true, true, true, true] rfl rfl (by kernel_rfl) (fun _ _ _ h => h) (Or.inl ⟨by rfl, ?_⟩) ?_ ?_
     rotate_left
     · intro w2
       go_simp
       with_reducible rfl
     rotate_left
     · simp only [Act.put, sA_, sZ_, sS_, i64_w, i32_w]
       rfl
     refine done_ (by kernel_rfl) ?_
     --END63
     have HD : W.heap[w'.heap.size + 1]? = some (.cells #[.string ⟨#[]⟩, .bool false] 116 (0, 0)) := HM.out
     have m0 : W.cell? ⟨w'.heap.size + 1, 0, none⟩ = some (.string ⟨#[]⟩) := (blk_cell HD 0).trans rfl
     have m1 : W.cell? ⟨w'.heap.size + 1, 1, none⟩ = some (.bool false) := (blk_cell HD 1).trans rfl
     have z0 := blk_frozen HD 0
     have z1 := blk_frozen HD 1
     have HD := Aside0.mk HD
     clear hc2 hs2 hx2
     go_wp2_with fail
     refine bodyPost_ret (results_single rfl (.cell (w'.heap.size + 1) 116 #[.string (rdOf ByteArray.empty vs (pl s.f1)), .bool (decide (((rdOf ByteArray.empty vs (pl s.f1)).size : Int) > 4096))] (0, 0) _ rfl (blk_put (cs := #[.string (rdOf ByteArray.empty vs (pl s.f1)), .bool false]) (blk_put HD.out 0 _ rfl) 1 _ rfl) Try.underlying116 rfl (by kernel_rfl) .nil)) rfl ?_
     exact ⟨rfl, below_set (below_set (below_then HAB.out HAB.out.size (below_drew (Below.refl _ _))) (Nat.le_succ _)) (Nat.le_succ _)⟩
   · rw [if_neg hp] at h; cases h

def omegaW (n : Int) (a : P2) : Option P2 := if a.2 = true then some (⟨#[]⟩, true) else if a.1.size = 0 then some (a.1, false) else if n > (4096 : Int) / (a.1.size : Int) then some (⟨#[]⟩, true) else some (⟨(Lib.repeatL a.1.data.toList n.toNat).toArray⟩, false)
theorem times_calls (w : World) : Times w timesW := by
 intro w' hb s t r h
 exact Go.Proofs.Ytcbkihhpnndpkaa.PM.terms_Word_2.calls s.1 s.2 t.1 t.2 r.1 r.2 w' h

set_option maxHeartbeats 2000000 in
set_option maxRecDepth 100000 in
theorem omega_calls (pb : Addr) (w : World) (n : Int) (hn : w.cell? pb = some (.int .i64 n)) (h1 : 1 ≤ n) (h2 : n ≤ 9223372036854775807) : Omega pb w (omegaW n) := by
 intro w' hb s r h
 unfold omegaW at h
 obtain ⟨s, l⟩ := s
 simp only at h
 have hc2 := stay (below_alloc (below_alloc hb (.cells #[.string s, .bool l] 116)) (.cells #[.string ⟨#[]⟩, .bool false] 116)) hn
 have hm : ((w'.alloc (.cells #[.string s, .bool l] 116)).alloc (.cells #[.string ⟨#[]⟩, .bool false] 116)).heap[w'.heap.size + 1]? = some (.cells #[.string ⟨#[]⟩, .bool false] 116 (0, 0)) := by have q := blk_new (w'.alloc (.cells #[.string s, .bool l] 116)) (.cells #[.string ⟨#[]⟩, .bool false] 116); simpa using q
 cases l with
 | true =>
  rw [if_pos rfl] at h
  obtain rfl := Option.some.inj h
  clear h hn hb
  have HM := Aside0.mk hm
  have HAB := Aside0.mk (below_alloc (below_alloc (Below.refl w'.heap.size w') (.cells #[.string s, .bool true] 116)) (.cells #[.string ⟨#[]⟩, .bool false] 116))
  clear hm
  go_enter Try.func65, Try.ntmps65
  go_upto_region 1 with fail
  go_quiet (fail)
  go_wp2_with fail
  refine bodyPost_ret (results_single rfl (.cell (w'.heap.size + 1) 116 #[.string ⟨#[]⟩, .bool true] (0, 0) _ rfl (blk_put (cs := #[.string ⟨#[]⟩, .bool false]) (blk_put (blk_drewN HM.out nq) 0 _ rfl) 1 _ rfl) Try.underlying116 rfl (by kernel_rfl) .nil)) rfl ?_
  exact ⟨rfl, below_set (below_set (pw_below_drewN HAB.out nq) (Nat.le_succ _)) (Nat.le_succ _)⟩
 | false =>
  rw [if_neg (by decide)] at h
  by_cases hz : s.size = 0
  · rw [if_pos hz] at h
    obtain rfl := Option.some.inj h
    have hs : s = ⟨#[]⟩ := by
     apply ByteArray.ext
     exact Array.eq_empty_of_size_eq_zero hz
    subst hs
    clear h hn hb hz
    have HM := Aside0.mk hm
    have HAB := Aside0.mk (below_alloc (below_alloc (Below.refl w'.heap.size w') (.cells #[.string ⟨#[]⟩, .bool false] 116)) (.cells #[.string ⟨#[]⟩, .bool false] 116))
    clear hm
    go_enter Try.func65, Try.ntmps65
    go_upto_region 1 with fail
    go_quiet (fail)
    go_wp2_with fail
    refine bodyPost_ret (results_single rfl (.cell (w'.heap.size + 1) 116 #[.string ⟨#[]⟩, .bool false] (0, 0) _ rfl (blk_put (cs := #[.string ⟨#[]⟩, .bool false]) (blk_put (blk_drewN HM.out nq) 0 _ rfl) 1 _ rfl) Try.underlying116 rfl (by kernel_rfl) .nil)) rfl ?_
    exact ⟨rfl, below_set (below_set (pw_below_drewN HAB.out nq) (Nat.le_succ _)) (Nat.le_succ _)⟩
  · rw [if_neg hz] at h
    have hp : (0 : Int) < (s.size : Int) := by omega
    by_cases hq : n > (4096 : Int) / (s.size : Int)
    · rw [if_pos hq] at h
      obtain rfl := Option.some.inj h
      have d0 : decide (0 < (s.size : Int)) = true := decide_eq_true hp
      have d2 : (0 < s.size) = True := eq_true (by omega)
      have d3 : ((0 : Int) < (s.size : Int)) = True := eq_true hp
      have d4 : ((s.size : Int) == 0) = false := beq_eq_false_iff_ne.mpr (by omega)
      have d5 : decide (0 < s.size) = true := decide_eq_true (by omega)
      have d6 : ((s.size : Int) = 0) = False := eq_false (by omega)
      have d7 : s.toList.isEmpty = false := by
       rw [ByteArray.toList_eq]
       cases hl : s.data.toList with
       | nil => exact absurd (show s.size = 0 by have e := congrArg List.length hl; simpa using e) hz
       | cons a l => rfl
      have d1 : decide ((4096 : Int) / (s.size : Int) < n) = true := decide_eq_true hq
      clear h hn hb
      have HM := Aside0.mk hm
      have HAB := Aside0.mk (below_alloc (below_alloc (Below.refl w'.heap.size w') (.cells #[.string s, .bool false] 116)) (.cells #[.string ⟨#[]⟩, .bool false] 116))
      clear hm
      go_enter Try.func65, Try.ntmps65
      go_upto_region 1 with fail
      go_quiet (fail)
      go_wp2_with fail
      refine bodyPost_ret (results_single rfl (.cell (w'.heap.size + 1) 116 #[.string ⟨#[]⟩, .bool true] (0, 0) _ rfl (blk_put (cs := #[.string ⟨#[]⟩, .bool false]) (blk_put (blk_drewN HM.out nq) 0 _ rfl) 1 _ rfl) Try.underlying116 rfl (by kernel_rfl) .nil)) rfl ?_
      exact ⟨rfl, below_set (below_set (pw_below_drewN HAB.out nq) (Nat.le_succ _)) (Nat.le_succ _)⟩
    · rw [if_neg hq] at h
      obtain rfl := Option.some.inj h
      have d0 : decide (0 < (s.size : Int)) = true := decide_eq_true hp
      have d2 : (0 < s.size) = True := eq_true (by omega)
      have d3 : ((0 : Int) < (s.size : Int)) = True := eq_true hp
      have d4 : ((s.size : Int) == 0) = false := beq_eq_false_iff_ne.mpr (by omega)
      have d5 : decide (0 < s.size) = true := decide_eq_true (by omega)
      have d6 : ((s.size : Int) = 0) = False := eq_false (by omega)
      have d7 : s.toList.isEmpty = false := by
       rw [ByteArray.toList_eq]
       cases hl : s.data.toList with
       | nil => exact absurd (show s.size = 0 by have e := congrArg List.length hl; simpa using e) hz
       | cons a l => rfl
      have d1 : decide ((4096 : Int) / (s.size : Int) < n) = false := decide_eq_false hq
      clear h hn hb
      have HM := Aside0.mk hm
      have HAB := Aside0.mk (below_alloc (below_alloc (Below.refl w'.heap.size w') (.cells #[.string s, .bool false] 116)) (.cells #[.string ⟨#[]⟩, .bool false] 116))
      clear hm
      go_enter Try.func65, Try.ntmps65
      go_upto_region 1 with fail
      go_quiet (fail)
      go_wp2_with fail
      obtain ⟨m, rfl⟩ : ∃ m : Nat, n = m := ⟨n.toNat, by omega⟩
      have hle : s.size * m ≤ 4096 := by
       have h3 : (m : Int) ≤ (4096 : Int) / (s.size : Int) := by omega
       have h4 := (Int.le_ediv_iff_mul_le hp).1 h3
       have h5 : (m : Int) * (s.size : Int) = ((s.size * m : Nat) : Int) := by rw [Nat.mul_comm]; exact (Int.natCast_mul _ _).symm
       omega
      refine (Try.strings_Repeat s m _ (by omega) (by omega)).mono ?_
      rintro e w2 ⟨rfl, hb2⟩
      have HM2 := blk_below (blk_drewN HM.out nq) hb2
      have HB2 := Aside0.mk (below_then (pw_below_drewN HAB.out nq) (pw_below_drewN HAB.out nq).size hb2)
      have m0 : w2.cell? ⟨w'.heap.size + 1, 0, none⟩ = some (.string ⟨#[]⟩) := (blk_cell HM2 0).trans rfl
      have m1 : w2.cell? ⟨w'.heap.size + 1, 1, none⟩ = some (.bool false) := (blk_cell HM2 1).trans rfl
      have z0 := blk_frozen HM2 0
      have z1 := blk_frozen HM2 1
      have HM2 := Aside0.mk HM2
      clear hb2 hc2
      go_wp2_with fail
      refine bodyPost_ret (results_single rfl (.cell (w'.heap.size + 1) 116 #[.string ⟨(Lib.repeatL s.data.toList m).toArray⟩, .bool false] (0, 0) _ rfl (blk_put (cs := #[.string ⟨(Lib.repeatL s.data.toList m).toArray⟩, .bool false]) (blk_put HM2.out 0 _ rfl) 1 _ rfl) Try.underlying116 rfl (by kernel_rfl) .nil)) rfl ?_
      exact ⟨rfl, below_set (below_set HB2.out (Nat.le_succ _)) (Nat.le_succ _)⟩
end Go.Proofs.Ytcbkihhpnndpkaa.HWordParts
