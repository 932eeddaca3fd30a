/- WordRank: the walk through the statement's own code, a theorem a path. -/
import Derived.Test.YtjkajepkeepelaaPWx3
import Derived.Test.YtjkajepkeepelaaLNth
set_option linter.unusedVariables false
set_option linter.unusedSimpArgs false
namespace Go.Proofs.Ytjkajepkeepelaa.WRank
open Go.RowKit Go.Proofs.YtjkajepkeepelaaW.PrintWords Go.Proofs.YtjkajepkeepelaaW.PrintLast Go.Proofs.YtjkajepkeepelaaW.PrintMore
open Go.Proofs.Ytjkajepkeepelaa

set_option maxHeartbeats 2000000 in
set_option maxRecDepth 100000 in
theorem pAf (K : Nat) (k0 k : Int) (x y u v wn t : ByteArray) (n a b f g c d i j : Int) (hk0 : PW.eggboxlaw01_letters.f k0 = some k) (hu : PA.eggboxlaw01_over.f K k x = some u) (hv : PA.eggboxlaw01_over.f K k y = some v)
    (hN : PW.word_Nth.f K k n = some (wn, 0)) (hR : HRank.f k wn = some (n, 0)) (ha : HRank.f k u = some (a, f)) (hb : HRank.f k v = some (b, g)) (hc : PW.word_Compare.f K k u v = some (c, 0))
    (hkn : PW.eggboxlaw01_knows.f K = some true) (hf : (f != 0) = true) (w : World) :
    Calls Try.prog 9 #[.int .i64 k0, .string x, .string y, .int .u64 n] w fun e w' => e = .returned (.bool true) ∧ Below w.heap.size w w' := by
  have hnn : (n != n) = false := by simp
  have HB : Hid (Below w.heap.size w w) := Below.refl _ _
  go_enter Try.func9, Try.ntmps9
  go_wp2_with fail
  refine (PW.eggboxlaw01_letters.calls k0 k _ hk0).mono ?_
  rintro e wn' ⟨rfl, hb⟩
  replace HB : Hid (Below w.heap.size w wn') := below_then HB.out HB.out.size (by first | exact hb | exact hb.below)
  clear hb
  go_wp2_with fail
  refine (PA.eggboxlaw01_over.calls K k x u _ hu).mono ?_
  rintro e wn' ⟨rfl, hb⟩
  replace HB : Hid (Below w.heap.size w wn') := below_then HB.out HB.out.size (by first | exact hb | exact hb.below)
  clear hb
  go_wp2_with fail
  refine (PA.eggboxlaw01_over.calls K k y v _ hv).mono ?_
  rintro e wn' ⟨rfl, hb⟩
  replace HB : Hid (Below w.heap.size w wn') := below_then HB.out HB.out.size (by first | exact hb | exact hb.below)
  clear hb
  go_wp2_with fail
  refine (PW.word_Nth.calls K k n wn 0 _ hN).mono ?_
  rintro e wn' ⟨rfl, hb⟩
  replace HB : Hid (Below w.heap.size w wn') := below_then HB.out HB.out.size (by first | exact hb | exact hb.below)
  clear hb
  go_wp2_with fail
  refine (PW.eggboxlaw01_num.calls 0 0 _ rfl).mono ?_
  rintro e wn' ⟨rfl, hb⟩
  replace HB : Hid (Below w.heap.size w wn') := below_then HB.out HB.out.size (by first | exact hb | exact hb.below)
  clear hb
  go_wp2_with fail
  refine (HRank.all k wn n 0 _ hR).mono ?_
  rintro e wn' ⟨rfl, hb⟩
  replace HB : Hid (Below w.heap.size w wn') := below_then HB.out HB.out.size (by first | exact hb | exact hb.below)
  clear hb
  go_wp2_with fail
  refine (PW.eggboxlaw01_num.calls 0 0 _ rfl).mono ?_
  rintro e wn' ⟨rfl, hb⟩
  replace HB : Hid (Below w.heap.size w wn') := below_then HB.out HB.out.size (by first | exact hb | exact hb.below)
  clear hb
  go_wp2_with fail
  refine (HRank.all k u a f _ ha).mono ?_
  rintro e wn' ⟨rfl, hb⟩
  replace HB : Hid (Below w.heap.size w wn') := below_then HB.out HB.out.size (by first | exact hb | exact hb.below)
  clear hb
  go_wp2_with fail
  refine (HRank.all k v b g _ hb).mono ?_
  rintro e wn' ⟨rfl, hb⟩
  replace HB : Hid (Below w.heap.size w wn') := below_then HB.out HB.out.size (by first | exact hb | exact hb.below)
  clear hb
  go_wp2_with fail
  refine (PW.word_Compare.calls K k u v c 0 _ hc).mono ?_
  rintro e wn' ⟨rfl, hb⟩
  replace HB : Hid (Below w.heap.size w wn') := below_then HB.out HB.out.size (by first | exact hb | exact hb.below)
  clear hb
  go_wp2_with fail
  refine (PW.eggboxlaw01_num.calls 0 0 _ rfl).mono ?_
  rintro e wn' ⟨rfl, hb⟩
  replace HB : Hid (Below w.heap.size w wn') := below_then HB.out HB.out.size (by first | exact hb | exact hb.below)
  clear hb
  go_wp2_with fail
  refine (PW.eggboxlaw01_knows.calls K true _ hkn).mono ?_
  rintro e wn' ⟨rfl, hb⟩
  replace HB : Hid (Below w.heap.size w wn') := below_then HB.out HB.out.size (by first | exact hb | exact hb.below)
  clear hb
  go_wp2_with fail
  refine (PW.eggboxlaw01_num.calls f f _ rfl).mono ?_
  rintro e wn' ⟨rfl, hb⟩
  replace HB : Hid (Below w.heap.size w wn') := below_then HB.out HB.out.size (by first | exact hb | exact hb.below)
  clear hb
  go_wp2_with fail
  go_ret
  exact ⟨by first | rfl | (simp [*]; done) | (simp; omega), HB.out⟩

set_option maxHeartbeats 2000000 in
set_option maxRecDepth 100000 in
theorem pAg (K : Nat) (k0 k : Int) (x y u v wn t : ByteArray) (n a b f g c d i j : Int) (hk0 : PW.eggboxlaw01_letters.f k0 = some k) (hu : PA.eggboxlaw01_over.f K k x = some u) (hv : PA.eggboxlaw01_over.f K k y = some v)
    (hN : PW.word_Nth.f K k n = some (wn, 0)) (hR : HRank.f k wn = some (n, 0)) (ha : HRank.f k u = some (a, 0)) (hb : HRank.f k v = some (b, g)) (hc : PW.word_Compare.f K k u v = some (c, 0))
    (hkn : PW.eggboxlaw01_knows.f K = some true) (hg : (g != 0) = true) (w : World) :
    Calls Try.prog 9 #[.int .i64 k0, .string x, .string y, .int .u64 n] w fun e w' => e = .returned (.bool true) ∧ Below w.heap.size w w' := by
  have hnn : (n != n) = false := by simp
  have HB : Hid (Below w.heap.size w w) := Below.refl _ _
  go_enter Try.func9, Try.ntmps9
  go_wp2_with fail
  refine (PW.eggboxlaw01_letters.calls k0 k _ hk0).mono ?_
  rintro e wn' ⟨rfl, hb⟩
  replace HB : Hid (Below w.heap.size w wn') := below_then HB.out HB.out.size (by first | exact hb | exact hb.below)
  clear hb
  go_wp2_with fail
  refine (PA.eggboxlaw01_over.calls K k x u _ hu).mono ?_
  rintro e wn' ⟨rfl, hb⟩
  replace HB : Hid (Below w.heap.size w wn') := below_then HB.out HB.out.size (by first | exact hb | exact hb.below)
  clear hb
  go_wp2_with fail
  refine (PA.eggboxlaw01_over.calls K k y v _ hv).mono ?_
  rintro e wn' ⟨rfl, hb⟩
  replace HB : Hid (Below w.heap.size w wn') := below_then HB.out HB.out.size (by first | exact hb | exact hb.below)
  clear hb
  go_wp2_with fail
  refine (PW.word_Nth.calls K k n wn 0 _ hN).mono ?_
  rintro e wn' ⟨rfl, hb⟩
  replace HB : Hid (Below w.heap.size w wn') := below_then HB.out HB.out.size (by first | exact hb | exact hb.below)
  clear hb
  go_wp2_with fail
  refine (PW.eggboxlaw01_num.calls 0 0 _ rfl).mono ?_
  rintro e wn' ⟨rfl, hb⟩
  replace HB : Hid (Below w.heap.size w wn') := below_then HB.out HB.out.size (by first | exact hb | exact hb.below)
  clear hb
  go_wp2_with fail
  refine (HRank.all k wn n 0 _ hR).mono ?_
  rintro e wn' ⟨rfl, hb⟩
  replace HB : Hid (Below w.heap.size w wn') := below_then HB.out HB.out.size (by first | exact hb | exact hb.below)
  clear hb
  go_wp2_with fail
  refine (PW.eggboxlaw01_num.calls 0 0 _ rfl).mono ?_
  rintro e wn' ⟨rfl, hb⟩
  replace HB : Hid (Below w.heap.size w wn') := below_then HB.out HB.out.size (by first | exact hb | exact hb.below)
  clear hb
  go_wp2_with fail
  refine (HRank.all k u a 0 _ ha).mono ?_
  rintro e wn' ⟨rfl, hb⟩
  replace HB : Hid (Below w.heap.size w wn') := below_then HB.out HB.out.size (by first | exact hb | exact hb.below)
  clear hb
  go_wp2_with fail
  refine (HRank.all k v b g _ hb).mono ?_
  rintro e wn' ⟨rfl, hb⟩
  replace HB : Hid (Below w.heap.size w wn') := below_then HB.out HB.out.size (by first | exact hb | exact hb.below)
  clear hb
  go_wp2_with fail
  refine (PW.word_Compare.calls K k u v c 0 _ hc).mono ?_
  rintro e wn' ⟨rfl, hb⟩
  replace HB : Hid (Below w.heap.size w wn') := below_then HB.out HB.out.size (by first | exact hb | exact hb.below)
  clear hb
  go_wp2_with fail
  refine (PW.eggboxlaw01_num.calls 0 0 _ rfl).mono ?_
  rintro e wn' ⟨rfl, hb⟩
  replace HB : Hid (Below w.heap.size w wn') := below_then HB.out HB.out.size (by first | exact hb | exact hb.below)
  clear hb
  go_wp2_with fail
  refine (PW.eggboxlaw01_knows.calls K true _ hkn).mono ?_
  rintro e wn' ⟨rfl, hb⟩
  replace HB : Hid (Below w.heap.size w wn') := below_then HB.out HB.out.size (by first | exact hb | exact hb.below)
  clear hb
  go_wp2_with fail
  refine (PW.eggboxlaw01_num.calls 0 0 _ rfl).mono ?_
  rintro e wn' ⟨rfl, hb⟩
  replace HB : Hid (Below w.heap.size w wn') := below_then HB.out HB.out.size (by first | exact hb | exact hb.below)
  clear hb
  go_wp2_with fail
  refine (PW.eggboxlaw01_num.calls g g _ rfl).mono ?_
  rintro e wn' ⟨rfl, hb⟩
  replace HB : Hid (Below w.heap.size w wn') := below_then HB.out HB.out.size (by first | exact hb | exact hb.below)
  clear hb
  go_wp2_with fail
  go_ret
  exact ⟨by first | rfl | (simp [*]; done) | (simp; omega), HB.out⟩

set_option maxHeartbeats 2000000 in
set_option maxRecDepth 100000 in
theorem pAn0 (K : Nat) (k0 k : Int) (x y u v wn t : ByteArray) (n a b f g c d i j : Int) (hk0 : PW.eggboxlaw01_letters.f k0 = some k) (hu : PA.eggboxlaw01_over.f K k x = some u) (hv : PA.eggboxlaw01_over.f K k y = some v)
    (hN : PW.word_Nth.f K k n = some (wn, 0)) (hR : HRank.f k wn = some (n, 0)) (ha : HRank.f k u = some (a, 0)) (hb : HRank.f k v = some (a, 0)) (hc : PW.word_Compare.f K k u v = some (0, 0))
    (hkn : PW.eggboxlaw01_knows.f K = some true) (hab : (a != a) = false) (hn : HNext.g k u = some (t, i)) (hi : (i != 0) = true) (hu4 : 4096 ≤ u.size) (w : World) :
    Calls Try.prog 9 #[.int .i64 k0, .string x, .string y, .int .u64 n] w fun e w' => e = .returned (.bool true) ∧ Below w.heap.size w w' := by
  have hnn : (n != n) = false := by simp
  have HB : Hid (Below w.heap.size w w) := Below.refl _ _
  go_enter Try.func9, Try.ntmps9
  go_wp2_with fail
  refine (PW.eggboxlaw01_letters.calls k0 k _ hk0).mono ?_
  rintro e wn' ⟨rfl, hb⟩
  replace HB : Hid (Below w.heap.size w wn') := below_then HB.out HB.out.size (by first | exact hb | exact hb.below)
  clear hb
  go_wp2_with fail
  refine (PA.eggboxlaw01_over.calls K k x u _ hu).mono ?_
  rintro e wn' ⟨rfl, hb⟩
  replace HB : Hid (Below w.heap.size w wn') := below_then HB.out HB.out.size (by first | exact hb | exact hb.below)
  clear hb
  go_wp2_with fail
  refine (PA.eggboxlaw01_over.calls K k y v _ hv).mono ?_
  rintro e wn' ⟨rfl, hb⟩
  replace HB : Hid (Below w.heap.size w wn') := below_then HB.out HB.out.size (by first | exact hb | exact hb.below)
  clear hb
  go_wp2_with fail
  refine (PW.word_Nth.calls K k n wn 0 _ hN).mono ?_
  rintro e wn' ⟨rfl, hb⟩
  replace HB : Hid (Below w.heap.size w wn') := below_then HB.out HB.out.size (by first | exact hb | exact hb.below)
  clear hb
  go_wp2_with fail
  refine (PW.eggboxlaw01_num.calls 0 0 _ rfl).mono ?_
  rintro e wn' ⟨rfl, hb⟩
  replace HB : Hid (Below w.heap.size w wn') := below_then HB.out HB.out.size (by first | exact hb | exact hb.below)
  clear hb
  go_wp2_with fail
  refine (HRank.all k wn n 0 _ hR).mono ?_
  rintro e wn' ⟨rfl, hb⟩
  replace HB : Hid (Below w.heap.size w wn') := below_then HB.out HB.out.size (by first | exact hb | exact hb.below)
  clear hb
  go_wp2_with fail
  refine (PW.eggboxlaw01_num.calls 0 0 _ rfl).mono ?_
  rintro e wn' ⟨rfl, hb⟩
  replace HB : Hid (Below w.heap.size w wn') := below_then HB.out HB.out.size (by first | exact hb | exact hb.below)
  clear hb
  go_wp2_with fail
  refine (HRank.all k u a 0 _ ha).mono ?_
  rintro e wn' ⟨rfl, hb⟩
  replace HB : Hid (Below w.heap.size w wn') := below_then HB.out HB.out.size (by first | exact hb | exact hb.below)
  clear hb
  go_wp2_with fail
  refine (HRank.all k v a 0 _ hb).mono ?_
  rintro e wn' ⟨rfl, hb⟩
  replace HB : Hid (Below w.heap.size w wn') := below_then HB.out HB.out.size (by first | exact hb | exact hb.below)
  clear hb
  go_wp2_with fail
  refine (PW.word_Compare.calls K k u v 0 0 _ hc).mono ?_
  rintro e wn' ⟨rfl, hb⟩
  replace HB : Hid (Below w.heap.size w wn') := below_then HB.out HB.out.size (by first | exact hb | exact hb.below)
  clear hb
  go_wp2_with fail
  refine (PW.eggboxlaw01_num.calls 0 0 _ rfl).mono ?_
  rintro e wn' ⟨rfl, hb⟩
  replace HB : Hid (Below w.heap.size w wn') := below_then HB.out HB.out.size (by first | exact hb | exact hb.below)
  clear hb
  go_wp2_with fail
  refine (PW.eggboxlaw01_knows.calls K true _ hkn).mono ?_
  rintro e wn' ⟨rfl, hb⟩
  replace HB : Hid (Below w.heap.size w wn') := below_then HB.out HB.out.size (by first | exact hb | exact hb.below)
  clear hb
  go_wp2_with fail
  refine (PW.eggboxlaw01_num.calls 0 0 _ rfl).mono ?_
  rintro e wn' ⟨rfl, hb⟩
  replace HB : Hid (Below w.heap.size w wn') := below_then HB.out HB.out.size (by first | exact hb | exact hb.below)
  clear hb
  go_wp2_with fail
  refine (PW.eggboxlaw01_num.calls 0 0 _ rfl).mono ?_
  rintro e wn' ⟨rfl, hb⟩
  replace HB : Hid (Below w.heap.size w wn') := below_then HB.out HB.out.size (by first | exact hb | exact hb.below)
  clear hb
  go_wp2_with fail
  refine (HNext.all k u t i _ hn).mono ?_
  rintro e wn' ⟨rfl, hb⟩
  replace HB : Hid (Below w.heap.size w wn') := below_then HB.out HB.out.size (by first | exact hb | exact hb.below)
  clear hb
  go_wp2_with fail
  refine (PW.eggboxlaw01_num.calls i i _ rfl).mono ?_
  rintro e wn' ⟨rfl, hb⟩
  replace HB : Hid (Below w.heap.size w wn') := below_then HB.out HB.out.size (by first | exact hb | exact hb.below)
  clear hb
  go_wp2_with fail
  go_ret
  exact ⟨by first | rfl | (simp [*]; done) | (simp; omega), HB.out⟩

set_option maxHeartbeats 2000000 in
set_option maxRecDepth 100000 in
theorem pAnm (K : Nat) (k0 k : Int) (x y u v wn t : ByteArray) (n a b f g c d i j : Int) (hk0 : PW.eggboxlaw01_letters.f k0 = some k) (hu : PA.eggboxlaw01_over.f K k x = some u) (hv : PA.eggboxlaw01_over.f K k y = some v)
    (hN : PW.word_Nth.f K k n = some (wn, 0)) (hR : HRank.f k wn = some (n, 0)) (ha : HRank.f k u = some (a, 0)) (hb : HRank.f k v = some (b, 0)) (hc : PW.word_Compare.f K k u v = some (-1, 0))
    (hkn : PW.eggboxlaw01_knows.f K = some true) (hab : a < b) (hn : HNext.g k u = some (t, i)) (hi : (i != 0) = true) (hu4 : 4096 ≤ u.size) (w : World) :
    Calls Try.prog 9 #[.int .i64 k0, .string x, .string y, .int .u64 n] w fun e w' => e = .returned (.bool true) ∧ Below w.heap.size w w' := by
  have hnn : (n != n) = false := by simp
  have HB : Hid (Below w.heap.size w w) := Below.refl _ _
  go_enter Try.func9, Try.ntmps9
  go_wp2_with fail
  refine (PW.eggboxlaw01_letters.calls k0 k _ hk0).mono ?_
  rintro e wn' ⟨rfl, hb⟩
  replace HB : Hid (Below w.heap.size w wn') := below_then HB.out HB.out.size (by first | exact hb | exact hb.below)
  clear hb
  go_wp2_with fail
  refine (PA.eggboxlaw01_over.calls K k x u _ hu).mono ?_
  rintro e wn' ⟨rfl, hb⟩
  replace HB : Hid (Below w.heap.size w wn') := below_then HB.out HB.out.size (by first | exact hb | exact hb.below)
  clear hb
  go_wp2_with fail
  refine (PA.eggboxlaw01_over.calls K k y v _ hv).mono ?_
  rintro e wn' ⟨rfl, hb⟩
  replace HB : Hid (Below w.heap.size w wn') := below_then HB.out HB.out.size (by first | exact hb | exact hb.below)
  clear hb
  go_wp2_with fail
  refine (PW.word_Nth.calls K k n wn 0 _ hN).mono ?_
  rintro e wn' ⟨rfl, hb⟩
  replace HB : Hid (Below w.heap.size w wn') := below_then HB.out HB.out.size (by first | exact hb | exact hb.below)
  clear hb
  go_wp2_with fail
  refine (PW.eggboxlaw01_num.calls 0 0 _ rfl).mono ?_
  rintro e wn' ⟨rfl, hb⟩
  replace HB : Hid (Below w.heap.size w wn') := below_then HB.out HB.out.size (by first | exact hb | exact hb.below)
  clear hb
  go_wp2_with fail
  refine (HRank.all k wn n 0 _ hR).mono ?_
  rintro e wn' ⟨rfl, hb⟩
  replace HB : Hid (Below w.heap.size w wn') := below_then HB.out HB.out.size (by first | exact hb | exact hb.below)
  clear hb
  go_wp2_with fail
  refine (PW.eggboxlaw01_num.calls 0 0 _ rfl).mono ?_
  rintro e wn' ⟨rfl, hb⟩
  replace HB : Hid (Below w.heap.size w wn') := below_then HB.out HB.out.size (by first | exact hb | exact hb.below)
  clear hb
  go_wp2_with fail
  refine (HRank.all k u a 0 _ ha).mono ?_
  rintro e wn' ⟨rfl, hb⟩
  replace HB : Hid (Below w.heap.size w wn') := below_then HB.out HB.out.size (by first | exact hb | exact hb.below)
  clear hb
  go_wp2_with fail
  refine (HRank.all k v b 0 _ hb).mono ?_
  rintro e wn' ⟨rfl, hb⟩
  replace HB : Hid (Below w.heap.size w wn') := below_then HB.out HB.out.size (by first | exact hb | exact hb.below)
  clear hb
  go_wp2_with fail
  refine (PW.word_Compare.calls K k u v (-1) 0 _ hc).mono ?_
  rintro e wn' ⟨rfl, hb⟩
  replace HB : Hid (Below w.heap.size w wn') := below_then HB.out HB.out.size (by first | exact hb | exact hb.below)
  clear hb
  go_wp2_with fail
  refine (PW.eggboxlaw01_num.calls 0 0 _ rfl).mono ?_
  rintro e wn' ⟨rfl, hb⟩
  replace HB : Hid (Below w.heap.size w wn') := below_then HB.out HB.out.size (by first | exact hb | exact hb.below)
  clear hb
  go_wp2_with fail
  refine (PW.eggboxlaw01_knows.calls K true _ hkn).mono ?_
  rintro e wn' ⟨rfl, hb⟩
  replace HB : Hid (Below w.heap.size w wn') := below_then HB.out HB.out.size (by first | exact hb | exact hb.below)
  clear hb
  go_wp2_with fail
  refine (PW.eggboxlaw01_num.calls 0 0 _ rfl).mono ?_
  rintro e wn' ⟨rfl, hb⟩
  replace HB : Hid (Below w.heap.size w wn') := below_then HB.out HB.out.size (by first | exact hb | exact hb.below)
  clear hb
  go_wp2_with fail
  refine (PW.eggboxlaw01_num.calls 0 0 _ rfl).mono ?_
  rintro e wn' ⟨rfl, hb⟩
  replace HB : Hid (Below w.heap.size w wn') := below_then HB.out HB.out.size (by first | exact hb | exact hb.below)
  clear hb
  go_wp2_with fail
  refine (HNext.all k u t i _ hn).mono ?_
  rintro e wn' ⟨rfl, hb⟩
  replace HB : Hid (Below w.heap.size w wn') := below_then HB.out HB.out.size (by first | exact hb | exact hb.below)
  clear hb
  go_wp2_with fail
  refine (PW.eggboxlaw01_num.calls i i _ rfl).mono ?_
  rintro e wn' ⟨rfl, hb⟩
  replace HB : Hid (Below w.heap.size w wn') := below_then HB.out HB.out.size (by first | exact hb | exact hb.below)
  clear hb
  go_wp2_with fail
  go_ret
  exact ⟨by first | rfl | (simp [*]; done) | (simp; omega), HB.out⟩

set_option maxHeartbeats 2000000 in
set_option maxRecDepth 100000 in
theorem pAnp (K : Nat) (k0 k : Int) (x y u v wn t : ByteArray) (n a b f g c d i j : Int) (hk0 : PW.eggboxlaw01_letters.f k0 = some k) (hu : PA.eggboxlaw01_over.f K k x = some u) (hv : PA.eggboxlaw01_over.f K k y = some v)
    (hN : PW.word_Nth.f K k n = some (wn, 0)) (hR : HRank.f k wn = some (n, 0)) (ha : HRank.f k u = some (a, 0)) (hb : HRank.f k v = some (b, 0)) (hc : PW.word_Compare.f K k u v = some (1, 0))
    (hkn : PW.eggboxlaw01_knows.f K = some true) (hab : b < a) (hn : HNext.g k u = some (t, i)) (hi : (i != 0) = true) (hu4 : 4096 ≤ u.size) (w : World) :
    Calls Try.prog 9 #[.int .i64 k0, .string x, .string y, .int .u64 n] w fun e w' => e = .returned (.bool true) ∧ Below w.heap.size w w' := by
  have hnn : (n != n) = false := by simp
  have HB : Hid (Below w.heap.size w w) := Below.refl _ _
  go_enter Try.func9, Try.ntmps9
  go_wp2_with fail
  refine (PW.eggboxlaw01_letters.calls k0 k _ hk0).mono ?_
  rintro e wn' ⟨rfl, hb⟩
  replace HB : Hid (Below w.heap.size w wn') := below_then HB.out HB.out.size (by first | exact hb | exact hb.below)
  clear hb
  go_wp2_with fail
  refine (PA.eggboxlaw01_over.calls K k x u _ hu).mono ?_
  rintro e wn' ⟨rfl, hb⟩
  replace HB : Hid (Below w.heap.size w wn') := below_then HB.out HB.out.size (by first | exact hb | exact hb.below)
  clear hb
  go_wp2_with fail
  refine (PA.eggboxlaw01_over.calls K k y v _ hv).mono ?_
  rintro e wn' ⟨rfl, hb⟩
  replace HB : Hid (Below w.heap.size w wn') := below_then HB.out HB.out.size (by first | exact hb | exact hb.below)
  clear hb
  go_wp2_with fail
  refine (PW.word_Nth.calls K k n wn 0 _ hN).mono ?_
  rintro e wn' ⟨rfl, hb⟩
  replace HB : Hid (Below w.heap.size w wn') := below_then HB.out HB.out.size (by first | exact hb | exact hb.below)
  clear hb
  go_wp2_with fail
  refine (PW.eggboxlaw01_num.calls 0 0 _ rfl).mono ?_
  rintro e wn' ⟨rfl, hb⟩
  replace HB : Hid (Below w.heap.size w wn') := below_then HB.out HB.out.size (by first | exact hb | exact hb.below)
  clear hb
  go_wp2_with fail
  refine (HRank.all k wn n 0 _ hR).mono ?_
  rintro e wn' ⟨rfl, hb⟩
  replace HB : Hid (Below w.heap.size w wn') := below_then HB.out HB.out.size (by first | exact hb | exact hb.below)
  clear hb
  go_wp2_with fail
  refine (PW.eggboxlaw01_num.calls 0 0 _ rfl).mono ?_
  rintro e wn' ⟨rfl, hb⟩
  replace HB : Hid (Below w.heap.size w wn') := below_then HB.out HB.out.size (by first | exact hb | exact hb.below)
  clear hb
  go_wp2_with fail
  refine (HRank.all k u a 0 _ ha).mono ?_
  rintro e wn' ⟨rfl, hb⟩
  replace HB : Hid (Below w.heap.size w wn') := below_then HB.out HB.out.size (by first | exact hb | exact hb.below)
  clear hb
  go_wp2_with fail
  refine (HRank.all k v b 0 _ hb).mono ?_
  rintro e wn' ⟨rfl, hb⟩
  replace HB : Hid (Below w.heap.size w wn') := below_then HB.out HB.out.size (by first | exact hb | exact hb.below)
  clear hb
  go_wp2_with fail
  refine (PW.word_Compare.calls K k u v 1 0 _ hc).mono ?_
  rintro e wn' ⟨rfl, hb⟩
  replace HB : Hid (Below w.heap.size w wn') := below_then HB.out HB.out.size (by first | exact hb | exact hb.below)
  clear hb
  go_wp2_with fail
  refine (PW.eggboxlaw01_num.calls 0 0 _ rfl).mono ?_
  rintro e wn' ⟨rfl, hb⟩
  replace HB : Hid (Below w.heap.size w wn') := below_then HB.out HB.out.size (by first | exact hb | exact hb.below)
  clear hb
  go_wp2_with fail
  refine (PW.eggboxlaw01_knows.calls K true _ hkn).mono ?_
  rintro e wn' ⟨rfl, hb⟩
  replace HB : Hid (Below w.heap.size w wn') := below_then HB.out HB.out.size (by first | exact hb | exact hb.below)
  clear hb
  go_wp2_with fail
  refine (PW.eggboxlaw01_num.calls 0 0 _ rfl).mono ?_
  rintro e wn' ⟨rfl, hb⟩
  replace HB : Hid (Below w.heap.size w wn') := below_then HB.out HB.out.size (by first | exact hb | exact hb.below)
  clear hb
  go_wp2_with fail
  refine (PW.eggboxlaw01_num.calls 0 0 _ rfl).mono ?_
  rintro e wn' ⟨rfl, hb⟩
  replace HB : Hid (Below w.heap.size w wn') := below_then HB.out HB.out.size (by first | exact hb | exact hb.below)
  clear hb
  go_wp2_with fail
  refine (HNext.all k u t i _ hn).mono ?_
  rintro e wn' ⟨rfl, hb⟩
  replace HB : Hid (Below w.heap.size w wn') := below_then HB.out HB.out.size (by first | exact hb | exact hb.below)
  clear hb
  go_wp2_with fail
  refine (PW.eggboxlaw01_num.calls i i _ rfl).mono ?_
  rintro e wn' ⟨rfl, hb⟩
  replace HB : Hid (Below w.heap.size w wn') := below_then HB.out HB.out.size (by first | exact hb | exact hb.below)
  clear hb
  go_wp2_with fail
  go_ret
  exact ⟨by first | rfl | (simp [*]; done) | (simp; omega), HB.out⟩

set_option maxHeartbeats 2000000 in
set_option maxRecDepth 100000 in
theorem pAj0 (K : Nat) (k0 k : Int) (x y u v wn t : ByteArray) (n a b f g c d i j : Int) (hk0 : PW.eggboxlaw01_letters.f k0 = some k) (hu : PA.eggboxlaw01_over.f K k x = some u) (hv : PA.eggboxlaw01_over.f K k y = some v)
    (hN : PW.word_Nth.f K k n = some (wn, 0)) (hR : HRank.f k wn = some (n, 0)) (ha : HRank.f k u = some (18446744073709551615, 0)) (hb : HRank.f k v = some (18446744073709551615, 0)) (hc : PW.word_Compare.f K k u v = some (0, 0))
    (hkn : PW.eggboxlaw01_knows.f K = some true) (hab : (18446744073709551615 != 18446744073709551615) = false) (hn : HNext.g k u = some (t, 0)) (hj : HRank.f k t = some (d, j)) (hj0 : (j != 0) = true) (w : World) :
    Calls Try.prog 9 #[.int .i64 k0, .string x, .string y, .int .u64 n] w fun e w' => e = .returned (.bool true) ∧ Below w.heap.size w w' := by
  have hnn : (n != n) = false := by simp
  have HB : Hid (Below w.heap.size w w) := Below.refl _ _
  go_enter Try.func9, Try.ntmps9
  go_wp2_with fail
  refine (PW.eggboxlaw01_letters.calls k0 k _ hk0).mono ?_
  rintro e wn' ⟨rfl, hb⟩
  replace HB : Hid (Below w.heap.size w wn') := below_then HB.out HB.out.size (by first | exact hb | exact hb.below)
  clear hb
  go_wp2_with fail
  refine (PA.eggboxlaw01_over.calls K k x u _ hu).mono ?_
  rintro e wn' ⟨rfl, hb⟩
  replace HB : Hid (Below w.heap.size w wn') := below_then HB.out HB.out.size (by first | exact hb | exact hb.below)
  clear hb
  go_wp2_with fail
  refine (PA.eggboxlaw01_over.calls K k y v _ hv).mono ?_
  rintro e wn' ⟨rfl, hb⟩
  replace HB : Hid (Below w.heap.size w wn') := below_then HB.out HB.out.size (by first | exact hb | exact hb.below)
  clear hb
  go_wp2_with fail
  refine (PW.word_Nth.calls K k n wn 0 _ hN).mono ?_
  rintro e wn' ⟨rfl, hb⟩
  replace HB : Hid (Below w.heap.size w wn') := below_then HB.out HB.out.size (by first | exact hb | exact hb.below)
  clear hb
  go_wp2_with fail
  refine (PW.eggboxlaw01_num.calls 0 0 _ rfl).mono ?_
  rintro e wn' ⟨rfl, hb⟩
  replace HB : Hid (Below w.heap.size w wn') := below_then HB.out HB.out.size (by first | exact hb | exact hb.below)
  clear hb
  go_wp2_with fail
  refine (HRank.all k wn n 0 _ hR).mono ?_
  rintro e wn' ⟨rfl, hb⟩
  replace HB : Hid (Below w.heap.size w wn') := below_then HB.out HB.out.size (by first | exact hb | exact hb.below)
  clear hb
  go_wp2_with fail
  refine (PW.eggboxlaw01_num.calls 0 0 _ rfl).mono ?_
  rintro e wn' ⟨rfl, hb⟩
  replace HB : Hid (Below w.heap.size w wn') := below_then HB.out HB.out.size (by first | exact hb | exact hb.below)
  clear hb
  go_wp2_with fail
  refine (HRank.all k u 18446744073709551615 0 _ ha).mono ?_
  rintro e wn' ⟨rfl, hb⟩
  replace HB : Hid (Below w.heap.size w wn') := below_then HB.out HB.out.size (by first | exact hb | exact hb.below)
  clear hb
  go_wp2_with fail
  refine (HRank.all k v 18446744073709551615 0 _ hb).mono ?_
  rintro e wn' ⟨rfl, hb⟩
  replace HB : Hid (Below w.heap.size w wn') := below_then HB.out HB.out.size (by first | exact hb | exact hb.below)
  clear hb
  go_wp2_with fail
  refine (PW.word_Compare.calls K k u v 0 0 _ hc).mono ?_
  rintro e wn' ⟨rfl, hb⟩
  replace HB : Hid (Below w.heap.size w wn') := below_then HB.out HB.out.size (by first | exact hb | exact hb.below)
  clear hb
  go_wp2_with fail
  refine (PW.eggboxlaw01_num.calls 0 0 _ rfl).mono ?_
  rintro e wn' ⟨rfl, hb⟩
  replace HB : Hid (Below w.heap.size w wn') := below_then HB.out HB.out.size (by first | exact hb | exact hb.below)
  clear hb
  go_wp2_with fail
  refine (PW.eggboxlaw01_knows.calls K true _ hkn).mono ?_
  rintro e wn' ⟨rfl, hb⟩
  replace HB : Hid (Below w.heap.size w wn') := below_then HB.out HB.out.size (by first | exact hb | exact hb.below)
  clear hb
  go_wp2_with fail
  refine (PW.eggboxlaw01_num.calls 0 0 _ rfl).mono ?_
  rintro e wn' ⟨rfl, hb⟩
  replace HB : Hid (Below w.heap.size w wn') := below_then HB.out HB.out.size (by first | exact hb | exact hb.below)
  clear hb
  go_wp2_with fail
  refine (PW.eggboxlaw01_num.calls 0 0 _ rfl).mono ?_
  rintro e wn' ⟨rfl, hb⟩
  replace HB : Hid (Below w.heap.size w wn') := below_then HB.out HB.out.size (by first | exact hb | exact hb.below)
  clear hb
  go_wp2_with fail
  refine (HNext.all k u t 0 _ hn).mono ?_
  rintro e wn' ⟨rfl, hb⟩
  replace HB : Hid (Below w.heap.size w wn') := below_then HB.out HB.out.size (by first | exact hb | exact hb.below)
  clear hb
  go_wp2_with fail
  refine (PW.eggboxlaw01_num.calls 0 0 _ rfl).mono ?_
  rintro e wn' ⟨rfl, hb⟩
  replace HB : Hid (Below w.heap.size w wn') := below_then HB.out HB.out.size (by first | exact hb | exact hb.below)
  clear hb
  go_wp2_with fail
  refine (HRank.all k t d j _ hj).mono ?_
  rintro e wn' ⟨rfl, hb⟩
  replace HB : Hid (Below w.heap.size w wn') := below_then HB.out HB.out.size (by first | exact hb | exact hb.below)
  clear hb
  go_wp2_with fail
  refine (PW.eggboxlaw01_num.calls j j _ rfl).mono ?_
  rintro e wn' ⟨rfl, hb⟩
  replace HB : Hid (Below w.heap.size w wn') := below_then HB.out HB.out.size (by first | exact hb | exact hb.below)
  clear hb
  go_wp2_with fail
  go_ret
  exact ⟨by first | rfl | (simp [*]; done) | (simp; omega), HB.out⟩

set_option maxHeartbeats 2000000 in
set_option maxRecDepth 100000 in
theorem pAjm (K : Nat) (k0 k : Int) (x y u v wn t : ByteArray) (n a b f g c d i j : Int) (hk0 : PW.eggboxlaw01_letters.f k0 = some k) (hu : PA.eggboxlaw01_over.f K k x = some u) (hv : PA.eggboxlaw01_over.f K k y = some v)
    (hN : PW.word_Nth.f K k n = some (wn, 0)) (hR : HRank.f k wn = some (n, 0)) (ha : HRank.f k u = some (18446744073709551615, 0)) (hb : HRank.f k v = some (b, 0)) (hc : PW.word_Compare.f K k u v = some (-1, 0))
    (hkn : PW.eggboxlaw01_knows.f K = some true) (hab : 18446744073709551615 < b) (hn : HNext.g k u = some (t, 0)) (hj : HRank.f k t = some (d, j)) (hj0 : (j != 0) = true) (w : World) :
    Calls Try.prog 9 #[.int .i64 k0, .string x, .string y, .int .u64 n] w fun e w' => e = .returned (.bool true) ∧ Below w.heap.size w w' := by
  have hnn : (n != n) = false := by simp
  have HB : Hid (Below w.heap.size w w) := Below.refl _ _
  go_enter Try.func9, Try.ntmps9
  go_wp2_with fail
  refine (PW.eggboxlaw01_letters.calls k0 k _ hk0).mono ?_
  rintro e wn' ⟨rfl, hb⟩
  replace HB : Hid (Below w.heap.size w wn') := below_then HB.out HB.out.size (by first | exact hb | exact hb.below)
  clear hb
  go_wp2_with fail
  refine (PA.eggboxlaw01_over.calls K k x u _ hu).mono ?_
  rintro e wn' ⟨rfl, hb⟩
  replace HB : Hid (Below w.heap.size w wn') := below_then HB.out HB.out.size (by first | exact hb | exact hb.below)
  clear hb
  go_wp2_with fail
  refine (PA.eggboxlaw01_over.calls K k y v _ hv).mono ?_
  rintro e wn' ⟨rfl, hb⟩
  replace HB : Hid (Below w.heap.size w wn') := below_then HB.out HB.out.size (by first | exact hb | exact hb.below)
  clear hb
  go_wp2_with fail
  refine (PW.word_Nth.calls K k n wn 0 _ hN).mono ?_
  rintro e wn' ⟨rfl, hb⟩
  replace HB : Hid (Below w.heap.size w wn') := below_then HB.out HB.out.size (by first | exact hb | exact hb.below)
  clear hb
  go_wp2_with fail
  refine (PW.eggboxlaw01_num.calls 0 0 _ rfl).mono ?_
  rintro e wn' ⟨rfl, hb⟩
  replace HB : Hid (Below w.heap.size w wn') := below_then HB.out HB.out.size (by first | exact hb | exact hb.below)
  clear hb
  go_wp2_with fail
  refine (HRank.all k wn n 0 _ hR).mono ?_
  rintro e wn' ⟨rfl, hb⟩
  replace HB : Hid (Below w.heap.size w wn') := below_then HB.out HB.out.size (by first | exact hb | exact hb.below)
  clear hb
  go_wp2_with fail
  refine (PW.eggboxlaw01_num.calls 0 0 _ rfl).mono ?_
  rintro e wn' ⟨rfl, hb⟩
  replace HB : Hid (Below w.heap.size w wn') := below_then HB.out HB.out.size (by first | exact hb | exact hb.below)
  clear hb
  go_wp2_with fail
  refine (HRank.all k u 18446744073709551615 0 _ ha).mono ?_
  rintro e wn' ⟨rfl, hb⟩
  replace HB : Hid (Below w.heap.size w wn') := below_then HB.out HB.out.size (by first | exact hb | exact hb.below)
  clear hb
  go_wp2_with fail
  refine (HRank.all k v b 0 _ hb).mono ?_
  rintro e wn' ⟨rfl, hb⟩
  replace HB : Hid (Below w.heap.size w wn') := below_then HB.out HB.out.size (by first | exact hb | exact hb.below)
  clear hb
  go_wp2_with fail
  refine (PW.word_Compare.calls K k u v (-1) 0 _ hc).mono ?_
  rintro e wn' ⟨rfl, hb⟩
  replace HB : Hid (Below w.heap.size w wn') := below_then HB.out HB.out.size (by first | exact hb | exact hb.below)
  clear hb
  go_wp2_with fail
  refine (PW.eggboxlaw01_num.calls 0 0 _ rfl).mono ?_
  rintro e wn' ⟨rfl, hb⟩
  replace HB : Hid (Below w.heap.size w wn') := below_then HB.out HB.out.size (by first | exact hb | exact hb.below)
  clear hb
  go_wp2_with fail
  refine (PW.eggboxlaw01_knows.calls K true _ hkn).mono ?_
  rintro e wn' ⟨rfl, hb⟩
  replace HB : Hid (Below w.heap.size w wn') := below_then HB.out HB.out.size (by first | exact hb | exact hb.below)
  clear hb
  go_wp2_with fail
  refine (PW.eggboxlaw01_num.calls 0 0 _ rfl).mono ?_
  rintro e wn' ⟨rfl, hb⟩
  replace HB : Hid (Below w.heap.size w wn') := below_then HB.out HB.out.size (by first | exact hb | exact hb.below)
  clear hb
  go_wp2_with fail
  refine (PW.eggboxlaw01_num.calls 0 0 _ rfl).mono ?_
  rintro e wn' ⟨rfl, hb⟩
  replace HB : Hid (Below w.heap.size w wn') := below_then HB.out HB.out.size (by first | exact hb | exact hb.below)
  clear hb
  go_wp2_with fail
  refine (HNext.all k u t 0 _ hn).mono ?_
  rintro e wn' ⟨rfl, hb⟩
  replace HB : Hid (Below w.heap.size w wn') := below_then HB.out HB.out.size (by first | exact hb | exact hb.below)
  clear hb
  go_wp2_with fail
  refine (PW.eggboxlaw01_num.calls 0 0 _ rfl).mono ?_
  rintro e wn' ⟨rfl, hb⟩
  replace HB : Hid (Below w.heap.size w wn') := below_then HB.out HB.out.size (by first | exact hb | exact hb.below)
  clear hb
  go_wp2_with fail
  refine (HRank.all k t d j _ hj).mono ?_
  rintro e wn' ⟨rfl, hb⟩
  replace HB : Hid (Below w.heap.size w wn') := below_then HB.out HB.out.size (by first | exact hb | exact hb.below)
  clear hb
  go_wp2_with fail
  refine (PW.eggboxlaw01_num.calls j j _ rfl).mono ?_
  rintro e wn' ⟨rfl, hb⟩
  replace HB : Hid (Below w.heap.size w wn') := below_then HB.out HB.out.size (by first | exact hb | exact hb.below)
  clear hb
  go_wp2_with fail
  go_ret
  exact ⟨by first | rfl | (simp [*]; done) | (simp; omega), HB.out⟩

set_option maxHeartbeats 2000000 in
set_option maxRecDepth 100000 in
theorem pAjp (K : Nat) (k0 k : Int) (x y u v wn t : ByteArray) (n a b f g c d i j : Int) (hk0 : PW.eggboxlaw01_letters.f k0 = some k) (hu : PA.eggboxlaw01_over.f K k x = some u) (hv : PA.eggboxlaw01_over.f K k y = some v)
    (hN : PW.word_Nth.f K k n = some (wn, 0)) (hR : HRank.f k wn = some (n, 0)) (ha : HRank.f k u = some (18446744073709551615, 0)) (hb : HRank.f k v = some (b, 0)) (hc : PW.word_Compare.f K k u v = some (1, 0))
    (hkn : PW.eggboxlaw01_knows.f K = some true) (hab : b < 18446744073709551615) (hn : HNext.g k u = some (t, 0)) (hj : HRank.f k t = some (d, j)) (hj0 : (j != 0) = true) (w : World) :
    Calls Try.prog 9 #[.int .i64 k0, .string x, .string y, .int .u64 n] w fun e w' => e = .returned (.bool true) ∧ Below w.heap.size w w' := by
  have hnn : (n != n) = false := by simp
  have HB : Hid (Below w.heap.size w w) := Below.refl _ _
  go_enter Try.func9, Try.ntmps9
  go_wp2_with fail
  refine (PW.eggboxlaw01_letters.calls k0 k _ hk0).mono ?_
  rintro e wn' ⟨rfl, hb⟩
  replace HB : Hid (Below w.heap.size w wn') := below_then HB.out HB.out.size (by first | exact hb | exact hb.below)
  clear hb
  go_wp2_with fail
  refine (PA.eggboxlaw01_over.calls K k x u _ hu).mono ?_
  rintro e wn' ⟨rfl, hb⟩
  replace HB : Hid (Below w.heap.size w wn') := below_then HB.out HB.out.size (by first | exact hb | exact hb.below)
  clear hb
  go_wp2_with fail
  refine (PA.eggboxlaw01_over.calls K k y v _ hv).mono ?_
  rintro e wn' ⟨rfl, hb⟩
  replace HB : Hid (Below w.heap.size w wn') := below_then HB.out HB.out.size (by first | exact hb | exact hb.below)
  clear hb
  go_wp2_with fail
  refine (PW.word_Nth.calls K k n wn 0 _ hN).mono ?_
  rintro e wn' ⟨rfl, hb⟩
  replace HB : Hid (Below w.heap.size w wn') := below_then HB.out HB.out.size (by first | exact hb | exact hb.below)
  clear hb
  go_wp2_with fail
  refine (PW.eggboxlaw01_num.calls 0 0 _ rfl).mono ?_
  rintro e wn' ⟨rfl, hb⟩
  replace HB : Hid (Below w.heap.size w wn') := below_then HB.out HB.out.size (by first | exact hb | exact hb.below)
  clear hb
  go_wp2_with fail
  refine (HRank.all k wn n 0 _ hR).mono ?_
  rintro e wn' ⟨rfl, hb⟩
  replace HB : Hid (Below w.heap.size w wn') := below_then HB.out HB.out.size (by first | exact hb | exact hb.below)
  clear hb
  go_wp2_with fail
  refine (PW.eggboxlaw01_num.calls 0 0 _ rfl).mono ?_
  rintro e wn' ⟨rfl, hb⟩
  replace HB : Hid (Below w.heap.size w wn') := below_then HB.out HB.out.size (by first | exact hb | exact hb.below)
  clear hb
  go_wp2_with fail
  refine (HRank.all k u 18446744073709551615 0 _ ha).mono ?_
  rintro e wn' ⟨rfl, hb⟩
  replace HB : Hid (Below w.heap.size w wn') := below_then HB.out HB.out.size (by first | exact hb | exact hb.below)
  clear hb
  go_wp2_with fail
  refine (HRank.all k v b 0 _ hb).mono ?_
  rintro e wn' ⟨rfl, hb⟩
  replace HB : Hid (Below w.heap.size w wn') := below_then HB.out HB.out.size (by first | exact hb | exact hb.below)
  clear hb
  go_wp2_with fail
  refine (PW.word_Compare.calls K k u v 1 0 _ hc).mono ?_
  rintro e wn' ⟨rfl, hb⟩
  replace HB : Hid (Below w.heap.size w wn') := below_then HB.out HB.out.size (by first | exact hb | exact hb.below)
  clear hb
  go_wp2_with fail
  refine (PW.eggboxlaw01_num.calls 0 0 _ rfl).mono ?_
  rintro e wn' ⟨rfl, hb⟩
  replace HB : Hid (Below w.heap.size w wn') := below_then HB.out HB.out.size (by first | exact hb | exact hb.below)
  clear hb
  go_wp2_with fail
  refine (PW.eggboxlaw01_knows.calls K true _ hkn).mono ?_
  rintro e wn' ⟨rfl, hb⟩
  replace HB : Hid (Below w.heap.size w wn') := below_then HB.out HB.out.size (by first | exact hb | exact hb.below)
  clear hb
  go_wp2_with fail
  refine (PW.eggboxlaw01_num.calls 0 0 _ rfl).mono ?_
  rintro e wn' ⟨rfl, hb⟩
  replace HB : Hid (Below w.heap.size w wn') := below_then HB.out HB.out.size (by first | exact hb | exact hb.below)
  clear hb
  go_wp2_with fail
  refine (PW.eggboxlaw01_num.calls 0 0 _ rfl).mono ?_
  rintro e wn' ⟨rfl, hb⟩
  replace HB : Hid (Below w.heap.size w wn') := below_then HB.out HB.out.size (by first | exact hb | exact hb.below)
  clear hb
  go_wp2_with fail
  refine (HNext.all k u t 0 _ hn).mono ?_
  rintro e wn' ⟨rfl, hb⟩
  replace HB : Hid (Below w.heap.size w wn') := below_then HB.out HB.out.size (by first | exact hb | exact hb.below)
  clear hb
  go_wp2_with fail
  refine (PW.eggboxlaw01_num.calls 0 0 _ rfl).mono ?_
  rintro e wn' ⟨rfl, hb⟩
  replace HB : Hid (Below w.heap.size w wn') := below_then HB.out HB.out.size (by first | exact hb | exact hb.below)
  clear hb
  go_wp2_with fail
  refine (HRank.all k t d j _ hj).mono ?_
  rintro e wn' ⟨rfl, hb⟩
  replace HB : Hid (Below w.heap.size w wn') := below_then HB.out HB.out.size (by first | exact hb | exact hb.below)
  clear hb
  go_wp2_with fail
  refine (PW.eggboxlaw01_num.calls j j _ rfl).mono ?_
  rintro e wn' ⟨rfl, hb⟩
  replace HB : Hid (Below w.heap.size w wn') := below_then HB.out HB.out.size (by first | exact hb | exact hb.below)
  clear hb
  go_wp2_with fail
  go_ret
  exact ⟨by first | rfl | (simp [*]; done) | (simp; omega), HB.out⟩

set_option maxHeartbeats 2000000 in
set_option maxRecDepth 100000 in
theorem pAk0 (K : Nat) (k0 k : Int) (x y u v wn t : ByteArray) (n a b f g c d i j : Int) (hk0 : PW.eggboxlaw01_letters.f k0 = some k) (hu : PA.eggboxlaw01_over.f K k x = some u) (hv : PA.eggboxlaw01_over.f K k y = some v)
    (hN : PW.word_Nth.f K k n = some (wn, 0)) (hR : HRank.f k wn = some (n, 0)) (ha : HRank.f k u = some (a, 0)) (hb : HRank.f k v = some (a, 0)) (hc : PW.word_Compare.f K k u v = some (0, 0))
    (hkn : PW.eggboxlaw01_knows.f K = some true) (hab : (a != a) = false) (hn : HNext.g k u = some (t, 0)) (hj : HRank.f k t = some (d, 0)) (hd : d = IntKind.u64.wrap (a + 1)) (w : World) :
    Calls Try.prog 9 #[.int .i64 k0, .string x, .string y, .int .u64 n] w fun e w' => e = .returned (.bool true) ∧ Below w.heap.size w w' := by
  have hnn : (n != n) = false := by simp
  have HB : Hid (Below w.heap.size w w) := Below.refl _ _
  go_enter Try.func9, Try.ntmps9
  go_wp2_with fail
  refine (PW.eggboxlaw01_letters.calls k0 k _ hk0).mono ?_
  rintro e wn' ⟨rfl, hb⟩
  replace HB : Hid (Below w.heap.size w wn') := below_then HB.out HB.out.size (by first | exact hb | exact hb.below)
  clear hb
  go_wp2_with fail
  refine (PA.eggboxlaw01_over.calls K k x u _ hu).mono ?_
  rintro e wn' ⟨rfl, hb⟩
  replace HB : Hid (Below w.heap.size w wn') := below_then HB.out HB.out.size (by first | exact hb | exact hb.below)
  clear hb
  go_wp2_with fail
  refine (PA.eggboxlaw01_over.calls K k y v _ hv).mono ?_
  rintro e wn' ⟨rfl, hb⟩
  replace HB : Hid (Below w.heap.size w wn') := below_then HB.out HB.out.size (by first | exact hb | exact hb.below)
  clear hb
  go_wp2_with fail
  refine (PW.word_Nth.calls K k n wn 0 _ hN).mono ?_
  rintro e wn' ⟨rfl, hb⟩
  replace HB : Hid (Below w.heap.size w wn') := below_then HB.out HB.out.size (by first | exact hb | exact hb.below)
  clear hb
  go_wp2_with fail
  refine (PW.eggboxlaw01_num.calls 0 0 _ rfl).mono ?_
  rintro e wn' ⟨rfl, hb⟩
  replace HB : Hid (Below w.heap.size w wn') := below_then HB.out HB.out.size (by first | exact hb | exact hb.below)
  clear hb
  go_wp2_with fail
  refine (HRank.all k wn n 0 _ hR).mono ?_
  rintro e wn' ⟨rfl, hb⟩
  replace HB : Hid (Below w.heap.size w wn') := below_then HB.out HB.out.size (by first | exact hb | exact hb.below)
  clear hb
  go_wp2_with fail
  refine (PW.eggboxlaw01_num.calls 0 0 _ rfl).mono ?_
  rintro e wn' ⟨rfl, hb⟩
  replace HB : Hid (Below w.heap.size w wn') := below_then HB.out HB.out.size (by first | exact hb | exact hb.below)
  clear hb
  go_wp2_with fail
  refine (HRank.all k u a 0 _ ha).mono ?_
  rintro e wn' ⟨rfl, hb⟩
  replace HB : Hid (Below w.heap.size w wn') := below_then HB.out HB.out.size (by first | exact hb | exact hb.below)
  clear hb
  go_wp2_with fail
  refine (HRank.all k v a 0 _ hb).mono ?_
  rintro e wn' ⟨rfl, hb⟩
  replace HB : Hid (Below w.heap.size w wn') := below_then HB.out HB.out.size (by first | exact hb | exact hb.below)
  clear hb
  go_wp2_with fail
  refine (PW.word_Compare.calls K k u v 0 0 _ hc).mono ?_
  rintro e wn' ⟨rfl, hb⟩
  replace HB : Hid (Below w.heap.size w wn') := below_then HB.out HB.out.size (by first | exact hb | exact hb.below)
  clear hb
  go_wp2_with fail
  refine (PW.eggboxlaw01_num.calls 0 0 _ rfl).mono ?_
  rintro e wn' ⟨rfl, hb⟩
  replace HB : Hid (Below w.heap.size w wn') := below_then HB.out HB.out.size (by first | exact hb | exact hb.below)
  clear hb
  go_wp2_with fail
  refine (PW.eggboxlaw01_knows.calls K true _ hkn).mono ?_
  rintro e wn' ⟨rfl, hb⟩
  replace HB : Hid (Below w.heap.size w wn') := below_then HB.out HB.out.size (by first | exact hb | exact hb.below)
  clear hb
  go_wp2_with fail
  refine (PW.eggboxlaw01_num.calls 0 0 _ rfl).mono ?_
  rintro e wn' ⟨rfl, hb⟩
  replace HB : Hid (Below w.heap.size w wn') := below_then HB.out HB.out.size (by first | exact hb | exact hb.below)
  clear hb
  go_wp2_with fail
  refine (PW.eggboxlaw01_num.calls 0 0 _ rfl).mono ?_
  rintro e wn' ⟨rfl, hb⟩
  replace HB : Hid (Below w.heap.size w wn') := below_then HB.out HB.out.size (by first | exact hb | exact hb.below)
  clear hb
  go_wp2_with fail
  refine (HNext.all k u t 0 _ hn).mono ?_
  rintro e wn' ⟨rfl, hb⟩
  replace HB : Hid (Below w.heap.size w wn') := below_then HB.out HB.out.size (by first | exact hb | exact hb.below)
  clear hb
  go_wp2_with fail
  refine (PW.eggboxlaw01_num.calls 0 0 _ rfl).mono ?_
  rintro e wn' ⟨rfl, hb⟩
  replace HB : Hid (Below w.heap.size w wn') := below_then HB.out HB.out.size (by first | exact hb | exact hb.below)
  clear hb
  go_wp2_with fail
  refine (HRank.all k t d 0 _ hj).mono ?_
  rintro e wn' ⟨rfl, hb⟩
  replace HB : Hid (Below w.heap.size w wn') := below_then HB.out HB.out.size (by first | exact hb | exact hb.below)
  clear hb
  go_wp2_with fail
  refine (PW.eggboxlaw01_num.calls 0 0 _ rfl).mono ?_
  rintro e wn' ⟨rfl, hb⟩
  replace HB : Hid (Below w.heap.size w wn') := below_then HB.out HB.out.size (by first | exact hb | exact hb.below)
  clear hb
  go_wp2_with fail
  refine (PW.eggboxlaw01_num.calls 0 0 _ rfl).mono ?_
  rintro e wn' ⟨rfl, hb⟩
  replace HB : Hid (Below w.heap.size w wn') := below_then HB.out HB.out.size (by first | exact hb | exact hb.below)
  clear hb
  go_wp2_with fail
  go_ret
  exact ⟨by first | rfl | (simp [*]; done) | (simp; omega), HB.out⟩

set_option maxHeartbeats 2000000 in
set_option maxRecDepth 100000 in
theorem pAkm (K : Nat) (k0 k : Int) (x y u v wn t : ByteArray) (n a b f g c d i j : Int) (hk0 : PW.eggboxlaw01_letters.f k0 = some k) (hu : PA.eggboxlaw01_over.f K k x = some u) (hv : PA.eggboxlaw01_over.f K k y = some v)
    (hN : PW.word_Nth.f K k n = some (wn, 0)) (hR : HRank.f k wn = some (n, 0)) (ha : HRank.f k u = some (a, 0)) (hb : HRank.f k v = some (b, 0)) (hc : PW.word_Compare.f K k u v = some (-1, 0))
    (hkn : PW.eggboxlaw01_knows.f K = some true) (hab : a < b) (hn : HNext.g k u = some (t, 0)) (hj : HRank.f k t = some (d, 0)) (hd : d = IntKind.u64.wrap (a + 1)) (w : World) :
    Calls Try.prog 9 #[.int .i64 k0, .string x, .string y, .int .u64 n] w fun e w' => e = .returned (.bool true) ∧ Below w.heap.size w w' := by
  have hnn : (n != n) = false := by simp
  have HB : Hid (Below w.heap.size w w) := Below.refl _ _
  go_enter Try.func9, Try.ntmps9
  go_wp2_with fail
  refine (PW.eggboxlaw01_letters.calls k0 k _ hk0).mono ?_
  rintro e wn' ⟨rfl, hb⟩
  replace HB : Hid (Below w.heap.size w wn') := below_then HB.out HB.out.size (by first | exact hb | exact hb.below)
  clear hb
  go_wp2_with fail
  refine (PA.eggboxlaw01_over.calls K k x u _ hu).mono ?_
  rintro e wn' ⟨rfl, hb⟩
  replace HB : Hid (Below w.heap.size w wn') := below_then HB.out HB.out.size (by first | exact hb | exact hb.below)
  clear hb
  go_wp2_with fail
  refine (PA.eggboxlaw01_over.calls K k y v _ hv).mono ?_
  rintro e wn' ⟨rfl, hb⟩
  replace HB : Hid (Below w.heap.size w wn') := below_then HB.out HB.out.size (by first | exact hb | exact hb.below)
  clear hb
  go_wp2_with fail
  refine (PW.word_Nth.calls K k n wn 0 _ hN).mono ?_
  rintro e wn' ⟨rfl, hb⟩
  replace HB : Hid (Below w.heap.size w wn') := below_then HB.out HB.out.size (by first | exact hb | exact hb.below)
  clear hb
  go_wp2_with fail
  refine (PW.eggboxlaw01_num.calls 0 0 _ rfl).mono ?_
  rintro e wn' ⟨rfl, hb⟩
  replace HB : Hid (Below w.heap.size w wn') := below_then HB.out HB.out.size (by first | exact hb | exact hb.below)
  clear hb
  go_wp2_with fail
  refine (HRank.all k wn n 0 _ hR).mono ?_
  rintro e wn' ⟨rfl, hb⟩
  replace HB : Hid (Below w.heap.size w wn') := below_then HB.out HB.out.size (by first | exact hb | exact hb.below)
  clear hb
  go_wp2_with fail
  refine (PW.eggboxlaw01_num.calls 0 0 _ rfl).mono ?_
  rintro e wn' ⟨rfl, hb⟩
  replace HB : Hid (Below w.heap.size w wn') := below_then HB.out HB.out.size (by first | exact hb | exact hb.below)
  clear hb
  go_wp2_with fail
  refine (HRank.all k u a 0 _ ha).mono ?_
  rintro e wn' ⟨rfl, hb⟩
  replace HB : Hid (Below w.heap.size w wn') := below_then HB.out HB.out.size (by first | exact hb | exact hb.below)
  clear hb
  go_wp2_with fail
  refine (HRank.all k v b 0 _ hb).mono ?_
  rintro e wn' ⟨rfl, hb⟩
  replace HB : Hid (Below w.heap.size w wn') := below_then HB.out HB.out.size (by first | exact hb | exact hb.below)
  clear hb
  go_wp2_with fail
  refine (PW.word_Compare.calls K k u v (-1) 0 _ hc).mono ?_
  rintro e wn' ⟨rfl, hb⟩
  replace HB : Hid (Below w.heap.size w wn') := below_then HB.out HB.out.size (by first | exact hb | exact hb.below)
  clear hb
  go_wp2_with fail
  refine (PW.eggboxlaw01_num.calls 0 0 _ rfl).mono ?_
  rintro e wn' ⟨rfl, hb⟩
  replace HB : Hid (Below w.heap.size w wn') := below_then HB.out HB.out.size (by first | exact hb | exact hb.below)
  clear hb
  go_wp2_with fail
  refine (PW.eggboxlaw01_knows.calls K true _ hkn).mono ?_
  rintro e wn' ⟨rfl, hb⟩
  replace HB : Hid (Below w.heap.size w wn') := below_then HB.out HB.out.size (by first | exact hb | exact hb.below)
  clear hb
  go_wp2_with fail
  refine (PW.eggboxlaw01_num.calls 0 0 _ rfl).mono ?_
  rintro e wn' ⟨rfl, hb⟩
  replace HB : Hid (Below w.heap.size w wn') := below_then HB.out HB.out.size (by first | exact hb | exact hb.below)
  clear hb
  go_wp2_with fail
  refine (PW.eggboxlaw01_num.calls 0 0 _ rfl).mono ?_
  rintro e wn' ⟨rfl, hb⟩
  replace HB : Hid (Below w.heap.size w wn') := below_then HB.out HB.out.size (by first | exact hb | exact hb.below)
  clear hb
  go_wp2_with fail
  refine (HNext.all k u t 0 _ hn).mono ?_
  rintro e wn' ⟨rfl, hb⟩
  replace HB : Hid (Below w.heap.size w wn') := below_then HB.out HB.out.size (by first | exact hb | exact hb.below)
  clear hb
  go_wp2_with fail
  refine (PW.eggboxlaw01_num.calls 0 0 _ rfl).mono ?_
  rintro e wn' ⟨rfl, hb⟩
  replace HB : Hid (Below w.heap.size w wn') := below_then HB.out HB.out.size (by first | exact hb | exact hb.below)
  clear hb
  go_wp2_with fail
  refine (HRank.all k t d 0 _ hj).mono ?_
  rintro e wn' ⟨rfl, hb⟩
  replace HB : Hid (Below w.heap.size w wn') := below_then HB.out HB.out.size (by first | exact hb | exact hb.below)
  clear hb
  go_wp2_with fail
  refine (PW.eggboxlaw01_num.calls 0 0 _ rfl).mono ?_
  rintro e wn' ⟨rfl, hb⟩
  replace HB : Hid (Below w.heap.size w wn') := below_then HB.out HB.out.size (by first | exact hb | exact hb.below)
  clear hb
  go_wp2_with fail
  refine (PW.eggboxlaw01_num.calls 0 0 _ rfl).mono ?_
  rintro e wn' ⟨rfl, hb⟩
  replace HB : Hid (Below w.heap.size w wn') := below_then HB.out HB.out.size (by first | exact hb | exact hb.below)
  clear hb
  go_wp2_with fail
  go_ret
  exact ⟨by first | rfl | (simp [*]; done) | (simp; omega), HB.out⟩

set_option maxHeartbeats 2000000 in
set_option maxRecDepth 100000 in
theorem pAkp (K : Nat) (k0 k : Int) (x y u v wn t : ByteArray) (n a b f g c d i j : Int) (hk0 : PW.eggboxlaw01_letters.f k0 = some k) (hu : PA.eggboxlaw01_over.f K k x = some u) (hv : PA.eggboxlaw01_over.f K k y = some v)
    (hN : PW.word_Nth.f K k n = some (wn, 0)) (hR : HRank.f k wn = some (n, 0)) (ha : HRank.f k u = some (a, 0)) (hb : HRank.f k v = some (b, 0)) (hc : PW.word_Compare.f K k u v = some (1, 0))
    (hkn : PW.eggboxlaw01_knows.f K = some true) (hab : b < a) (hn : HNext.g k u = some (t, 0)) (hj : HRank.f k t = some (d, 0)) (hd : d = IntKind.u64.wrap (a + 1)) (w : World) :
    Calls Try.prog 9 #[.int .i64 k0, .string x, .string y, .int .u64 n] w fun e w' => e = .returned (.bool true) ∧ Below w.heap.size w w' := by
  have hnn : (n != n) = false := by simp
  have HB : Hid (Below w.heap.size w w) := Below.refl _ _
  go_enter Try.func9, Try.ntmps9
  go_wp2_with fail
  refine (PW.eggboxlaw01_letters.calls k0 k _ hk0).mono ?_
  rintro e wn' ⟨rfl, hb⟩
  replace HB : Hid (Below w.heap.size w wn') := below_then HB.out HB.out.size (by first | exact hb | exact hb.below)
  clear hb
  go_wp2_with fail
  refine (PA.eggboxlaw01_over.calls K k x u _ hu).mono ?_
  rintro e wn' ⟨rfl, hb⟩
  replace HB : Hid (Below w.heap.size w wn') := below_then HB.out HB.out.size (by first | exact hb | exact hb.below)
  clear hb
  go_wp2_with fail
  refine (PA.eggboxlaw01_over.calls K k y v _ hv).mono ?_
  rintro e wn' ⟨rfl, hb⟩
  replace HB : Hid (Below w.heap.size w wn') := below_then HB.out HB.out.size (by first | exact hb | exact hb.below)
  clear hb
  go_wp2_with fail
  refine (PW.word_Nth.calls K k n wn 0 _ hN).mono ?_
  rintro e wn' ⟨rfl, hb⟩
  replace HB : Hid (Below w.heap.size w wn') := below_then HB.out HB.out.size (by first | exact hb | exact hb.below)
  clear hb
  go_wp2_with fail
  refine (PW.eggboxlaw01_num.calls 0 0 _ rfl).mono ?_
  rintro e wn' ⟨rfl, hb⟩
  replace HB : Hid (Below w.heap.size w wn') := below_then HB.out HB.out.size (by first | exact hb | exact hb.below)
  clear hb
  go_wp2_with fail
  refine (HRank.all k wn n 0 _ hR).mono ?_
  rintro e wn' ⟨rfl, hb⟩
  replace HB : Hid (Below w.heap.size w wn') := below_then HB.out HB.out.size (by first | exact hb | exact hb.below)
  clear hb
  go_wp2_with fail
  refine (PW.eggboxlaw01_num.calls 0 0 _ rfl).mono ?_
  rintro e wn' ⟨rfl, hb⟩
  replace HB : Hid (Below w.heap.size w wn') := below_then HB.out HB.out.size (by first | exact hb | exact hb.below)
  clear hb
  go_wp2_with fail
  refine (HRank.all k u a 0 _ ha).mono ?_
  rintro e wn' ⟨rfl, hb⟩
  replace HB : Hid (Below w.heap.size w wn') := below_then HB.out HB.out.size (by first | exact hb | exact hb.below)
  clear hb
  go_wp2_with fail
  refine (HRank.all k v b 0 _ hb).mono ?_
  rintro e wn' ⟨rfl, hb⟩
  replace HB : Hid (Below w.heap.size w wn') := below_then HB.out HB.out.size (by first | exact hb | exact hb.below)
  clear hb
  go_wp2_with fail
  refine (PW.word_Compare.calls K k u v 1 0 _ hc).mono ?_
  rintro e wn' ⟨rfl, hb⟩
  replace HB : Hid (Below w.heap.size w wn') := below_then HB.out HB.out.size (by first | exact hb | exact hb.below)
  clear hb
  go_wp2_with fail
  refine (PW.eggboxlaw01_num.calls 0 0 _ rfl).mono ?_
  rintro e wn' ⟨rfl, hb⟩
  replace HB : Hid (Below w.heap.size w wn') := below_then HB.out HB.out.size (by first | exact hb | exact hb.below)
  clear hb
  go_wp2_with fail
  refine (PW.eggboxlaw01_knows.calls K true _ hkn).mono ?_
  rintro e wn' ⟨rfl, hb⟩
  replace HB : Hid (Below w.heap.size w wn') := below_then HB.out HB.out.size (by first | exact hb | exact hb.below)
  clear hb
  go_wp2_with fail
  refine (PW.eggboxlaw01_num.calls 0 0 _ rfl).mono ?_
  rintro e wn' ⟨rfl, hb⟩
  replace HB : Hid (Below w.heap.size w wn') := below_then HB.out HB.out.size (by first | exact hb | exact hb.below)
  clear hb
  go_wp2_with fail
  refine (PW.eggboxlaw01_num.calls 0 0 _ rfl).mono ?_
  rintro e wn' ⟨rfl, hb⟩
  replace HB : Hid (Below w.heap.size w wn') := below_then HB.out HB.out.size (by first | exact hb | exact hb.below)
  clear hb
  go_wp2_with fail
  refine (HNext.all k u t 0 _ hn).mono ?_
  rintro e wn' ⟨rfl, hb⟩
  replace HB : Hid (Below w.heap.size w wn') := below_then HB.out HB.out.size (by first | exact hb | exact hb.below)
  clear hb
  go_wp2_with fail
  refine (PW.eggboxlaw01_num.calls 0 0 _ rfl).mono ?_
  rintro e wn' ⟨rfl, hb⟩
  replace HB : Hid (Below w.heap.size w wn') := below_then HB.out HB.out.size (by first | exact hb | exact hb.below)
  clear hb
  go_wp2_with fail
  refine (HRank.all k t d 0 _ hj).mono ?_
  rintro e wn' ⟨rfl, hb⟩
  replace HB : Hid (Below w.heap.size w wn') := below_then HB.out HB.out.size (by first | exact hb | exact hb.below)
  clear hb
  go_wp2_with fail
  refine (PW.eggboxlaw01_num.calls 0 0 _ rfl).mono ?_
  rintro e wn' ⟨rfl, hb⟩
  replace HB : Hid (Below w.heap.size w wn') := below_then HB.out HB.out.size (by first | exact hb | exact hb.below)
  clear hb
  go_wp2_with fail
  refine (PW.eggboxlaw01_num.calls 0 0 _ rfl).mono ?_
  rintro e wn' ⟨rfl, hb⟩
  replace HB : Hid (Below w.heap.size w wn') := below_then HB.out HB.out.size (by first | exact hb | exact hb.below)
  clear hb
  go_wp2_with fail
  go_ret
  exact ⟨by first | rfl | (simp [*]; done) | (simp; omega), HB.out⟩

set_option maxHeartbeats 2000000 in
set_option maxRecDepth 100000 in
theorem pBf (K : Nat) (k0 k : Int) (x y u v wn t : ByteArray) (n a b f g c d i j : Int) (hk0 : PW.eggboxlaw01_letters.f k0 = some 1) (hu : PA.eggboxlaw01_over.f K 1 x = some u) (hv : PA.eggboxlaw01_over.f K 1 y = some v)
    (hN : PW.word_Nth.f K 1 n = some (wn, 6)) (ha : HRank.f 1 u = some (a, f)) (hb : HRank.f 1 v = some (b, g)) (hc : PW.word_Compare.f K 1 u v = some (c, 0))
    (hkn : PW.eggboxlaw01_knows.f K = some true) (hf : (f != 0) = true) (w : World) :
    Calls Try.prog 9 #[.int .i64 k0, .string x, .string y, .int .u64 n] w fun e w' => e = .returned (.bool true) ∧ Below w.heap.size w w' := by
  have hnn : (n != n) = false := by simp
  have HB : Hid (Below w.heap.size w w) := Below.refl _ _
  go_enter Try.func9, Try.ntmps9
  go_wp2_with fail
  refine (PW.eggboxlaw01_letters.calls k0 1 _ hk0).mono ?_
  rintro e wn' ⟨rfl, hb⟩
  replace HB : Hid (Below w.heap.size w wn') := below_then HB.out HB.out.size (by first | exact hb | exact hb.below)
  clear hb
  go_wp2_with fail
  refine (PA.eggboxlaw01_over.calls K 1 x u _ hu).mono ?_
  rintro e wn' ⟨rfl, hb⟩
  replace HB : Hid (Below w.heap.size w wn') := below_then HB.out HB.out.size (by first | exact hb | exact hb.below)
  clear hb
  go_wp2_with fail
  refine (PA.eggboxlaw01_over.calls K 1 y v _ hv).mono ?_
  rintro e wn' ⟨rfl, hb⟩
  replace HB : Hid (Below w.heap.size w wn') := below_then HB.out HB.out.size (by first | exact hb | exact hb.below)
  clear hb
  go_wp2_with fail
  refine (PW.word_Nth.calls K 1 n wn 6 _ hN).mono ?_
  rintro e wn' ⟨rfl, hb⟩
  replace HB : Hid (Below w.heap.size w wn') := below_then HB.out HB.out.size (by first | exact hb | exact hb.below)
  clear hb
  go_wp2_with fail
  refine (PW.eggboxlaw01_num.calls 6 6 _ rfl).mono ?_
  rintro e wn' ⟨rfl, hb⟩
  replace HB : Hid (Below w.heap.size w wn') := below_then HB.out HB.out.size (by first | exact hb | exact hb.below)
  clear hb
  go_wp2_with fail
  refine (HRank.all 1 u a f _ ha).mono ?_
  rintro e wn' ⟨rfl, hb⟩
  replace HB : Hid (Below w.heap.size w wn') := below_then HB.out HB.out.size (by first | exact hb | exact hb.below)
  clear hb
  go_wp2_with fail
  refine (HRank.all 1 v b g _ hb).mono ?_
  rintro e wn' ⟨rfl, hb⟩
  replace HB : Hid (Below w.heap.size w wn') := below_then HB.out HB.out.size (by first | exact hb | exact hb.below)
  clear hb
  go_wp2_with fail
  refine (PW.word_Compare.calls K 1 u v c 0 _ hc).mono ?_
  rintro e wn' ⟨rfl, hb⟩
  replace HB : Hid (Below w.heap.size w wn') := below_then HB.out HB.out.size (by first | exact hb | exact hb.below)
  clear hb
  go_wp2_with fail
  refine (PW.eggboxlaw01_num.calls 0 0 _ rfl).mono ?_
  rintro e wn' ⟨rfl, hb⟩
  replace HB : Hid (Below w.heap.size w wn') := below_then HB.out HB.out.size (by first | exact hb | exact hb.below)
  clear hb
  go_wp2_with fail
  refine (PW.eggboxlaw01_knows.calls K true _ hkn).mono ?_
  rintro e wn' ⟨rfl, hb⟩
  replace HB : Hid (Below w.heap.size w wn') := below_then HB.out HB.out.size (by first | exact hb | exact hb.below)
  clear hb
  go_wp2_with fail
  refine (PW.eggboxlaw01_num.calls f f _ rfl).mono ?_
  rintro e wn' ⟨rfl, hb⟩
  replace HB : Hid (Below w.heap.size w wn') := below_then HB.out HB.out.size (by first | exact hb | exact hb.below)
  clear hb
  go_wp2_with fail
  go_ret
  exact ⟨by first | rfl | (simp [*]; done) | (simp; omega), HB.out⟩

set_option maxHeartbeats 2000000 in
set_option maxRecDepth 100000 in
theorem pBg (K : Nat) (k0 k : Int) (x y u v wn t : ByteArray) (n a b f g c d i j : Int) (hk0 : PW.eggboxlaw01_letters.f k0 = some 1) (hu : PA.eggboxlaw01_over.f K 1 x = some u) (hv : PA.eggboxlaw01_over.f K 1 y = some v)
    (hN : PW.word_Nth.f K 1 n = some (wn, 6)) (ha : HRank.f 1 u = some (a, 0)) (hb : HRank.f 1 v = some (b, g)) (hc : PW.word_Compare.f K 1 u v = some (c, 0))
    (hkn : PW.eggboxlaw01_knows.f K = some true) (hg : (g != 0) = true) (w : World) :
    Calls Try.prog 9 #[.int .i64 k0, .string x, .string y, .int .u64 n] w fun e w' => e = .returned (.bool true) ∧ Below w.heap.size w w' := by
  have hnn : (n != n) = false := by simp
  have HB : Hid (Below w.heap.size w w) := Below.refl _ _
  go_enter Try.func9, Try.ntmps9
  go_wp2_with fail
  refine (PW.eggboxlaw01_letters.calls k0 1 _ hk0).mono ?_
  rintro e wn' ⟨rfl, hb⟩
  replace HB : Hid (Below w.heap.size w wn') := below_then HB.out HB.out.size (by first | exact hb | exact hb.below)
  clear hb
  go_wp2_with fail
  refine (PA.eggboxlaw01_over.calls K 1 x u _ hu).mono ?_
  rintro e wn' ⟨rfl, hb⟩
  replace HB : Hid (Below w.heap.size w wn') := below_then HB.out HB.out.size (by first | exact hb | exact hb.below)
  clear hb
  go_wp2_with fail
  refine (PA.eggboxlaw01_over.calls K 1 y v _ hv).mono ?_
  rintro e wn' ⟨rfl, hb⟩
  replace HB : Hid (Below w.heap.size w wn') := below_then HB.out HB.out.size (by first | exact hb | exact hb.below)
  clear hb
  go_wp2_with fail
  refine (PW.word_Nth.calls K 1 n wn 6 _ hN).mono ?_
  rintro e wn' ⟨rfl, hb⟩
  replace HB : Hid (Below w.heap.size w wn') := below_then HB.out HB.out.size (by first | exact hb | exact hb.below)
  clear hb
  go_wp2_with fail
  refine (PW.eggboxlaw01_num.calls 6 6 _ rfl).mono ?_
  rintro e wn' ⟨rfl, hb⟩
  replace HB : Hid (Below w.heap.size w wn') := below_then HB.out HB.out.size (by first | exact hb | exact hb.below)
  clear hb
  go_wp2_with fail
  refine (HRank.all 1 u a 0 _ ha).mono ?_
  rintro e wn' ⟨rfl, hb⟩
  replace HB : Hid (Below w.heap.size w wn') := below_then HB.out HB.out.size (by first | exact hb | exact hb.below)
  clear hb
  go_wp2_with fail
  refine (HRank.all 1 v b g _ hb).mono ?_
  rintro e wn' ⟨rfl, hb⟩
  replace HB : Hid (Below w.heap.size w wn') := below_then HB.out HB.out.size (by first | exact hb | exact hb.below)
  clear hb
  go_wp2_with fail
  refine (PW.word_Compare.calls K 1 u v c 0 _ hc).mono ?_
  rintro e wn' ⟨rfl, hb⟩
  replace HB : Hid (Below w.heap.size w wn') := below_then HB.out HB.out.size (by first | exact hb | exact hb.below)
  clear hb
  go_wp2_with fail
  refine (PW.eggboxlaw01_num.calls 0 0 _ rfl).mono ?_
  rintro e wn' ⟨rfl, hb⟩
  replace HB : Hid (Below w.heap.size w wn') := below_then HB.out HB.out.size (by first | exact hb | exact hb.below)
  clear hb
  go_wp2_with fail
  refine (PW.eggboxlaw01_knows.calls K true _ hkn).mono ?_
  rintro e wn' ⟨rfl, hb⟩
  replace HB : Hid (Below w.heap.size w wn') := below_then HB.out HB.out.size (by first | exact hb | exact hb.below)
  clear hb
  go_wp2_with fail
  refine (PW.eggboxlaw01_num.calls 0 0 _ rfl).mono ?_
  rintro e wn' ⟨rfl, hb⟩
  replace HB : Hid (Below w.heap.size w wn') := below_then HB.out HB.out.size (by first | exact hb | exact hb.below)
  clear hb
  go_wp2_with fail
  refine (PW.eggboxlaw01_num.calls g g _ rfl).mono ?_
  rintro e wn' ⟨rfl, hb⟩
  replace HB : Hid (Below w.heap.size w wn') := below_then HB.out HB.out.size (by first | exact hb | exact hb.below)
  clear hb
  go_wp2_with fail
  go_ret
  exact ⟨by first | rfl | (simp [*]; done) | (simp; omega), HB.out⟩

set_option maxHeartbeats 2000000 in
set_option maxRecDepth 100000 in
theorem pBn0 (K : Nat) (k0 k : Int) (x y u v wn t : ByteArray) (n a b f g c d i j : Int) (hk0 : PW.eggboxlaw01_letters.f k0 = some 1) (hu : PA.eggboxlaw01_over.f K 1 x = some u) (hv : PA.eggboxlaw01_over.f K 1 y = some v)
    (hN : PW.word_Nth.f K 1 n = some (wn, 6)) (ha : HRank.f 1 u = some (a, 0)) (hb : HRank.f 1 v = some (a, 0)) (hc : PW.word_Compare.f K 1 u v = some (0, 0))
    (hkn : PW.eggboxlaw01_knows.f K = some true) (hab : (a != a) = false) (hn : HNext.g 1 u = some (t, i)) (hi : (i != 0) = true) (hu4 : 4096 ≤ u.size) (w : World) :
    Calls Try.prog 9 #[.int .i64 k0, .string x, .string y, .int .u64 n] w fun e w' => e = .returned (.bool true) ∧ Below w.heap.size w w' := by
  have hnn : (n != n) = false := by simp
  have HB : Hid (Below w.heap.size w w) := Below.refl _ _
  go_enter Try.func9, Try.ntmps9
  go_wp2_with fail
  refine (PW.eggboxlaw01_letters.calls k0 1 _ hk0).mono ?_
  rintro e wn' ⟨rfl, hb⟩
  replace HB : Hid (Below w.heap.size w wn') := below_then HB.out HB.out.size (by first | exact hb | exact hb.below)
  clear hb
  go_wp2_with fail
  refine (PA.eggboxlaw01_over.calls K 1 x u _ hu).mono ?_
  rintro e wn' ⟨rfl, hb⟩
  replace HB : Hid (Below w.heap.size w wn') := below_then HB.out HB.out.size (by first | exact hb | exact hb.below)
  clear hb
  go_wp2_with fail
  refine (PA.eggboxlaw01_over.calls K 1 y v _ hv).mono ?_
  rintro e wn' ⟨rfl, hb⟩
  replace HB : Hid (Below w.heap.size w wn') := below_then HB.out HB.out.size (by first | exact hb | exact hb.below)
  clear hb
  go_wp2_with fail
  refine (PW.word_Nth.calls K 1 n wn 6 _ hN).mono ?_
  rintro e wn' ⟨rfl, hb⟩
  replace HB : Hid (Below w.heap.size w wn') := below_then HB.out HB.out.size (by first | exact hb | exact hb.below)
  clear hb
  go_wp2_with fail
  refine (PW.eggboxlaw01_num.calls 6 6 _ rfl).mono ?_
  rintro e wn' ⟨rfl, hb⟩
  replace HB : Hid (Below w.heap.size w wn') := below_then HB.out HB.out.size (by first | exact hb | exact hb.below)
  clear hb
  go_wp2_with fail
  refine (HRank.all 1 u a 0 _ ha).mono ?_
  rintro e wn' ⟨rfl, hb⟩
  replace HB : Hid (Below w.heap.size w wn') := below_then HB.out HB.out.size (by first | exact hb | exact hb.below)
  clear hb
  go_wp2_with fail
  refine (HRank.all 1 v a 0 _ hb).mono ?_
  rintro e wn' ⟨rfl, hb⟩
  replace HB : Hid (Below w.heap.size w wn') := below_then HB.out HB.out.size (by first | exact hb | exact hb.below)
  clear hb
  go_wp2_with fail
  refine (PW.word_Compare.calls K 1 u v 0 0 _ hc).mono ?_
  rintro e wn' ⟨rfl, hb⟩
  replace HB : Hid (Below w.heap.size w wn') := below_then HB.out HB.out.size (by first | exact hb | exact hb.below)
  clear hb
  go_wp2_with fail
  refine (PW.eggboxlaw01_num.calls 0 0 _ rfl).mono ?_
  rintro e wn' ⟨rfl, hb⟩
  replace HB : Hid (Below w.heap.size w wn') := below_then HB.out HB.out.size (by first | exact hb | exact hb.below)
  clear hb
  go_wp2_with fail
  refine (PW.eggboxlaw01_knows.calls K true _ hkn).mono ?_
  rintro e wn' ⟨rfl, hb⟩
  replace HB : Hid (Below w.heap.size w wn') := below_then HB.out HB.out.size (by first | exact hb | exact hb.below)
  clear hb
  go_wp2_with fail
  refine (PW.eggboxlaw01_num.calls 0 0 _ rfl).mono ?_
  rintro e wn' ⟨rfl, hb⟩
  replace HB : Hid (Below w.heap.size w wn') := below_then HB.out HB.out.size (by first | exact hb | exact hb.below)
  clear hb
  go_wp2_with fail
  refine (PW.eggboxlaw01_num.calls 0 0 _ rfl).mono ?_
  rintro e wn' ⟨rfl, hb⟩
  replace HB : Hid (Below w.heap.size w wn') := below_then HB.out HB.out.size (by first | exact hb | exact hb.below)
  clear hb
  go_wp2_with fail
  refine (HNext.all 1 u t i _ hn).mono ?_
  rintro e wn' ⟨rfl, hb⟩
  replace HB : Hid (Below w.heap.size w wn') := below_then HB.out HB.out.size (by first | exact hb | exact hb.below)
  clear hb
  go_wp2_with fail
  refine (PW.eggboxlaw01_num.calls i i _ rfl).mono ?_
  rintro e wn' ⟨rfl, hb⟩
  replace HB : Hid (Below w.heap.size w wn') := below_then HB.out HB.out.size (by first | exact hb | exact hb.below)
  clear hb
  go_wp2_with fail
  go_ret
  exact ⟨by first | rfl | (simp [*]; done) | (simp; omega), HB.out⟩

set_option maxHeartbeats 2000000 in
set_option maxRecDepth 100000 in
theorem pBnm (K : Nat) (k0 k : Int) (x y u v wn t : ByteArray) (n a b f g c d i j : Int) (hk0 : PW.eggboxlaw01_letters.f k0 = some 1) (hu : PA.eggboxlaw01_over.f K 1 x = some u) (hv : PA.eggboxlaw01_over.f K 1 y = some v)
    (hN : PW.word_Nth.f K 1 n = some (wn, 6)) (ha : HRank.f 1 u = some (a, 0)) (hb : HRank.f 1 v = some (b, 0)) (hc : PW.word_Compare.f K 1 u v = some (-1, 0))
    (hkn : PW.eggboxlaw01_knows.f K = some true) (hab : a < b) (hn : HNext.g 1 u = some (t, i)) (hi : (i != 0) = true) (hu4 : 4096 ≤ u.size) (w : World) :
    Calls Try.prog 9 #[.int .i64 k0, .string x, .string y, .int .u64 n] w fun e w' => e = .returned (.bool true) ∧ Below w.heap.size w w' := by
  have hnn : (n != n) = false := by simp
  have HB : Hid (Below w.heap.size w w) := Below.refl _ _
  go_enter Try.func9, Try.ntmps9
  go_wp2_with fail
  refine (PW.eggboxlaw01_letters.calls k0 1 _ hk0).mono ?_
  rintro e wn' ⟨rfl, hb⟩
  replace HB : Hid (Below w.heap.size w wn') := below_then HB.out HB.out.size (by first | exact hb | exact hb.below)
  clear hb
  go_wp2_with fail
  refine (PA.eggboxlaw01_over.calls K 1 x u _ hu).mono ?_
  rintro e wn' ⟨rfl, hb⟩
  replace HB : Hid (Below w.heap.size w wn') := below_then HB.out HB.out.size (by first | exact hb | exact hb.below)
  clear hb
  go_wp2_with fail
  refine (PA.eggboxlaw01_over.calls K 1 y v _ hv).mono ?_
  rintro e wn' ⟨rfl, hb⟩
  replace HB : Hid (Below w.heap.size w wn') := below_then HB.out HB.out.size (by first | exact hb | exact hb.below)
  clear hb
  go_wp2_with fail
  refine (PW.word_Nth.calls K 1 n wn 6 _ hN).mono ?_
  rintro e wn' ⟨rfl, hb⟩
  replace HB : Hid (Below w.heap.size w wn') := below_then HB.out HB.out.size (by first | exact hb | exact hb.below)
  clear hb
  go_wp2_with fail
  refine (PW.eggboxlaw01_num.calls 6 6 _ rfl).mono ?_
  rintro e wn' ⟨rfl, hb⟩
  replace HB : Hid (Below w.heap.size w wn') := below_then HB.out HB.out.size (by first | exact hb | exact hb.below)
  clear hb
  go_wp2_with fail
  refine (HRank.all 1 u a 0 _ ha).mono ?_
  rintro e wn' ⟨rfl, hb⟩
  replace HB : Hid (Below w.heap.size w wn') := below_then HB.out HB.out.size (by first | exact hb | exact hb.below)
  clear hb
  go_wp2_with fail
  refine (HRank.all 1 v b 0 _ hb).mono ?_
  rintro e wn' ⟨rfl, hb⟩
  replace HB : Hid (Below w.heap.size w wn') := below_then HB.out HB.out.size (by first | exact hb | exact hb.below)
  clear hb
  go_wp2_with fail
  refine (PW.word_Compare.calls K 1 u v (-1) 0 _ hc).mono ?_
  rintro e wn' ⟨rfl, hb⟩
  replace HB : Hid (Below w.heap.size w wn') := below_then HB.out HB.out.size (by first | exact hb | exact hb.below)
  clear hb
  go_wp2_with fail
  refine (PW.eggboxlaw01_num.calls 0 0 _ rfl).mono ?_
  rintro e wn' ⟨rfl, hb⟩
  replace HB : Hid (Below w.heap.size w wn') := below_then HB.out HB.out.size (by first | exact hb | exact hb.below)
  clear hb
  go_wp2_with fail
  refine (PW.eggboxlaw01_knows.calls K true _ hkn).mono ?_
  rintro e wn' ⟨rfl, hb⟩
  replace HB : Hid (Below w.heap.size w wn') := below_then HB.out HB.out.size (by first | exact hb | exact hb.below)
  clear hb
  go_wp2_with fail
  refine (PW.eggboxlaw01_num.calls 0 0 _ rfl).mono ?_
  rintro e wn' ⟨rfl, hb⟩
  replace HB : Hid (Below w.heap.size w wn') := below_then HB.out HB.out.size (by first | exact hb | exact hb.below)
  clear hb
  go_wp2_with fail
  refine (PW.eggboxlaw01_num.calls 0 0 _ rfl).mono ?_
  rintro e wn' ⟨rfl, hb⟩
  replace HB : Hid (Below w.heap.size w wn') := below_then HB.out HB.out.size (by first | exact hb | exact hb.below)
  clear hb
  go_wp2_with fail
  refine (HNext.all 1 u t i _ hn).mono ?_
  rintro e wn' ⟨rfl, hb⟩
  replace HB : Hid (Below w.heap.size w wn') := below_then HB.out HB.out.size (by first | exact hb | exact hb.below)
  clear hb
  go_wp2_with fail
  refine (PW.eggboxlaw01_num.calls i i _ rfl).mono ?_
  rintro e wn' ⟨rfl, hb⟩
  replace HB : Hid (Below w.heap.size w wn') := below_then HB.out HB.out.size (by first | exact hb | exact hb.below)
  clear hb
  go_wp2_with fail
  go_ret
  exact ⟨by first | rfl | (simp [*]; done) | (simp; omega), HB.out⟩

set_option maxHeartbeats 2000000 in
set_option maxRecDepth 100000 in
theorem pBnp (K : Nat) (k0 k : Int) (x y u v wn t : ByteArray) (n a b f g c d i j : Int) (hk0 : PW.eggboxlaw01_letters.f k0 = some 1) (hu : PA.eggboxlaw01_over.f K 1 x = some u) (hv : PA.eggboxlaw01_over.f K 1 y = some v)
    (hN : PW.word_Nth.f K 1 n = some (wn, 6)) (ha : HRank.f 1 u = some (a, 0)) (hb : HRank.f 1 v = some (b, 0)) (hc : PW.word_Compare.f K 1 u v = some (1, 0))
    (hkn : PW.eggboxlaw01_knows.f K = some true) (hab : b < a) (hn : HNext.g 1 u = some (t, i)) (hi : (i != 0) = true) (hu4 : 4096 ≤ u.size) (w : World) :
    Calls Try.prog 9 #[.int .i64 k0, .string x, .string y, .int .u64 n] w fun e w' => e = .returned (.bool true) ∧ Below w.heap.size w w' := by
  have hnn : (n != n) = false := by simp
  have HB : Hid (Below w.heap.size w w) := Below.refl _ _
  go_enter Try.func9, Try.ntmps9
  go_wp2_with fail
  refine (PW.eggboxlaw01_letters.calls k0 1 _ hk0).mono ?_
  rintro e wn' ⟨rfl, hb⟩
  replace HB : Hid (Below w.heap.size w wn') := below_then HB.out HB.out.size (by first | exact hb | exact hb.below)
  clear hb
  go_wp2_with fail
  refine (PA.eggboxlaw01_over.calls K 1 x u _ hu).mono ?_
  rintro e wn' ⟨rfl, hb⟩
  replace HB : Hid (Below w.heap.size w wn') := below_then HB.out HB.out.size (by first | exact hb | exact hb.below)
  clear hb
  go_wp2_with fail
  refine (PA.eggboxlaw01_over.calls K 1 y v _ hv).mono ?_
  rintro e wn' ⟨rfl, hb⟩
  replace HB : Hid (Below w.heap.size w wn') := below_then HB.out HB.out.size (by first | exact hb | exact hb.below)
  clear hb
  go_wp2_with fail
  refine (PW.word_Nth.calls K 1 n wn 6 _ hN).mono ?_
  rintro e wn' ⟨rfl, hb⟩
  replace HB : Hid (Below w.heap.size w wn') := below_then HB.out HB.out.size (by first | exact hb | exact hb.below)
  clear hb
  go_wp2_with fail
  refine (PW.eggboxlaw01_num.calls 6 6 _ rfl).mono ?_
  rintro e wn' ⟨rfl, hb⟩
  replace HB : Hid (Below w.heap.size w wn') := below_then HB.out HB.out.size (by first | exact hb | exact hb.below)
  clear hb
  go_wp2_with fail
  refine (HRank.all 1 u a 0 _ ha).mono ?_
  rintro e wn' ⟨rfl, hb⟩
  replace HB : Hid (Below w.heap.size w wn') := below_then HB.out HB.out.size (by first | exact hb | exact hb.below)
  clear hb
  go_wp2_with fail
  refine (HRank.all 1 v b 0 _ hb).mono ?_
  rintro e wn' ⟨rfl, hb⟩
  replace HB : Hid (Below w.heap.size w wn') := below_then HB.out HB.out.size (by first | exact hb | exact hb.below)
  clear hb
  go_wp2_with fail
  refine (PW.word_Compare.calls K 1 u v 1 0 _ hc).mono ?_
  rintro e wn' ⟨rfl, hb⟩
  replace HB : Hid (Below w.heap.size w wn') := below_then HB.out HB.out.size (by first | exact hb | exact hb.below)
  clear hb
  go_wp2_with fail
  refine (PW.eggboxlaw01_num.calls 0 0 _ rfl).mono ?_
  rintro e wn' ⟨rfl, hb⟩
  replace HB : Hid (Below w.heap.size w wn') := below_then HB.out HB.out.size (by first | exact hb | exact hb.below)
  clear hb
  go_wp2_with fail
  refine (PW.eggboxlaw01_knows.calls K true _ hkn).mono ?_
  rintro e wn' ⟨rfl, hb⟩
  replace HB : Hid (Below w.heap.size w wn') := below_then HB.out HB.out.size (by first | exact hb | exact hb.below)
  clear hb
  go_wp2_with fail
  refine (PW.eggboxlaw01_num.calls 0 0 _ rfl).mono ?_
  rintro e wn' ⟨rfl, hb⟩
  replace HB : Hid (Below w.heap.size w wn') := below_then HB.out HB.out.size (by first | exact hb | exact hb.below)
  clear hb
  go_wp2_with fail
  refine (PW.eggboxlaw01_num.calls 0 0 _ rfl).mono ?_
  rintro e wn' ⟨rfl, hb⟩
  replace HB : Hid (Below w.heap.size w wn') := below_then HB.out HB.out.size (by first | exact hb | exact hb.below)
  clear hb
  go_wp2_with fail
  refine (HNext.all 1 u t i _ hn).mono ?_
  rintro e wn' ⟨rfl, hb⟩
  replace HB : Hid (Below w.heap.size w wn') := below_then HB.out HB.out.size (by first | exact hb | exact hb.below)
  clear hb
  go_wp2_with fail
  refine (PW.eggboxlaw01_num.calls i i _ rfl).mono ?_
  rintro e wn' ⟨rfl, hb⟩
  replace HB : Hid (Below w.heap.size w wn') := below_then HB.out HB.out.size (by first | exact hb | exact hb.below)
  clear hb
  go_wp2_with fail
  go_ret
  exact ⟨by first | rfl | (simp [*]; done) | (simp; omega), HB.out⟩

set_option maxHeartbeats 2000000 in
set_option maxRecDepth 100000 in
theorem pBj0 (K : Nat) (k0 k : Int) (x y u v wn t : ByteArray) (n a b f g c d i j : Int) (hk0 : PW.eggboxlaw01_letters.f k0 = some 1) (hu : PA.eggboxlaw01_over.f K 1 x = some u) (hv : PA.eggboxlaw01_over.f K 1 y = some v)
    (hN : PW.word_Nth.f K 1 n = some (wn, 6)) (ha : HRank.f 1 u = some (18446744073709551615, 0)) (hb : HRank.f 1 v = some (18446744073709551615, 0)) (hc : PW.word_Compare.f K 1 u v = some (0, 0))
    (hkn : PW.eggboxlaw01_knows.f K = some true) (hab : (18446744073709551615 != 18446744073709551615) = false) (hn : HNext.g 1 u = some (t, 0)) (hj : HRank.f 1 t = some (d, j)) (hj0 : (j != 0) = true) (w : World) :
    Calls Try.prog 9 #[.int .i64 k0, .string x, .string y, .int .u64 n] w fun e w' => e = .returned (.bool true) ∧ Below w.heap.size w w' := by
  have hnn : (n != n) = false := by simp
  have HB : Hid (Below w.heap.size w w) := Below.refl _ _
  go_enter Try.func9, Try.ntmps9
  go_wp2_with fail
  refine (PW.eggboxlaw01_letters.calls k0 1 _ hk0).mono ?_
  rintro e wn' ⟨rfl, hb⟩
  replace HB : Hid (Below w.heap.size w wn') := below_then HB.out HB.out.size (by first | exact hb | exact hb.below)
  clear hb
  go_wp2_with fail
  refine (PA.eggboxlaw01_over.calls K 1 x u _ hu).mono ?_
  rintro e wn' ⟨rfl, hb⟩
  replace HB : Hid (Below w.heap.size w wn') := below_then HB.out HB.out.size (by first | exact hb | exact hb.below)
  clear hb
  go_wp2_with fail
  refine (PA.eggboxlaw01_over.calls K 1 y v _ hv).mono ?_
  rintro e wn' ⟨rfl, hb⟩
  replace HB : Hid (Below w.heap.size w wn') := below_then HB.out HB.out.size (by first | exact hb | exact hb.below)
  clear hb
  go_wp2_with fail
  refine (PW.word_Nth.calls K 1 n wn 6 _ hN).mono ?_
  rintro e wn' ⟨rfl, hb⟩
  replace HB : Hid (Below w.heap.size w wn') := below_then HB.out HB.out.size (by first | exact hb | exact hb.below)
  clear hb
  go_wp2_with fail
  refine (PW.eggboxlaw01_num.calls 6 6 _ rfl).mono ?_
  rintro e wn' ⟨rfl, hb⟩
  replace HB : Hid (Below w.heap.size w wn') := below_then HB.out HB.out.size (by first | exact hb | exact hb.below)
  clear hb
  go_wp2_with fail
  refine (HRank.all 1 u 18446744073709551615 0 _ ha).mono ?_
  rintro e wn' ⟨rfl, hb⟩
  replace HB : Hid (Below w.heap.size w wn') := below_then HB.out HB.out.size (by first | exact hb | exact hb.below)
  clear hb
  go_wp2_with fail
  refine (HRank.all 1 v 18446744073709551615 0 _ hb).mono ?_
  rintro e wn' ⟨rfl, hb⟩
  replace HB : Hid (Below w.heap.size w wn') := below_then HB.out HB.out.size (by first | exact hb | exact hb.below)
  clear hb
  go_wp2_with fail
  refine (PW.word_Compare.calls K 1 u v 0 0 _ hc).mono ?_
  rintro e wn' ⟨rfl, hb⟩
  replace HB : Hid (Below w.heap.size w wn') := below_then HB.out HB.out.size (by first | exact hb | exact hb.below)
  clear hb
  go_wp2_with fail
  refine (PW.eggboxlaw01_num.calls 0 0 _ rfl).mono ?_
  rintro e wn' ⟨rfl, hb⟩
  replace HB : Hid (Below w.heap.size w wn') := below_then HB.out HB.out.size (by first | exact hb | exact hb.below)
  clear hb
  go_wp2_with fail
  refine (PW.eggboxlaw01_knows.calls K true _ hkn).mono ?_
  rintro e wn' ⟨rfl, hb⟩
  replace HB : Hid (Below w.heap.size w wn') := below_then HB.out HB.out.size (by first | exact hb | exact hb.below)
  clear hb
  go_wp2_with fail
  refine (PW.eggboxlaw01_num.calls 0 0 _ rfl).mono ?_
  rintro e wn' ⟨rfl, hb⟩
  replace HB : Hid (Below w.heap.size w wn') := below_then HB.out HB.out.size (by first | exact hb | exact hb.below)
  clear hb
  go_wp2_with fail
  refine (PW.eggboxlaw01_num.calls 0 0 _ rfl).mono ?_
  rintro e wn' ⟨rfl, hb⟩
  replace HB : Hid (Below w.heap.size w wn') := below_then HB.out HB.out.size (by first | exact hb | exact hb.below)
  clear hb
  go_wp2_with fail
  refine (HNext.all 1 u t 0 _ hn).mono ?_
  rintro e wn' ⟨rfl, hb⟩
  replace HB : Hid (Below w.heap.size w wn') := below_then HB.out HB.out.size (by first | exact hb | exact hb.below)
  clear hb
  go_wp2_with fail
  refine (PW.eggboxlaw01_num.calls 0 0 _ rfl).mono ?_
  rintro e wn' ⟨rfl, hb⟩
  replace HB : Hid (Below w.heap.size w wn') := below_then HB.out HB.out.size (by first | exact hb | exact hb.below)
  clear hb
  go_wp2_with fail
  refine (HRank.all 1 t d j _ hj).mono ?_
  rintro e wn' ⟨rfl, hb⟩
  replace HB : Hid (Below w.heap.size w wn') := below_then HB.out HB.out.size (by first | exact hb | exact hb.below)
  clear hb
  go_wp2_with fail
  refine (PW.eggboxlaw01_num.calls j j _ rfl).mono ?_
  rintro e wn' ⟨rfl, hb⟩
  replace HB : Hid (Below w.heap.size w wn') := below_then HB.out HB.out.size (by first | exact hb | exact hb.below)
  clear hb
  go_wp2_with fail
  go_ret
  exact ⟨by first | rfl | (simp [*]; done) | (simp; omega), HB.out⟩

set_option maxHeartbeats 2000000 in
set_option maxRecDepth 100000 in
theorem pBjm (K : Nat) (k0 k : Int) (x y u v wn t : ByteArray) (n a b f g c d i j : Int) (hk0 : PW.eggboxlaw01_letters.f k0 = some 1) (hu : PA.eggboxlaw01_over.f K 1 x = some u) (hv : PA.eggboxlaw01_over.f K 1 y = some v)
    (hN : PW.word_Nth.f K 1 n = some (wn, 6)) (ha : HRank.f 1 u = some (18446744073709551615, 0)) (hb : HRank.f 1 v = some (b, 0)) (hc : PW.word_Compare.f K 1 u v = some (-1, 0))
    (hkn : PW.eggboxlaw01_knows.f K = some true) (hab : 18446744073709551615 < b) (hn : HNext.g 1 u = some (t, 0)) (hj : HRank.f 1 t = some (d, j)) (hj0 : (j != 0) = true) (w : World) :
    Calls Try.prog 9 #[.int .i64 k0, .string x, .string y, .int .u64 n] w fun e w' => e = .returned (.bool true) ∧ Below w.heap.size w w' := by
  have hnn : (n != n) = false := by simp
  have HB : Hid (Below w.heap.size w w) := Below.refl _ _
  go_enter Try.func9, Try.ntmps9
  go_wp2_with fail
  refine (PW.eggboxlaw01_letters.calls k0 1 _ hk0).mono ?_
  rintro e wn' ⟨rfl, hb⟩
  replace HB : Hid (Below w.heap.size w wn') := below_then HB.out HB.out.size (by first | exact hb | exact hb.below)
  clear hb
  go_wp2_with fail
  refine (PA.eggboxlaw01_over.calls K 1 x u _ hu).mono ?_
  rintro e wn' ⟨rfl, hb⟩
  replace HB : Hid (Below w.heap.size w wn') := below_then HB.out HB.out.size (by first | exact hb | exact hb.below)
  clear hb
  go_wp2_with fail
  refine (PA.eggboxlaw01_over.calls K 1 y v _ hv).mono ?_
  rintro e wn' ⟨rfl, hb⟩
  replace HB : Hid (Below w.heap.size w wn') := below_then HB.out HB.out.size (by first | exact hb | exact hb.below)
  clear hb
  go_wp2_with fail
  refine (PW.word_Nth.calls K 1 n wn 6 _ hN).mono ?_
  rintro e wn' ⟨rfl, hb⟩
  replace HB : Hid (Below w.heap.size w wn') := below_then HB.out HB.out.size (by first | exact hb | exact hb.below)
  clear hb
  go_wp2_with fail
  refine (PW.eggboxlaw01_num.calls 6 6 _ rfl).mono ?_
  rintro e wn' ⟨rfl, hb⟩
  replace HB : Hid (Below w.heap.size w wn') := below_then HB.out HB.out.size (by first | exact hb | exact hb.below)
  clear hb
  go_wp2_with fail
  refine (HRank.all 1 u 18446744073709551615 0 _ ha).mono ?_
  rintro e wn' ⟨rfl, hb⟩
  replace HB : Hid (Below w.heap.size w wn') := below_then HB.out HB.out.size (by first | exact hb | exact hb.below)
  clear hb
  go_wp2_with fail
  refine (HRank.all 1 v b 0 _ hb).mono ?_
  rintro e wn' ⟨rfl, hb⟩
  replace HB : Hid (Below w.heap.size w wn') := below_then HB.out HB.out.size (by first | exact hb | exact hb.below)
  clear hb
  go_wp2_with fail
  refine (PW.word_Compare.calls K 1 u v (-1) 0 _ hc).mono ?_
  rintro e wn' ⟨rfl, hb⟩
  replace HB : Hid (Below w.heap.size w wn') := below_then HB.out HB.out.size (by first | exact hb | exact hb.below)
  clear hb
  go_wp2_with fail
  refine (PW.eggboxlaw01_num.calls 0 0 _ rfl).mono ?_
  rintro e wn' ⟨rfl, hb⟩
  replace HB : Hid (Below w.heap.size w wn') := below_then HB.out HB.out.size (by first | exact hb | exact hb.below)
  clear hb
  go_wp2_with fail
  refine (PW.eggboxlaw01_knows.calls K true _ hkn).mono ?_
  rintro e wn' ⟨rfl, hb⟩
  replace HB : Hid (Below w.heap.size w wn') := below_then HB.out HB.out.size (by first | exact hb | exact hb.below)
  clear hb
  go_wp2_with fail
  refine (PW.eggboxlaw01_num.calls 0 0 _ rfl).mono ?_
  rintro e wn' ⟨rfl, hb⟩
  replace HB : Hid (Below w.heap.size w wn') := below_then HB.out HB.out.size (by first | exact hb | exact hb.below)
  clear hb
  go_wp2_with fail
  refine (PW.eggboxlaw01_num.calls 0 0 _ rfl).mono ?_
  rintro e wn' ⟨rfl, hb⟩
  replace HB : Hid (Below w.heap.size w wn') := below_then HB.out HB.out.size (by first | exact hb | exact hb.below)
  clear hb
  go_wp2_with fail
  refine (HNext.all 1 u t 0 _ hn).mono ?_
  rintro e wn' ⟨rfl, hb⟩
  replace HB : Hid (Below w.heap.size w wn') := below_then HB.out HB.out.size (by first | exact hb | exact hb.below)
  clear hb
  go_wp2_with fail
  refine (PW.eggboxlaw01_num.calls 0 0 _ rfl).mono ?_
  rintro e wn' ⟨rfl, hb⟩
  replace HB : Hid (Below w.heap.size w wn') := below_then HB.out HB.out.size (by first | exact hb | exact hb.below)
  clear hb
  go_wp2_with fail
  refine (HRank.all 1 t d j _ hj).mono ?_
  rintro e wn' ⟨rfl, hb⟩
  replace HB : Hid (Below w.heap.size w wn') := below_then HB.out HB.out.size (by first | exact hb | exact hb.below)
  clear hb
  go_wp2_with fail
  refine (PW.eggboxlaw01_num.calls j j _ rfl).mono ?_
  rintro e wn' ⟨rfl, hb⟩
  replace HB : Hid (Below w.heap.size w wn') := below_then HB.out HB.out.size (by first | exact hb | exact hb.below)
  clear hb
  go_wp2_with fail
  go_ret
  exact ⟨by first | rfl | (simp [*]; done) | (simp; omega), HB.out⟩

set_option maxHeartbeats 2000000 in
set_option maxRecDepth 100000 in
theorem pBjp (K : Nat) (k0 k : Int) (x y u v wn t : ByteArray) (n a b f g c d i j : Int) (hk0 : PW.eggboxlaw01_letters.f k0 = some 1) (hu : PA.eggboxlaw01_over.f K 1 x = some u) (hv : PA.eggboxlaw01_over.f K 1 y = some v)
    (hN : PW.word_Nth.f K 1 n = some (wn, 6)) (ha : HRank.f 1 u = some (18446744073709551615, 0)) (hb : HRank.f 1 v = some (b, 0)) (hc : PW.word_Compare.f K 1 u v = some (1, 0))
    (hkn : PW.eggboxlaw01_knows.f K = some true) (hab : b < 18446744073709551615) (hn : HNext.g 1 u = some (t, 0)) (hj : HRank.f 1 t = some (d, j)) (hj0 : (j != 0) = true) (w : World) :
    Calls Try.prog 9 #[.int .i64 k0, .string x, .string y, .int .u64 n] w fun e w' => e = .returned (.bool true) ∧ Below w.heap.size w w' := by
  have hnn : (n != n) = false := by simp
  have HB : Hid (Below w.heap.size w w) := Below.refl _ _
  go_enter Try.func9, Try.ntmps9
  go_wp2_with fail
  refine (PW.eggboxlaw01_letters.calls k0 1 _ hk0).mono ?_
  rintro e wn' ⟨rfl, hb⟩
  replace HB : Hid (Below w.heap.size w wn') := below_then HB.out HB.out.size (by first | exact hb | exact hb.below)
  clear hb
  go_wp2_with fail
  refine (PA.eggboxlaw01_over.calls K 1 x u _ hu).mono ?_
  rintro e wn' ⟨rfl, hb⟩
  replace HB : Hid (Below w.heap.size w wn') := below_then HB.out HB.out.size (by first | exact hb | exact hb.below)
  clear hb
  go_wp2_with fail
  refine (PA.eggboxlaw01_over.calls K 1 y v _ hv).mono ?_
  rintro e wn' ⟨rfl, hb⟩
  replace HB : Hid (Below w.heap.size w wn') := below_then HB.out HB.out.size (by first | exact hb | exact hb.below)
  clear hb
  go_wp2_with fail
  refine (PW.word_Nth.calls K 1 n wn 6 _ hN).mono ?_
  rintro e wn' ⟨rfl, hb⟩
  replace HB : Hid (Below w.heap.size w wn') := below_then HB.out HB.out.size (by first | exact hb | exact hb.below)
  clear hb
  go_wp2_with fail
  refine (PW.eggboxlaw01_num.calls 6 6 _ rfl).mono ?_
  rintro e wn' ⟨rfl, hb⟩
  replace HB : Hid (Below w.heap.size w wn') := below_then HB.out HB.out.size (by first | exact hb | exact hb.below)
  clear hb
  go_wp2_with fail
  refine (HRank.all 1 u 18446744073709551615 0 _ ha).mono ?_
  rintro e wn' ⟨rfl, hb⟩
  replace HB : Hid (Below w.heap.size w wn') := below_then HB.out HB.out.size (by first | exact hb | exact hb.below)
  clear hb
  go_wp2_with fail
  refine (HRank.all 1 v b 0 _ hb).mono ?_
  rintro e wn' ⟨rfl, hb⟩
  replace HB : Hid (Below w.heap.size w wn') := below_then HB.out HB.out.size (by first | exact hb | exact hb.below)
  clear hb
  go_wp2_with fail
  refine (PW.word_Compare.calls K 1 u v 1 0 _ hc).mono ?_
  rintro e wn' ⟨rfl, hb⟩
  replace HB : Hid (Below w.heap.size w wn') := below_then HB.out HB.out.size (by first | exact hb | exact hb.below)
  clear hb
  go_wp2_with fail
  refine (PW.eggboxlaw01_num.calls 0 0 _ rfl).mono ?_
  rintro e wn' ⟨rfl, hb⟩
  replace HB : Hid (Below w.heap.size w wn') := below_then HB.out HB.out.size (by first | exact hb | exact hb.below)
  clear hb
  go_wp2_with fail
  refine (PW.eggboxlaw01_knows.calls K true _ hkn).mono ?_
  rintro e wn' ⟨rfl, hb⟩
  replace HB : Hid (Below w.heap.size w wn') := below_then HB.out HB.out.size (by first | exact hb | exact hb.below)
  clear hb
  go_wp2_with fail
  refine (PW.eggboxlaw01_num.calls 0 0 _ rfl).mono ?_
  rintro e wn' ⟨rfl, hb⟩
  replace HB : Hid (Below w.heap.size w wn') := below_then HB.out HB.out.size (by first | exact hb | exact hb.below)
  clear hb
  go_wp2_with fail
  refine (PW.eggboxlaw01_num.calls 0 0 _ rfl).mono ?_
  rintro e wn' ⟨rfl, hb⟩
  replace HB : Hid (Below w.heap.size w wn') := below_then HB.out HB.out.size (by first | exact hb | exact hb.below)
  clear hb
  go_wp2_with fail
  refine (HNext.all 1 u t 0 _ hn).mono ?_
  rintro e wn' ⟨rfl, hb⟩
  replace HB : Hid (Below w.heap.size w wn') := below_then HB.out HB.out.size (by first | exact hb | exact hb.below)
  clear hb
  go_wp2_with fail
  refine (PW.eggboxlaw01_num.calls 0 0 _ rfl).mono ?_
  rintro e wn' ⟨rfl, hb⟩
  replace HB : Hid (Below w.heap.size w wn') := below_then HB.out HB.out.size (by first | exact hb | exact hb.below)
  clear hb
  go_wp2_with fail
  refine (HRank.all 1 t d j _ hj).mono ?_
  rintro e wn' ⟨rfl, hb⟩
  replace HB : Hid (Below w.heap.size w wn') := below_then HB.out HB.out.size (by first | exact hb | exact hb.below)
  clear hb
  go_wp2_with fail
  refine (PW.eggboxlaw01_num.calls j j _ rfl).mono ?_
  rintro e wn' ⟨rfl, hb⟩
  replace HB : Hid (Below w.heap.size w wn') := below_then HB.out HB.out.size (by first | exact hb | exact hb.below)
  clear hb
  go_wp2_with fail
  go_ret
  exact ⟨by first | rfl | (simp [*]; done) | (simp; omega), HB.out⟩

set_option maxHeartbeats 2000000 in
set_option maxRecDepth 100000 in
theorem pBk0 (K : Nat) (k0 k : Int) (x y u v wn t : ByteArray) (n a b f g c d i j : Int) (hk0 : PW.eggboxlaw01_letters.f k0 = some 1) (hu : PA.eggboxlaw01_over.f K 1 x = some u) (hv : PA.eggboxlaw01_over.f K 1 y = some v)
    (hN : PW.word_Nth.f K 1 n = some (wn, 6)) (ha : HRank.f 1 u = some (a, 0)) (hb : HRank.f 1 v = some (a, 0)) (hc : PW.word_Compare.f K 1 u v = some (0, 0))
    (hkn : PW.eggboxlaw01_knows.f K = some true) (hab : (a != a) = false) (hn : HNext.g 1 u = some (t, 0)) (hj : HRank.f 1 t = some (d, 0)) (hd : d = IntKind.u64.wrap (a + 1)) (w : World) :
    Calls Try.prog 9 #[.int .i64 k0, .string x, .string y, .int .u64 n] w fun e w' => e = .returned (.bool true) ∧ Below w.heap.size w w' := by
  have hnn : (n != n) = false := by simp
  have HB : Hid (Below w.heap.size w w) := Below.refl _ _
  go_enter Try.func9, Try.ntmps9
  go_wp2_with fail
  refine (PW.eggboxlaw01_letters.calls k0 1 _ hk0).mono ?_
  rintro e wn' ⟨rfl, hb⟩
  replace HB : Hid (Below w.heap.size w wn') := below_then HB.out HB.out.size (by first | exact hb | exact hb.below)
  clear hb
  go_wp2_with fail
  refine (PA.eggboxlaw01_over.calls K 1 x u _ hu).mono ?_
  rintro e wn' ⟨rfl, hb⟩
  replace HB : Hid (Below w.heap.size w wn') := below_then HB.out HB.out.size (by first | exact hb | exact hb.below)
  clear hb
  go_wp2_with fail
  refine (PA.eggboxlaw01_over.calls K 1 y v _ hv).mono ?_
  rintro e wn' ⟨rfl, hb⟩
  replace HB : Hid (Below w.heap.size w wn') := below_then HB.out HB.out.size (by first | exact hb | exact hb.below)
  clear hb
  go_wp2_with fail
  refine (PW.word_Nth.calls K 1 n wn 6 _ hN).mono ?_
  rintro e wn' ⟨rfl, hb⟩
  replace HB : Hid (Below w.heap.size w wn') := below_then HB.out HB.out.size (by first | exact hb | exact hb.below)
  clear hb
  go_wp2_with fail
  refine (PW.eggboxlaw01_num.calls 6 6 _ rfl).mono ?_
  rintro e wn' ⟨rfl, hb⟩
  replace HB : Hid (Below w.heap.size w wn') := below_then HB.out HB.out.size (by first | exact hb | exact hb.below)
  clear hb
  go_wp2_with fail
  refine (HRank.all 1 u a 0 _ ha).mono ?_
  rintro e wn' ⟨rfl, hb⟩
  replace HB : Hid (Below w.heap.size w wn') := below_then HB.out HB.out.size (by first | exact hb | exact hb.below)
  clear hb
  go_wp2_with fail
  refine (HRank.all 1 v a 0 _ hb).mono ?_
  rintro e wn' ⟨rfl, hb⟩
  replace HB : Hid (Below w.heap.size w wn') := below_then HB.out HB.out.size (by first | exact hb | exact hb.below)
  clear hb
  go_wp2_with fail
  refine (PW.word_Compare.calls K 1 u v 0 0 _ hc).mono ?_
  rintro e wn' ⟨rfl, hb⟩
  replace HB : Hid (Below w.heap.size w wn') := below_then HB.out HB.out.size (by first | exact hb | exact hb.below)
  clear hb
  go_wp2_with fail
  refine (PW.eggboxlaw01_num.calls 0 0 _ rfl).mono ?_
  rintro e wn' ⟨rfl, hb⟩
  replace HB : Hid (Below w.heap.size w wn') := below_then HB.out HB.out.size (by first | exact hb | exact hb.below)
  clear hb
  go_wp2_with fail
  refine (PW.eggboxlaw01_knows.calls K true _ hkn).mono ?_
  rintro e wn' ⟨rfl, hb⟩
  replace HB : Hid (Below w.heap.size w wn') := below_then HB.out HB.out.size (by first | exact hb | exact hb.below)
  clear hb
  go_wp2_with fail
  refine (PW.eggboxlaw01_num.calls 0 0 _ rfl).mono ?_
  rintro e wn' ⟨rfl, hb⟩
  replace HB : Hid (Below w.heap.size w wn') := below_then HB.out HB.out.size (by first | exact hb | exact hb.below)
  clear hb
  go_wp2_with fail
  refine (PW.eggboxlaw01_num.calls 0 0 _ rfl).mono ?_
  rintro e wn' ⟨rfl, hb⟩
  replace HB : Hid (Below w.heap.size w wn') := below_then HB.out HB.out.size (by first | exact hb | exact hb.below)
  clear hb
  go_wp2_with fail
  refine (HNext.all 1 u t 0 _ hn).mono ?_
  rintro e wn' ⟨rfl, hb⟩
  replace HB : Hid (Below w.heap.size w wn') := below_then HB.out HB.out.size (by first | exact hb | exact hb.below)
  clear hb
  go_wp2_with fail
  refine (PW.eggboxlaw01_num.calls 0 0 _ rfl).mono ?_
  rintro e wn' ⟨rfl, hb⟩
  replace HB : Hid (Below w.heap.size w wn') := below_then HB.out HB.out.size (by first | exact hb | exact hb.below)
  clear hb
  go_wp2_with fail
  refine (HRank.all 1 t d 0 _ hj).mono ?_
  rintro e wn' ⟨rfl, hb⟩
  replace HB : Hid (Below w.heap.size w wn') := below_then HB.out HB.out.size (by first | exact hb | exact hb.below)
  clear hb
  go_wp2_with fail
  refine (PW.eggboxlaw01_num.calls 0 0 _ rfl).mono ?_
  rintro e wn' ⟨rfl, hb⟩
  replace HB : Hid (Below w.heap.size w wn') := below_then HB.out HB.out.size (by first | exact hb | exact hb.below)
  clear hb
  go_wp2_with fail
  refine (PW.eggboxlaw01_num.calls 0 0 _ rfl).mono ?_
  rintro e wn' ⟨rfl, hb⟩
  replace HB : Hid (Below w.heap.size w wn') := below_then HB.out HB.out.size (by first | exact hb | exact hb.below)
  clear hb
  go_wp2_with fail
  go_ret
  exact ⟨by first | rfl | (simp [*]; done) | (simp; omega), HB.out⟩

set_option maxHeartbeats 2000000 in
set_option maxRecDepth 100000 in
theorem pBkm (K : Nat) (k0 k : Int) (x y u v wn t : ByteArray) (n a b f g c d i j : Int) (hk0 : PW.eggboxlaw01_letters.f k0 = some 1) (hu : PA.eggboxlaw01_over.f K 1 x = some u) (hv : PA.eggboxlaw01_over.f K 1 y = some v)
    (hN : PW.word_Nth.f K 1 n = some (wn, 6)) (ha : HRank.f 1 u = some (a, 0)) (hb : HRank.f 1 v = some (b, 0)) (hc : PW.word_Compare.f K 1 u v = some (-1, 0))
    (hkn : PW.eggboxlaw01_knows.f K = some true) (hab : a < b) (hn : HNext.g 1 u = some (t, 0)) (hj : HRank.f 1 t = some (d, 0)) (hd : d = IntKind.u64.wrap (a + 1)) (w : World) :
    Calls Try.prog 9 #[.int .i64 k0, .string x, .string y, .int .u64 n] w fun e w' => e = .returned (.bool true) ∧ Below w.heap.size w w' := by
  have hnn : (n != n) = false := by simp
  have HB : Hid (Below w.heap.size w w) := Below.refl _ _
  go_enter Try.func9, Try.ntmps9
  go_wp2_with fail
  refine (PW.eggboxlaw01_letters.calls k0 1 _ hk0).mono ?_
  rintro e wn' ⟨rfl, hb⟩
  replace HB : Hid (Below w.heap.size w wn') := below_then HB.out HB.out.size (by first | exact hb | exact hb.below)
  clear hb
  go_wp2_with fail
  refine (PA.eggboxlaw01_over.calls K 1 x u _ hu).mono ?_
  rintro e wn' ⟨rfl, hb⟩
  replace HB : Hid (Below w.heap.size w wn') := below_then HB.out HB.out.size (by first | exact hb | exact hb.below)
  clear hb
  go_wp2_with fail
  refine (PA.eggboxlaw01_over.calls K 1 y v _ hv).mono ?_
  rintro e wn' ⟨rfl, hb⟩
  replace HB : Hid (Below w.heap.size w wn') := below_then HB.out HB.out.size (by first | exact hb | exact hb.below)
  clear hb
  go_wp2_with fail
  refine (PW.word_Nth.calls K 1 n wn 6 _ hN).mono ?_
  rintro e wn' ⟨rfl, hb⟩
  replace HB : Hid (Below w.heap.size w wn') := below_then HB.out HB.out.size (by first | exact hb | exact hb.below)
  clear hb
  go_wp2_with fail
  refine (PW.eggboxlaw01_num.calls 6 6 _ rfl).mono ?_
  rintro e wn' ⟨rfl, hb⟩
  replace HB : Hid (Below w.heap.size w wn') := below_then HB.out HB.out.size (by first | exact hb | exact hb.below)
  clear hb
  go_wp2_with fail
  refine (HRank.all 1 u a 0 _ ha).mono ?_
  rintro e wn' ⟨rfl, hb⟩
  replace HB : Hid (Below w.heap.size w wn') := below_then HB.out HB.out.size (by first | exact hb | exact hb.below)
  clear hb
  go_wp2_with fail
  refine (HRank.all 1 v b 0 _ hb).mono ?_
  rintro e wn' ⟨rfl, hb⟩
  replace HB : Hid (Below w.heap.size w wn') := below_then HB.out HB.out.size (by first | exact hb | exact hb.below)
  clear hb
  go_wp2_with fail
  refine (PW.word_Compare.calls K 1 u v (-1) 0 _ hc).mono ?_
  rintro e wn' ⟨rfl, hb⟩
  replace HB : Hid (Below w.heap.size w wn') := below_then HB.out HB.out.size (by first | exact hb | exact hb.below)
  clear hb
  go_wp2_with fail
  refine (PW.eggboxlaw01_num.calls 0 0 _ rfl).mono ?_
  rintro e wn' ⟨rfl, hb⟩
  replace HB : Hid (Below w.heap.size w wn') := below_then HB.out HB.out.size (by first | exact hb | exact hb.below)
  clear hb
  go_wp2_with fail
  refine (PW.eggboxlaw01_knows.calls K true _ hkn).mono ?_
  rintro e wn' ⟨rfl, hb⟩
  replace HB : Hid (Below w.heap.size w wn') := below_then HB.out HB.out.size (by first | exact hb | exact hb.below)
  clear hb
  go_wp2_with fail
  refine (PW.eggboxlaw01_num.calls 0 0 _ rfl).mono ?_
  rintro e wn' ⟨rfl, hb⟩
  replace HB : Hid (Below w.heap.size w wn') := below_then HB.out HB.out.size (by first | exact hb | exact hb.below)
  clear hb
  go_wp2_with fail
  refine (PW.eggboxlaw01_num.calls 0 0 _ rfl).mono ?_
  rintro e wn' ⟨rfl, hb⟩
  replace HB : Hid (Below w.heap.size w wn') := below_then HB.out HB.out.size (by first | exact hb | exact hb.below)
  clear hb
  go_wp2_with fail
  refine (HNext.all 1 u t 0 _ hn).mono ?_
  rintro e wn' ⟨rfl, hb⟩
  replace HB : Hid (Below w.heap.size w wn') := below_then HB.out HB.out.size (by first | exact hb | exact hb.below)
  clear hb
  go_wp2_with fail
  refine (PW.eggboxlaw01_num.calls 0 0 _ rfl).mono ?_
  rintro e wn' ⟨rfl, hb⟩
  replace HB : Hid (Below w.heap.size w wn') := below_then HB.out HB.out.size (by first | exact hb | exact hb.below)
  clear hb
  go_wp2_with fail
  refine (HRank.all 1 t d 0 _ hj).mono ?_
  rintro e wn' ⟨rfl, hb⟩
  replace HB : Hid (Below w.heap.size w wn') := below_then HB.out HB.out.size (by first | exact hb | exact hb.below)
  clear hb
  go_wp2_with fail
  refine (PW.eggboxlaw01_num.calls 0 0 _ rfl).mono ?_
  rintro e wn' ⟨rfl, hb⟩
  replace HB : Hid (Below w.heap.size w wn') := below_then HB.out HB.out.size (by first | exact hb | exact hb.below)
  clear hb
  go_wp2_with fail
  refine (PW.eggboxlaw01_num.calls 0 0 _ rfl).mono ?_
  rintro e wn' ⟨rfl, hb⟩
  replace HB : Hid (Below w.heap.size w wn') := below_then HB.out HB.out.size (by first | exact hb | exact hb.below)
  clear hb
  go_wp2_with fail
  go_ret
  exact ⟨by first | rfl | (simp [*]; done) | (simp; omega), HB.out⟩

set_option maxHeartbeats 2000000 in
set_option maxRecDepth 100000 in
theorem pBkp (K : Nat) (k0 k : Int) (x y u v wn t : ByteArray) (n a b f g c d i j : Int) (hk0 : PW.eggboxlaw01_letters.f k0 = some 1) (hu : PA.eggboxlaw01_over.f K 1 x = some u) (hv : PA.eggboxlaw01_over.f K 1 y = some v)
    (hN : PW.word_Nth.f K 1 n = some (wn, 6)) (ha : HRank.f 1 u = some (a, 0)) (hb : HRank.f 1 v = some (b, 0)) (hc : PW.word_Compare.f K 1 u v = some (1, 0))
    (hkn : PW.eggboxlaw01_knows.f K = some true) (hab : b < a) (hn : HNext.g 1 u = some (t, 0)) (hj : HRank.f 1 t = some (d, 0)) (hd : d = IntKind.u64.wrap (a + 1)) (w : World) :
    Calls Try.prog 9 #[.int .i64 k0, .string x, .string y, .int .u64 n] w fun e w' => e = .returned (.bool true) ∧ Below w.heap.size w w' := by
  have hnn : (n != n) = false := by simp
  have HB : Hid (Below w.heap.size w w) := Below.refl _ _
  go_enter Try.func9, Try.ntmps9
  go_wp2_with fail
  refine (PW.eggboxlaw01_letters.calls k0 1 _ hk0).mono ?_
  rintro e wn' ⟨rfl, hb⟩
  replace HB : Hid (Below w.heap.size w wn') := below_then HB.out HB.out.size (by first | exact hb | exact hb.below)
  clear hb
  go_wp2_with fail
  refine (PA.eggboxlaw01_over.calls K 1 x u _ hu).mono ?_
  rintro e wn' ⟨rfl, hb⟩
  replace HB : Hid (Below w.heap.size w wn') := below_then HB.out HB.out.size (by first | exact hb | exact hb.below)
  clear hb
  go_wp2_with fail
  refine (PA.eggboxlaw01_over.calls K 1 y v _ hv).mono ?_
  rintro e wn' ⟨rfl, hb⟩
  replace HB : Hid (Below w.heap.size w wn') := below_then HB.out HB.out.size (by first | exact hb | exact hb.below)
  clear hb
  go_wp2_with fail
  refine (PW.word_Nth.calls K 1 n wn 6 _ hN).mono ?_
  rintro e wn' ⟨rfl, hb⟩
  replace HB : Hid (Below w.heap.size w wn') := below_then HB.out HB.out.size (by first | exact hb | exact hb.below)
  clear hb
  go_wp2_with fail
  refine (PW.eggboxlaw01_num.calls 6 6 _ rfl).mono ?_
  rintro e wn' ⟨rfl, hb⟩
  replace HB : Hid (Below w.heap.size w wn') := below_then HB.out HB.out.size (by first | exact hb | exact hb.below)
  clear hb
  go_wp2_with fail
  refine (HRank.all 1 u a 0 _ ha).mono ?_
  rintro e wn' ⟨rfl, hb⟩
  replace HB : Hid (Below w.heap.size w wn') := below_then HB.out HB.out.size (by first | exact hb | exact hb.below)
  clear hb
  go_wp2_with fail
  refine (HRank.all 1 v b 0 _ hb).mono ?_
  rintro e wn' ⟨rfl, hb⟩
  replace HB : Hid (Below w.heap.size w wn') := below_then HB.out HB.out.size (by first | exact hb | exact hb.below)
  clear hb
  go_wp2_with fail
  refine (PW.word_Compare.calls K 1 u v 1 0 _ hc).mono ?_
  rintro e wn' ⟨rfl, hb⟩
  replace HB : Hid (Below w.heap.size w wn') := below_then HB.out HB.out.size (by first | exact hb | exact hb.below)
  clear hb
  go_wp2_with fail
  refine (PW.eggboxlaw01_num.calls 0 0 _ rfl).mono ?_
  rintro e wn' ⟨rfl, hb⟩
  replace HB : Hid (Below w.heap.size w wn') := below_then HB.out HB.out.size (by first | exact hb | exact hb.below)
  clear hb
  go_wp2_with fail
  refine (PW.eggboxlaw01_knows.calls K true _ hkn).mono ?_
  rintro e wn' ⟨rfl, hb⟩
  replace HB : Hid (Below w.heap.size w wn') := below_then HB.out HB.out.size (by first | exact hb | exact hb.below)
  clear hb
  go_wp2_with fail
  refine (PW.eggboxlaw01_num.calls 0 0 _ rfl).mono ?_
  rintro e wn' ⟨rfl, hb⟩
  replace HB : Hid (Below w.heap.size w wn') := below_then HB.out HB.out.size (by first | exact hb | exact hb.below)
  clear hb
  go_wp2_with fail
  refine (PW.eggboxlaw01_num.calls 0 0 _ rfl).mono ?_
  rintro e wn' ⟨rfl, hb⟩
  replace HB : Hid (Below w.heap.size w wn') := below_then HB.out HB.out.size (by first | exact hb | exact hb.below)
  clear hb
  go_wp2_with fail
  refine (HNext.all 1 u t 0 _ hn).mono ?_
  rintro e wn' ⟨rfl, hb⟩
  replace HB : Hid (Below w.heap.size w wn') := below_then HB.out HB.out.size (by first | exact hb | exact hb.below)
  clear hb
  go_wp2_with fail
  refine (PW.eggboxlaw01_num.calls 0 0 _ rfl).mono ?_
  rintro e wn' ⟨rfl, hb⟩
  replace HB : Hid (Below w.heap.size w wn') := below_then HB.out HB.out.size (by first | exact hb | exact hb.below)
  clear hb
  go_wp2_with fail
  refine (HRank.all 1 t d 0 _ hj).mono ?_
  rintro e wn' ⟨rfl, hb⟩
  replace HB : Hid (Below w.heap.size w wn') := below_then HB.out HB.out.size (by first | exact hb | exact hb.below)
  clear hb
  go_wp2_with fail
  refine (PW.eggboxlaw01_num.calls 0 0 _ rfl).mono ?_
  rintro e wn' ⟨rfl, hb⟩
  replace HB : Hid (Below w.heap.size w wn') := below_then HB.out HB.out.size (by first | exact hb | exact hb.below)
  clear hb
  go_wp2_with fail
  refine (PW.eggboxlaw01_num.calls 0 0 _ rfl).mono ?_
  rintro e wn' ⟨rfl, hb⟩
  replace HB : Hid (Below w.heap.size w wn') := below_then HB.out HB.out.size (by first | exact hb | exact hb.below)
  clear hb
  go_wp2_with fail
  go_ret
  exact ⟨by first | rfl | (simp [*]; done) | (simp; omega), HB.out⟩

end Go.Proofs.Ytjkajepkeepelaa.WRank
