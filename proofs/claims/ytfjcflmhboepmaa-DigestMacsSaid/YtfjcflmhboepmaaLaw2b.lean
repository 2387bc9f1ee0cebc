/- The law DigestMacs of chapter 2, walked. -/
import Derived.Test.YtfjcflmhboepmaaLaw2
import Derived.Deep.RegionWith
open Go Go.RowKit
namespace Go.Proofs.Ytfjcflmhboepmaa
section
attribute [local go_sem high] run_cutH8
set_option maxRecDepth 100000 in
set_option maxHeartbeats 2000000 in
theorem digestMacs (w : World) (A : Option Addr) (n c : Nat) (key : List UInt8) (hn : key.length = n) (hr : Rd w A (key.map BV)) (hm : n ≤ 140737488355328) (B : Option Addr) (m d : Nat) (p : List UInt8) (hn2 : p.length = m) (hr2 : Rd w B (p.map BV)) (hm2 : m ≤ 140737488355328) :
    Calls Try.prog 4 #[.slice A n c, .slice B m d] w fun e w' => e = .returned (.bool true) ∧ Kept [] w w' := by
  have HR := hide hr; have HN := hide hn; have HR2 := hide hr2; have HN2 := hide hn2
  clear hr hn hr2 hn2
  have hw : IntKind.i64.wrap ((n : Int) + (m : Int)) = (n : Int) + m := IntWalk.i64_in _ (by omega)
  go_enter Try.func4, Try.ntmps4
  by_cases hbig : 1500 < n + m
  · have hb : decide ((1500 : Int) < (n : Int) + m) = true := by simp; omega
    go_wp2
    go_ret
    exact ⟨rfl, Kept.refl _ _⟩
  · have hb : decide ((1500 : Int) < (n : Int) + m) = false := by simp; omega
    go_wp2_with fail
    (with_reducible refine (L2.roomy _ A n c key HN.out HR.out (by omega)).mono ?_)
    rintro e w1 ⟨A1, c1, rfl, hr1, hc1, hk1⟩
    have HR1 := hide hr1; have HK1 := hide hk1
    clear hr1 hk1
    go_wp2_with fail
    (with_reducible refine (L2.roomy _ B m d p HN2.out (HR2.out.kept HK1.out (by simp)) (by omega)).mono ?_)
    rintro e w2 ⟨B1, d1, rfl, hr2, hd1, hk2⟩
    have HR2b := hide hr2; have HK2 := hide (HK1.out.trans hk2); have HR1b := hide (HR1.out.kept hk2 (by simp))
    clear hr2 hk2 HK1 HR1
    have HS := eqSame (macS key p) (macS_len _ _)
    have hnc : n ≤ c1 := by omega
    have hnd : m ≤ d1 := by omega
    go_wp2_with fail
    go_region_with (first
      | (refine (dMac _ A1 B1 n c1 m d1 key p HN.out ?_ (by omega) (by omega) HN2.out ?_ (by omega)).mono ?_
         exact HR1b.out.front
         exact HR2b.out.front
         rintro e w3 ⟨rfl, hk3⟩
         have HK3 : Hid (Kept [] w w3) := hide (HK2.out.drew.trans hk3)
         have hr1c : Rd w3 A1 _ := Rd.kept (w := w2.drew) HR1b.out hk3 (by simp)
         have hr2c : Rd w3 B1 _ := Rd.kept (w := w2.drew) HR2b.out hk3 (by simp)
         have HR1c := hide hr1c; have HR2c := hide hr2c
         clear hk3 HK2 hr1c hr2c HR1b HR2b)
      | (refine (rMac _ A B n c m d key p HN.out (HR.out.kept HK3.out (by simp)) (by omega) HN2.out (HR2.out.kept HK3.out (by simp)) (by omega)).mono ?_
         rintro e w4 ⟨rfl, hk4⟩
         have HK4 := hide (HK3.out.trans hk4); have HR1d := hide (HR1c.out.kept hk4 (by simp)); have HR2d := hide (HR2c.out.kept hk4 (by simp))
         clear hk4 HK3 HR1c HR2c)
      | (refine (L2.stands _ A1 A n c1 (n + 1) c key HN.out rfl HR1d.out (HR.out.kept HK4.out (by simp)) hc1 (by omega)).mono ?_
         rintro e w5 ⟨rfl, hk5⟩
         have HK5 := hide (HK4.out.trans hk5); have HR2e := hide (HR2d.out.kept hk5 (by simp))
         clear hk5 HK4 HR1d HR2d)
      | (refine (L2.stands _ B1 B m d1 (m + 1) d p HN2.out rfl HR2e.out (HR2.out.kept HK5.out (by simp)) hd1 (by omega)).mono ?_
         rintro e w6 ⟨rfl, hk6⟩
         have HK6 := hide (HK5.out.trans hk6)
         clear hk6 HK5)
      | (refine (known2 _).mono ?_
         rintro e w7 ⟨rfl, hk7⟩
         have HK7 := HK6.out.trans hk7
         clear hk7 HK6))
    all_goals (go_wp2; go_ret; exact ⟨rfl, HK7⟩)
end
end Go.Proofs.Ytfjcflmhboepmaa
