/- The logic: rows whose items take several cells grow. -/
import Derived.Test.YtamcjecgkfmjkaaAwJ
open Go Go.RowKit
namespace Go.Proofs.Ytamcjecgkfmjkaa
set_option linter.unusedSimpArgs false
section
variable {K : V → St → Prop} {d : Nat} {s : St} {o : Own} {nl : Option Bool}
@[go_sem ↓ 900] theorem e_apM {z : List C} {b sz : Nat} {xs : List D} {x : V} (h : 2 ≤ sz) : aAp2 (some z) (some (b + 1)) o nl sz xs sz x d s K = (z.length = sz ∧ o ≠ .no ∧ aSrc sz x s fun ys =>
    (xs.length + ys.length) / sz * (b + 1) ≤ 140737488355328 ∧ K (.cell (.lst (.tag (.slot [d])) (nlA nl) sz (xs ++ ys))) (s.clean (fun _ => false) (killT o d))) := by
  have h0 : 0 < sz := by omega
  simp [aAp2, h0]
@[go_sem ↓ 900] theorem e_srcM {sz : Nat} {ys : List D} {J : List D → Prop} : aSrc sz (.cell (.lst o nl sz ys)) s J = J ys := by simp [aSrc]
/-- onto nil -/
@[go_sem ↓ 890] theorem e_apM0 {z : List C} {b sz sz' : Nat} {x : V} (h : 2 ≤ sz) : aAp2 (some z) (some (b + 1)) .full nl sz' [] sz x d s K = (z.length = sz ∧ aSrc sz x s fun ys =>
    ys.length / sz * (b + 1) ≤ 140737488355328 ∧ K (.cell (.lst (.tag (.slot [d])) (nlA nl) sz ys)) (s.clean (fun _ => false) (killT .full d))) := by
  have h0 : 0 < sz := by omega
  simp [aAp2, h0]
end
end Go.Proofs.Ytamcjecgkfmjkaa
