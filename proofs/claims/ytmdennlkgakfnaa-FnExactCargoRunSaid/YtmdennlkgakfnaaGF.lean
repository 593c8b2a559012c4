import Derived.Test.YtmdennlkgakfnaaGF12
import Derived.Test.YtmdennlkgakfnaaGF3
import Derived.Test.YtmdennlkgakfnaaGF45
import Derived.Test.YtmdennlkgakfnaaGF0
namespace Go.Proofs.Ytmdennlkgakfnaa.C
open Go.RowKit Go.Proofs.YtmdennlkgakfnaaW.PrintWords Go.Proofs.YtmdennlkgakfnaaW.PrintLast Go.Proofs.YtmdennlkgakfnaaW.PrintMore
theorem spec_CargoStep.calls (A0 : Option Addr) (c0 : Nat) (l0 : List S116) (K A B M lean : Int) (r1 : List S116) (r2 : Int) (w : World) (hr0 : Kd.C k116 w A0 l0.length l0) (hc0 : l0.length ≤ c0) (h : spec_CargoStep.f l0 K A B M lean = some (r1, r2)) :
    Calls Try.prog 82 #[.slice A0 l0.length c0, .agg #[.int .i64 K, .int .i64 A, .int .i64 B, .int .i64 M], .int .i64 lean] w fun e w' => ∃ v0_ : Value, e = .returned (.tuple #[v0_, .int .i64 r2]) ∧ Kd.R k116 116 w' w.heap.size (fun _ => True) v0_ r1 ∧ Below w.heap.size w w' := by
  by_cases h1 : K = 1 ∨ K = 2
  · exact spec_CargoStep.calls12 A0 c0 l0 K A B M lean r1 r2 w h1 hr0 hc0 h
  · by_cases h3 : K = 3
    · exact spec_CargoStep.calls3 A0 c0 l0 K A B M lean r1 r2 w h3 hr0 hc0 h
    · by_cases h4 : K = 4 ∨ K = 5
      · exact spec_CargoStep.calls45 A0 c0 l0 K A B M lean r1 r2 w h4 hr0 hc0 h
      · exact spec_CargoStep.calls0 A0 c0 l0 K A B M lean r1 r2 w (by omega) hr0 hc0 h
end Go.Proofs.Ytmdennlkgakfnaa.C
