/-
  The document's own Plain, whole. Conditions: at most 1048576 of each, each list rising by its ids.
-/
import Derived.Test.YtenkdjfikppkdaaGreatDoorRfDa
import Derived.Test.YtenkdjfikppkdaaGreatDoorRfDb
import Derived.Test.YtenkdjfikppkdaaGreatDoorRfDc
namespace Go.Proofs.YtenkdjfikppkdaaGreatDoor
open Go.RowKit Go.Al
theorem plainRf_ok {A1 A2 : Option Addr} {c1 c2 : Nat} {p s : List P3} (q : Qy) (w : World) (hc : checkE q = 0) (h1 : Row3 w A1 p.length c1 p) (h2 : Row3 w A2 s.length c2 s) (hp : p.length ≤ 1048576) (hs : s.length ≤ 1048576) (sp : Srt p) (ss : Srt s) :
    Calls Tryz.prog 33 #[qV q, .slice A1 p.length c1, .slice A2 s.length c2] w (PlainREnd w (idsOf q p s).length (lstOf q p s)) := by
  have hk : q.k = 1 ∨ q.k = 2 ∨ q.k = 3 ∨ q.k = 4 ∨ q.k = 5 ∨ q.k = 6 ∨ q.k = 7 := by
    cases h : pointsB q
    · have := check_span hc h; omega
    · unfold pointsB at h; simp at h; omega
  rcases hk with h | h | h | h | h | h | h
  · exact plainRf_k1 q w hc h h1 h2 hp hs sp ss
  · exact plainRf_k2 q w hc h h1 h2 hp hs sp ss
  · exact plainRf_k3 q w hc h h1 h2 hp hs sp ss
  · exact plainRf_k4 q w hc h h1 h2 hp hs sp ss
  · exact plainRf_k5 q w hc h h1 h2 hp hs sp ss
  · exact plainRf_k6 q w hc h h1 h2 hp hs sp ss
  · exact plainRf_k7 q w hc h h1 h2 hp hs sp ss
end Go.Proofs.YtenkdjfikppkdaaGreatDoor
