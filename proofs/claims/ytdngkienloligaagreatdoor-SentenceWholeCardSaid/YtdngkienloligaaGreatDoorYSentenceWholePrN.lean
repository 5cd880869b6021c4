/- -/
import Derived.Test.YtdngkienloligaaGreatDoorYSentenceWhole4a
import Derived.Test.YtdngkienloligaaGreatDoorYSentenceWhole0a
import Derived.Test.YtdngkienloligaaGreatDoorYSentenceWhole1a
namespace Go.Proofs.YtdngkienloligaaGreatDoor
open Go.RowKit
structure RR (w : World) (p B : Nat) (A : Option Addr) (nn cn : Nat) (names : List (List UInt8)) (rules : List RuleP) (v : Sv) (rest rested : Bool) : Prop where
  blk : Blk w p 155 #[.slice A nn cn, .slice v.1 v.2.1 v.2.2, .bool rest, .bool rested]
  nm : Rd w 1 A (names.map encNm)
  len : names.length = nn
  off : ∀ x, A = some x → x.block < p
  pb : p < B
  bz : B ≤ w.heap.size
  ex : ∃ vs : List Ruv, Own w B 173 9 v.1 v.2.1 v.2.2 (vs.map encRul) ∧ vs.length = rules.length ∧ ∀ (i : Nat) (r : RuleP) (u : Ruv), rules[i]? = some r → vs[i]? = some u → RuX w (OffX B v.1) r u
theorem RR.below {w w' : World} {p B : Nat} {A : Option Addr} {nn cn : Nat} {names : List (List UInt8)} {rules : List RuleP} {v : Sv} {rest rested : Bool} (h : RR w p B A nn cn names rules v rest rested) (hb : Below w.heap.size w w') : RR w' p B A nn cn names rules v rest rested := by
  obtain ⟨vs, h1, h2, h3⟩ := h.ex
  exact ⟨h.blk.below hb, h.nm.below hb, h.len, h.off, h.pb, Nat.le_trans h.bz hb.size, vs, h1.below hb, h2, fun i r u hr hu => (h3 i r u hr hu).below hb⟩
end Go.Proofs.YtdngkienloligaaGreatDoor

