/- Plain Lean for the cluster laws: the cluster classes of characters (no program in sight). No conditions. -/
import Derived.Test.YtffmdnckapalfaaDoorSpecJ
namespace Go.Proofs.YtffmdnckapalfaaDoor.SpecC
open Go.Proofs.YtffmdnckapalfaaDoor.SpecJ
def ctab : List Sp := [⟨13, 13, 1⟩, ⟨10, 10, 2⟩, ⟨0, 9, 3⟩, ⟨11, 12, 3⟩, ⟨14, 31, 3⟩, ⟨127, 159, 3⟩, ⟨173, 173, 3⟩, ⟨8203, 8203, 3⟩, ⟨8206, 8207, 3⟩, ⟨8232, 8238, 3⟩, ⟨8288, 8303, 3⟩, ⟨65279, 65279, 3⟩, ⟨8205, 8205, 5⟩, ⟨768, 879, 4⟩, ⟨1155, 1161, 4⟩, ⟨1425, 1469, 4⟩, ⟨1471, 1471, 4⟩, ⟨1473, 1474, 4⟩, ⟨1476, 1477, 4⟩, ⟨1479, 1479, 4⟩, ⟨1552, 1562, 4⟩, ⟨1611, 1631, 4⟩, ⟨1648, 1648, 4⟩, ⟨1750, 1756, 4⟩, ⟨1759, 1764, 4⟩, ⟨1767, 1768, 4⟩, ⟨1770, 1773, 4⟩, ⟨1809, 1809, 4⟩, ⟨1840, 1866, 4⟩, ⟨1958, 1968, 4⟩, ⟨8400, 8432, 4⟩, ⟨64286, 64286, 4⟩, ⟨65024, 65039, 4⟩, ⟨65056, 65071, 4⟩, ⟨125252, 125258, 4⟩, ⟨917760, 917999, 4⟩, ⟨8204, 8204, 4⟩, ⟨127995, 127999, 4⟩, ⟨127462, 127487, 6⟩, ⟨1536, 1541, 7⟩, ⟨1757, 1757, 7⟩, ⟨4352, 4447, 8⟩, ⟨4448, 4519, 9⟩, ⟨4520, 4607, 10⟩, ⟨169, 169, 13⟩, ⟨174, 174, 13⟩, ⟨8252, 8252, 13⟩, ⟨8265, 8265, 13⟩, ⟨127744, 127994, 13⟩, ⟨128000, 128591, 13⟩]
/-- The cluster class of a character. -/
def cn (r : Int) : Int := if 44032 ≤ r ∧ r ≤ 55203 then (if (r - 44032) % 28 = 0 then 11 else 12) else if r < 0 then 0 else if r ≥ 1114112 then 0 else pickT 0 r ctab
end Go.Proofs.YtffmdnckapalfaaDoor.SpecC
