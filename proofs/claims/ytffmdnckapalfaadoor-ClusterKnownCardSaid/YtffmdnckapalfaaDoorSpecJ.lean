/- Plain Lean for the joining laws: what the joining types and forms are (no program in sight), and the forms' function over lists.
   No conditions. -/
namespace Go.Proofs.YtffmdnckapalfaaDoor.SpecJ
/-- A row of characters of one joining type. -/
structure Sp where
  a : Int
  b : Int
  v : Int
def jtab : List Sp := [⟨1570, 1573, 1⟩, ⟨1575, 1575, 1⟩, ⟨1577, 1577, 1⟩, ⟨1583, 1586, 1⟩, ⟨1608, 1608, 1⟩, ⟨1649, 1651, 1⟩, ⟨1653, 1655, 1⟩, ⟨1672, 1689, 1⟩, ⟨1728, 1728, 1⟩, ⟨1731, 1739, 1⟩, ⟨1741, 1741, 1⟩, ⟨1743, 1743, 1⟩, ⟨1746, 1747, 1⟩, ⟨1749, 1749, 1⟩, ⟨1774, 1775, 1⟩, ⟨1568, 1568, 2⟩, ⟨1574, 1574, 2⟩, ⟨1576, 1576, 2⟩, ⟨1578, 1582, 2⟩, ⟨1587, 1599, 2⟩, ⟨1601, 1607, 2⟩, ⟨1609, 1610, 2⟩, ⟨1646, 1647, 2⟩, ⟨1656, 1671, 2⟩, ⟨1690, 1727, 2⟩, ⟨1729, 1730, 2⟩, ⟨1740, 1740, 2⟩, ⟨1742, 1742, 2⟩, ⟨1744, 1745, 2⟩, ⟨1786, 1788, 2⟩, ⟨1791, 1791, 2⟩, ⟨1600, 1600, 3⟩, ⟨8205, 8205, 3⟩, ⟨768, 879, 4⟩, ⟨1155, 1161, 4⟩, ⟨1425, 1469, 4⟩, ⟨1471, 1471, 4⟩, ⟨1473, 1474, 4⟩, ⟨1476, 1477, 4⟩, ⟨1479, 1479, 4⟩, ⟨1552, 1562, 4⟩, ⟨1611, 1631, 4⟩, ⟨1648, 1648, 4⟩, ⟨1750, 1756, 4⟩, ⟨1759, 1764, 4⟩, ⟨1767, 1768, 4⟩, ⟨1770, 1773, 4⟩, ⟨1809, 1809, 4⟩, ⟨1840, 1866, 4⟩, ⟨1958, 1968, 4⟩, ⟨8400, 8432, 4⟩, ⟨64286, 64286, 4⟩, ⟨65024, 65039, 4⟩, ⟨65056, 65071, 4⟩, ⟨125252, 125258, 4⟩, ⟨917760, 917999, 4⟩, ⟨173, 173, 4⟩, ⟨8203, 8203, 4⟩, ⟨8206, 8207, 4⟩, ⟨8234, 8238, 4⟩, ⟨8288, 8292, 4⟩, ⟨65279, 65279, 4⟩]
/-- The first row that has r tells its value; none: o. -/
def pickT (o r : Int) : List Sp → Int
  | [] => o
  | x :: l => if r ≥ x.a then (if r ≤ x.b then x.v else pickT o r l) else pickT o r l
/-- The joining type of a character. -/
def jn (r : Int) : Int := if r < 0 then 0 else if r ≥ 1114112 then 0 else pickT 0 r jtab
/-- Two characters join, by their types. -/
def jb (x y : Int) : Bool := (x == 2 || x == 3 || x == 5) && (y == 1 || y == 2 || y == 3)
/-- The form by whether a character is joined ahead and behind, and its type. -/
def frm (a b : Bool) (t : Int) : Int :=
  if t = 1 then (if a then 4 else 1) else if t = 5 then (if b then 2 else 1) else if t = 2 then (if a then (if b then 3 else 4) else (if b then 2 else 1)) else 0
/-- The first type that is not passed over. -/
def nx : List Int → Option Int
  | [] => none
  | c :: l => if c = 4 then nx l else some c
/-- Joined to a neighbour ahead (a type, if there is one), or behind. -/
def jp (p : Option Int) (c : Int) : Bool := match p with | none => false | some a => jb a c
def js (c : Int) (n : Option Int) : Bool := match n with | none => false | some b => jb c b
/-- The forms of characters of these types, p being the neighbour ahead of the first. -/
def fl : Option Int → List Int → List Int
  | _, [] => []
  | p, c :: l => frm (jp p c) (js c (nx l)) c :: fl (if c = 4 then p else some c) l
/-- The forms of characters. -/
def forms (l : List Int) : List Int := fl none (l.map jn)
theorem fl_length : ∀ (l : List Int) (p : Option Int), (fl p l).length = l.length
  | [], _ => rfl
  | c :: l, p => by simp [fl, fl_length l]
theorem forms_length (l : List Int) : (forms l).length = l.length := by simp [forms, fl_length]
end Go.Proofs.YtffmdnckapalfaaDoor.SpecJ
