/- A Pair: two numbers of 64 digits. Plain. -/
namespace Go.Proofs.Ytpbdncnepcibaaa
abbrev Pair := BitVec 64 × BitVec 64
end Go.Proofs.Ytpbdncnepcibaaa
