/- The walk of skew.Meet. -/
import Derived.Test.YtbffhblebigcfaaCPrGVote

